/- Plain: a list of what is sent is as itself. -/
import Derived.Test.YtpogiondpbfjkaaNew
import Derived.Test.YtpogiondpbfjkaaSmall
namespace Go.Proofs.Ytpogiondpbfjkaa
open Go.RowKit Go.Conc
theorem one_same (a b : Int) (w : World) : Calls Try.prog 30 #[.agg #[.int .i64 a, .int .i64 b], .agg #[.int .i64 a, .int .i64 b]] w (TestIs w true) := by
  go_enter Try.func30, Try.ntmps30
  go_wp2_with fail
  go_ret
  exact ⟨by simp, below_new (below_new (Below.refl _ _) _) _⟩
theorem ReadS.keep {X y : World} {A : Option Addr} {L : List (Int × Int)} (h : ReadS X A L) (hb : Below X.heap.size X y) : ReadS y A L := by
  rcases h with h | ⟨g, h1, h2, h3⟩
  · exact .inl h
  · exact .inr ⟨g, h1, Nat.lt_of_lt_of_le h2 hb.size, fun j u hj => keep_cell hb (h3 j u hj)⟩
theorem ReadS.at {w : World} {A : Option Addr} {L : List (Int × Int)} {i : Nat} {p : Int × Int} (h : ReadS w A L) (hi : L[i]? = some p) : ∃ g, A = some ⟨g, 0, none⟩ ∧ g < w.heap.size ∧ w.cell? ⟨g, i * 2, none⟩ = some (.int .i64 p.1) ∧ w.cell? ⟨g, i * 2 + 1, none⟩ = some (.int .i64 p.2) := by
  rcases h with h | ⟨g, h1, h2, h3⟩
  · rw [h] at hi; simp at hi
  · obtain ⟨k1, k2⟩ := sentCells_get L i p hi
    exact ⟨g, h1, h2, h3 _ _ k1, h3 _ _ k2⟩
set_option maxHeartbeats 1000000 in
theorem same_any (A A' : Option Addr) (c c' : Nat) (L : List (Int × Int)) (hm : L.length ≤ 1000000) (w : World) (h : ReadS w A L) (h' : ReadS w A' L) :
    Calls Try.prog 29 #[.slice A L.length c, .slice A' L.length c', .func (.func 30) #[] #[]] w (TestIs w true) := by
  have H1 := Lib.hid h
  have H2 := Lib.hid h'
  clear h h'
  go_enter Try.func29, Try.ntmps29
  go_wp2_with fail
  go_loopw [7] (fun s7 wr => ∃ k : Nat, s7 = .int .i64 k ∧ k ≤ L.length ∧ Below w.heap.size w wr) (fun s7 _ => L.length - (intOf s7).toNat)
  case atStart => exact ⟨0, rfl, by omega, Below.refl _ _⟩
  case round =>
    obtain ⟨k, rfl, hk, hbel⟩ := hrel
    have HB := Lib.hid hbel
    clear hbel
    by_cases hlt : k < L.length
    · have hd : decide (k < L.length) = true := decide_eq_true hlt
      have HLT := Lib.hid hlt
      have hlt' : (k : Int) < (L.length : Int) := by omega
      obtain ⟨p, hp⟩ : ∃ p, L[k]? = some p := ⟨_, List.getElem?_eq_getElem hlt⟩
      obtain ⟨g, hA, hgl, q0, q1⟩ := (H1.out.keep HB.out).at hp
      obtain ⟨g', hA', hgl', q0', q1'⟩ := (H2.out.keep HB.out).at hp
      subst hA hA'
      obtain ⟨a, b⟩ := p
      simp only at q0 q1 q0' q1'
      clear hp
      go_upto_region 6 with fail
      go_region_held3 (fun x => x.cell? ⟨g, k * 2, none⟩ = some (.int .i64 a) ∧ x.cell? ⟨g, k * 2 + 1, none⟩ = some (.int .i64 b) ∧ x.cell? ⟨g', k * 2, none⟩ = some (.int .i64 a) ∧ x.cell? ⟨g', k * 2 + 1, none⟩ = some (.int .i64 b)) (first | exact ⟨cell_drew q0, cell_drew q1, cell_drew q0', cell_drew q1'⟩ | exact mm) (first | (go_at_call 30; refine (one_same a b _).mono ?_; rintro e w2 ⟨rfl, hb2⟩; have HB2 := Lib.hid (below_call (Below.drew HB.out) hb2); have mm := (show _ ∧ _ ∧ _ ∧ _ from ⟨keep_cell hb2 (cell_drew q0), keep_cell hb2 (cell_drew q1), keep_cell hb2 (cell_drew q0'), keep_cell hb2 (cell_drew q1')⟩)))
      all_goals
        clear q0 q1 q0' q1' mm hb2
        go_wp2_with fail
        go_roundw
        case rel => exact ⟨k + 1, by go_num, HLT.out, HB2.out⟩
        case measure => have := HLT.out; simp [intOf]; omega
    · obtain rfl : k = L.length := by omega
      have hd : decide (L.length < L.length) = false := decide_eq_false (by omega)
      clear hlt
      go_wp2_with fail
      go_ret
      exact ⟨rfl, HB.out⟩
theorem plain_any (A A' : Option Addr) (c c' : Nat) (L : List (Int × Int)) (hm : L.length ≤ 1000000) (w : World) (h : ReadS w A L) (h' : ReadS w A' L) :
    Calls Try.prog 15 #[.slice A L.length c, .slice A' L.length c'] w (TestIs w true) := by
  go_enter Try.func15, Try.ntmps15
  go_wp2_with fail
  refine (same_any A A' c c' L hm w h h').mono ?_
  rintro e w2 ⟨rfl, hb2⟩
  have HB2 := Lib.hid hb2
  clear hb2
  go_wp2_with fail
  go_ret
  exact ⟨rfl, HB2.out⟩
end Go.Proofs.Ytpogiondpbfjkaa
