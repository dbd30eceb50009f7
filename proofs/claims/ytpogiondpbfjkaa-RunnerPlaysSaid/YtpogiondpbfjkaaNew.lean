/- New: a runner of stages. -/
import Derived.Test.YtpogiondpbfjkaaStages
namespace Go.Proofs.Ytpogiondpbfjkaa
open Go.RowKit Go.Conc
theorem blk_grown {X y : World} {b : Nat} {cs : Array Value} {t B e s n : Nat} {v : Value} {xs : List Value} (h : X.heap[b]? = some (.cells cs t)) (ho : X.ownsRow B e s v n xs) (hne : t ≠ e) (hg : X.grownBy y v.ownBlock) : y.heap[b]? = some (.cells cs t) := by
  rw [hg.block b (blk_lt h)]
  · exact h
  · intro he
    obtain ⟨_, cur, hc⟩ := owns_block ho b he.symm
    rw [h] at hc; simp at hc; exact hne hc.2
theorem owns_set {X : World} {b i : Nat} {cs : Array Value} {t B e s n : Nat} {v u : Value} {xs : List Value} (h : X.heap[b]? = some (.cells cs t)) (ho : X.ownsRow B e s v n xs) (hne : t ≠ e) : (X.setCell ⟨b, i, none⟩ u).ownsRow B e s v n xs := by
  obtain ⟨h0, h1⟩ := ho
  refine ⟨h0, ?_⟩
  rcases h1 with h1 | ⟨g, cap, cur, h1, h2, h3, h4⟩
  · exact .inl h1
  · refine .inr ⟨g, cap, cur, h1, h2, ?_, h4⟩
    have : g ≠ b := fun e => by subst e; rw [h] at h3; simp at h3; exact hne h3.2
    rw [Below.heap_setCell X ⟨b, i, none⟩ u g this]; exact h3
theorem owns_new {X : World} {o : Obj} {B e s n : Nat} {v : Value} {xs : List Value} (ho : X.ownsRow B e s v n xs) : (X.alloc o).ownsRow B e s v n xs := owns_keep ho (below_new (Below.refl _ _) _)
/-- A new runner. -/
def Rn.new (L : List Nat) : Rn := ⟨List.replicate L.sum ⟨0, 0, 0⟩, L, 0, 0, false, 0⟩
theorem Rn.Ok.new {L : List Nat} (h1 : L.sum ≤ 1000) (h2 : L.length ≤ 1000) : (Rn.new L).Ok := ⟨by simp [Rn.new], by simp [Rn.new], by simpa [Rn.new] using h1, h2, by simp [Rn.new]⟩
def zeros3 (n : Nat) : List Value := List.replicate (n * 3) (.int .i64 0)
theorem zeros3_eq (n : Nat) : (Builtin.zeroCells (Value.agg #[.int .i64 0, .int .i64 0, .int .i64 0]).cells n).toList = zeros3 n := by
  have hc : (Value.agg #[.int .i64 0, .int .i64 0, .int .i64 0]).cells = #[.int .i64 0, .int .i64 0, .int .i64 0] := by rfl
  rw [hc]
  refine List.eq_replicate_iff.2 ⟨by simp [Builtin.zeroCells], fun u hu => ?_⟩
  simp only [Builtin.zeroCells, Array.toList_map, List.mem_map] at hu
  obtain ⟨j, _, rfl⟩ := hu
  have hj : j % 3 < 3 := Nat.mod_lt _ (by decide)
  simp only [List.size_toArray, List.length_cons, List.length_nil]
  match j % 3, hj with
  | 0, _ => rfl
  | 1, _ => rfl
  | 2, _ => rfl
theorem zeros3_add (a b : Nat) : zeros3 a ++ zeros3 b = zeros3 (a + b) := by simp [zeros3, Nat.add_mul]
/-- What a runner in the making holds. -/
def Half (w wr : World) (L : List Nat) : Prop :=
  ∃ A c S sc, wr.heap[w.heap.size]? = some (.cells #[.slice A L.sum c, .slice S L.length sc, .int .i64 0, .int .i64 0, .bool false, .int .i64 0] 55) ∧ wr.ownsRow w.heap.size 60 3 (.slice A L.sum c) L.sum (zeros3 L.sum) ∧ wr.ownsRow w.heap.size 3 1 (.slice S L.length sc) L.length (L.map fun (i : Nat) => Value.int .i64 i)
/-- New's answer. -/
def NewIs (w : World) (L : List Nat) (e : Ending) (w' : World) : Prop :=
  ∃ R G A c S sc, e = .returned (.pointer (some ⟨R, 0, none⟩)) ∧ w.heap.size ≤ R ∧ w.heap.size ≤ G ∧ RunAt w' R G A c S sc (Rn.new L) ∧ Below w.heap.size w w'
theorem Half.run {w wr : World} {L : List Nat} (h : Half w wr L) : ∃ G A c S sc, w.heap.size ≤ G ∧ RunAt wr w.heap.size G A c S sc (Rn.new L) := by
  obtain ⟨A, c, S, sc, h1, h2, h3⟩ := h
  have hS : (Rn.new L).sizes = [] ∨ ∃ sb, S = some ⟨sb, 0, none⟩ ∧ sb ≠ w.heap.size ∧ IntRow wr sb L ∧ ∀ g cur, wr.heap[g]? = some (.cells cur 60 (0, 0)) → sb ≠ g := by
    rcases h3.2 with ⟨_, hz⟩ | ⟨g, cap, cur, hv, _, hb, hn, _, hs, ht⟩
    · exact .inl (List.length_eq_zero_iff.1 hz)
    · simp only [Value.slice.injEq] at hv
      refine .inr ⟨g, hv.1, fun e => by subst e; rw [h1] at hb; simp at hb, ⟨cur, 3, hb, fun i hi => ?_⟩, fun g' cur' hg' e => by subst e; rw [hg'] at hb; simp at hb⟩
      have : (cur.toList.take (L.length * 1))[i]? = some (.int .i64 (L.getD i 0 : Nat)) := by
        rw [ht, List.getElem?_map, List.getElem?_eq_getElem hi, List.getD_eq_getElem?_getD, List.getElem?_eq_getElem hi]; rfl
      rw [List.getElem?_take] at this
      split at this
      · simpa using this
      · cases this
  rcases h2.2 with ⟨hv, hz⟩ | ⟨g, cap, cur, hv, hg, hb, hn, _, hs, ht⟩
  · refine ⟨w.heap.size, A, c, S, sc, Nat.le_refl _, ⟨55, by simpa [Rn.new] using h1⟩, .inl ⟨by simp [Rn.new, hz], rfl⟩, ?_⟩
    rcases hS with h | ⟨sb, e1, e2, e3, _⟩
    · exact .inl h
    · exact .inr ⟨sb, e1, e2, e2, e3⟩
  · simp only [Value.slice.injEq] at hv
    refine ⟨g, A, c, S, sc, hg, ⟨55, by simpa [Rn.new] using h1⟩, .inr ⟨fun e => by subst e; rw [h1] at hb; simp at hb, hv.1, cur, 60, hb, fun i hi => ?_⟩, ?_⟩
    · have hi : i < L.sum := by simpa [Rn.new] using hi
      have hq : (Rn.new L).l.getD i default = ⟨0, 0, 0⟩ := by simp [Rn.new, List.getD_eq_getElem?_getD, hi]
      rw [hq]
      have hk : ∀ j, j < 3 → cur[i * 3 + j]? = some (.int .i64 0) := fun j hj => by
        have : (cur.toList.take (L.sum * 3))[i * 3 + j]? = some (.int .i64 0) := by
          rw [ht, zeros3, List.getElem?_replicate, if_pos (by omega)]
        rw [List.getElem?_take] at this
        split at this
        · simpa using this
        · cases this
      exact ⟨hk 0 (by decide), hk 1 (by decide), hk 2 (by decide)⟩
    · rcases hS with h | ⟨sb, e1, e2, e3, e4⟩
      · exact .inl h
      · exact .inr ⟨sb, e1, e2, e4 g cur hb, e3⟩
set_option maxHeartbeats 2000000 in
theorem new_any (A0 : Option Addr) (c0 : Nat) (L : List Nat) (h1 : L.length ≤ 1000) (h2 : L.sum ≤ 1000) (w : World) (ha : RowsAt w A0 L) :
    Calls Try.prog 8 #[.slice A0 L.length c0] w (NewIs w L) := by
  have HA := Lib.hid ha
  clear ha
  go_enter Try.func8, Try.ntmps8
  go_wp2_with fail
  go_loopw [10] (fun s10 wr => ∃ k : Nat, s10 = .int .i64 k ∧ k ≤ L.length ∧ Half w wr (L.take k) ∧ Below w.heap.size w wr) (fun s10 _ => L.length - (intOf s10).toNat)
  case atStart => exact ⟨0, rfl, by omega, ⟨none, 0, none, 0, heap_top0, ⟨rfl, .inl ⟨rfl, rfl⟩⟩, ⟨rfl, .inl ⟨rfl, rfl⟩⟩⟩, below_new (Below.refl _ _) _⟩
  case round =>
    obtain ⟨k, rfl, hk, hhalf, hbel⟩ := hrel
    have HB := Lib.hid hbel
    by_cases hlt : k < L.length
    · have hd : decide (k < L.length) = true := decide_eq_true hlt
      have HLT := Lib.hid hlt
      have HT := Lib.hid (show L.take (k + 1) = L.take k ++ [L.getD k 0] by rw [List.take_add_one, List.getD_eq_getElem?_getD, List.getElem?_eq_getElem hlt]; rfl)
      have HS1 := Lib.hid (show (L.take k).sum + L.getD k 0 ≤ 1000 by have := sum_take_succ L k hlt; have := sum_take_le L (k + 1); omega)
      have HTL := Lib.hid (show (L.take k).length = k by rw [List.length_take]; omega)
      obtain ⟨g, rfl, hgl, hg⟩ : ∃ g, A0 = some ⟨g, 0, none⟩ ∧ g < w.heap.size ∧ ∃ Ai ci, w.cell? ⟨g, k, none⟩ = some (.slice Ai (L.getD k 0) ci) := by
        rcases HA.out with h | ⟨g, e1, e2, e3⟩
        · rw [h] at hlt; simp at hlt
        · exact ⟨g, e1, e2, e3 k hlt⟩
      obtain ⟨Ai, ci, hgc⟩ := hg
      have hcw := keep_cell hbel hgc
      generalize L.getD k 0 = m at *
      obtain ⟨A, c, S, sc, hblk, ho1, ho2⟩ := hhalf
      have HBLK := Lib.hid hblk
      have HO1 := Lib.hid ho1
      have HO2 := Lib.hid ho2
      obtain ⟨cc, zc⟩ := blk_cells hblk
      generalize L.take k = T at *
      clear hlt hblk ho1 ho2 hbel hgc
      obtain ⟨i0, hi, hz0, hz1, hz2⟩ := info_parts info3
      have HI := Lib.hid hi
      have HZ0 := Lib.hid hz0
      have HZ1 := Lib.hid hz1
      have HZ2 := Lib.hid hz2
      clear hi hz0 hz1 hz2
      go_wp2_with (at_builtin; refine wpList_append_own _ rfl (.tmp 18) (.tmp 21) 26 rfl w.heap.size 3 i0 (.int .i64 0) 1 8 Try.underlying26 HI.out HZ0.out HZ1.out HZ2.out rfl (by decide) _ T.length (T.map fun (i : Nat) => Value.int .i64 i) rfl ?hown ⟨wr.heap.size, 0, none⟩ 1 1 [.int .i64 m] rfl rfl (cell_one_new _ _ _) ?h1 ?h63 ?hbytes ?hbase ?_)
      case hown => exact owns_new HO2.out
      case h1 => intro u hu; simp at hu; subst hu; rfl
      case h63 => simp only [maxLen]; have := HTL.out; omega
      case hbytes => have := HTL.out; omega
      case hbase => exact (below_new HB.out _).size
      intro v2 w2 hown2 hg2 _
      have HB2 := Lib.hid ((below_new HB.out _).grown hg2 (below_new HB.out _).size (fun g e => (owns_block HO2.out g e).1))
      have HBLK2 := Lib.hid (blk_grown (heap_old HBLK.out) (owns_new HO2.out) (by decide) hg2)
      have HO12 := Lib.hid (owns_apart (owns_new HO1.out) (owns_new HO2.out) (by decide) hg2)
      have HO22 := Lib.hid hown2
      obtain ⟨A2, c2, rfl⟩ := owns_slice hown2
      obtain ⟨cc2, zc2⟩ := blk_cells HBLK2.out
      clear hown2 hg2 cc zc hcw
      obtain ⟨i6, hi6, hy0, hy1, hy2⟩ := info_parts info60
      have W3 := Lib.hid (show (w2.setCell ⟨w.heap.size, 1, none⟩ (.slice A2 (T.length + 1) c2)).heap[w.heap.size]? = some (.cells #[.slice A T.sum c, .slice A2 (T.length + 1) c2, .int .i64 0, .int .i64 0, .bool false, .int .i64 0] 55) from heap_set_same HBLK2.out)
      have HB3 := Lib.hid (show Below w.heap.size w (w2.setCell ⟨w.heap.size, 1, none⟩ (.slice A2 (T.length + 1) c2)) from below_set HB2.out (Nat.le_refl _))
      have HO13 := Lib.hid (show (w2.setCell ⟨w.heap.size, 1, none⟩ (.slice A2 (T.length + 1) c2)).ownsRow w.heap.size 60 3 (.slice A T.sum c) T.sum (zeros3 T.sum) from owns_set HBLK2.out HO12.out (by decide))
      have HO23 := Lib.hid (show (w2.setCell ⟨w.heap.size, 1, none⟩ (.slice A2 (T.length + 1) c2)).ownsRow w.heap.size 3 1 (.slice A2 (T.length + 1) c2) (T.length + 1) ((T.map fun (i : Nat) => Value.int .i64 i) ++ [.int .i64 m]) from owns_set HBLK2.out HO22.out (by decide))
      have hzer := run_own_zeros (P := Try.prog) (w := w2.setCell ⟨w.heap.size, 1, none⟩ (.slice A2 (T.length + 1) c2)) w.heap.size 53 3 53 60 i6 (.agg #[.int .i64 0, .int .i64 0, .int .i64 0]) .i64 .i64 Try.underlying53 Try.underlying3 hi6 hy0 (by rw [hy1]; rfl) (by decide) (by rw [hy1]; decide) (.slice A T.sum c) T.sum (zeros3 T.sum) (by rw [hy1]; exact HO13.out) m (by simp only [maxLen]; have := HS1.out; omega) (by rw [hy2]; have := HS1.out; omega) HB3.out.size
      rw [hy1, zeros3_eq, zeros3_add] at hzer
      obtain ⟨v4, w4, hrun, hown4, hg4⟩ := hzer
      have HRUN := Lib.hid hrun
      have HB4 := Lib.hid (HB3.out.grown hg4 HB3.out.size (fun g e => (owns_block HO13.out g e).1))
      have HBLK4 := Lib.hid (blk_grown W3.out HO13.out (by decide) hg4)
      have HO24 := Lib.hid (owns_apart HO23.out HO13.out (by decide) hg4)
      have HO14 := Lib.hid hown4
      obtain ⟨A4, c4, rfl⟩ := owns_slice hown4
      obtain ⟨cc4, zc4⟩ := blk_cells HBLK4.out
      clear hrun hown4 hg4 hi6 hy0 hy1 hy2
      go_wp2_with (at_builtin; refine Lib.wpList_append_run _ rfl (.tmp 29) (.tmp 31) 53 3 rfl _ _ rfl rfl _ _ HRUN.out ?_)
      clear cc2 zc2
      go_wp2_with fail
      go_roundw
      case rel =>
        refine ⟨k + 1, by go_num, by have := HLT.out; omega, ?_, below_set HB4.out (Nat.le_refl _)⟩
        rw [HT.out]
        refine ⟨A4, c4, A2, c2, ?_, ?_, ?_⟩
        · rw [List.sum_append, List.length_append]
          simpa using heap_set_same (i := 0) (v := .slice A4 (T.sum + m) c4) HBLK4.out
        · rw [List.sum_append, List.sum_singleton]
          exact owns_set HBLK4.out HO14.out (by decide)
        · rw [List.length_append, List.map_append]
          exact owns_set HBLK4.out HO24.out (by decide)
      case measure => have := HLT.out; simp [intOf]; omega
    · obtain rfl : k = L.length := by omega
      have hd : decide (L.length < L.length) = false := decide_eq_false (by omega)
      rw [List.take_length] at hhalf
      have HH := Lib.hid hhalf
      clear hlt hhalf hbel
      go_wp2_with fail
      go_ret
      obtain ⟨G, A, c, S, sc, h1, h2⟩ := HH.out.run
      exact ⟨_, G, A, c, S, sc, rfl, Nat.le_refl _, h1, h2, HB.out⟩
end Go.Proofs.Ytpogiondpbfjkaa
