/- Same, Plain at bytes; Kept; Record; Same at records. -/
import Derived.Test.YthdeecnppmheoaaOwn
import Derived.Test.YthdeecnppmheoaaRscan
namespace Go.Proofs.Ythdeecnppmheoaa
open Go.RowKit
set_option maxHeartbeats 400000 in
theorem eq8_any (x : Int) (w : World) : Calls Try.prog 31 #[.int .u8 x, .int .u8 x] w fun e w' => e = .returned (.bool true) ∧ w' = w := by
  go_enter Try.func31, Try.ntmps31
  go_wp2
  go_ret
  exact ⟨by simp, rfl⟩
theorem Read8.at {w : World} {A : Option Addr} {l : List Int} {i : Nat} (h : Read8 w A l) (hi : i < l.length) : ∃ b off, A = some ⟨b, off, none⟩ ∧ b < w.heap.size ∧ w.cell? ⟨b, off + i, none⟩ = some (.int .u8 (l.getD i 0)) := by
  rcases h with rfl | ⟨b, off, e, hb, hc⟩
  · simp at hi
  · exact ⟨b, off, e, hb, hc i hi⟩
set_option maxHeartbeats 1000000 in
theorem same8_any (A B : Option Addr) (c d : Nat) (l : List Int) (w : World) (hl : l.length ≤ 4294967295) (hA : Read8 w A l) (hB : Read8 w B l) :
    Calls Try.prog 30 #[.slice A l.length c, .slice B l.length d, .func (.func 31) #[] #[]] w fun e w' => e = .returned (.bool true) ∧ Below w.heap.size w w' := by
  have HA := Lib.hid hA
  have HB := Lib.hid hB
  clear hA hB
  go_enter Try.func30, Try.ntmps30
  go_wp2_with fail
  go_loopw [7] (fun s7 wr => ∃ k : Nat, s7 = .int .i64 k ∧ k ≤ l.length ∧ Below w.heap.size w wr) (fun s7 _ => l.length - (intOf s7).toNat)
  case atStart => exact ⟨0, rfl, Nat.zero_le _, Below.refl _ _⟩
  case round =>
    obtain ⟨k, rfl, hk, hbel⟩ := hrel
    by_cases hlt : k < l.length
    · obtain ⟨b, off, rfl, hb, hc0⟩ := HA.out.at hlt
      obtain ⟨b', off', rfl, hb', hc0'⟩ := HB.out.at hlt
      have hc : wr.cell? ⟨b, off + k, none⟩ = some (.int .u8 (l.getD k 0)) := by rw [hbel.cell (p := ⟨b, off + k, none⟩) hb]; exact hc0
      have hc' : wr.cell? ⟨b', off' + k, none⟩ = some (.int .u8 (l.getD k 0)) := by rw [hbel.cell (p := ⟨b', off' + k, none⟩) hb']; exact hc0'
      clear hc0 hc0'
      generalize l.getD k 0 = s at *
      go_wp2_with fail
      go_region_held3 (fun w' => w'.cell? ⟨b, off + k, none⟩ = some (.int .u8 s) ∧ w'.cell? ⟨b', off' + k, none⟩ = some (.int .u8 s)) (first | exact ⟨hc, hc'⟩ | exact ⟨cell_drew hc, cell_drew hc'⟩) (first | (go_at_call 31; refine (eq8_any _ _).mono ?_; rintro e w1 ⟨rfl, rfl⟩))
      all_goals
        go_wp2_with fail
        go_roundw
        case rel => exact ⟨k + 1, by go_num, by omega, Below.drew hbel⟩
        case measure => simp [intOf]; omega
    · go_wp2
      go_ret
      exact ⟨rfl, hbel⟩
set_option maxHeartbeats 400000 in
theorem plain8_any (A B : Option Addr) (c d : Nat) (l : List Int) (w : World) (hl : l.length ≤ 4294967295) (hA : Read8 w A l) (hB : Read8 w B l) :
    Calls Try.prog 25 #[.slice A l.length c, .slice B l.length d] w fun e w' => e = .returned (.bool true) ∧ Below w.heap.size w w' := by
  have C := Lib.hid (same8_any A B c d l w hl hA hB)
  clear hA hB
  go_enter Try.func25, Try.ntmps25
  go_wp2_with fail
  refine C.out.mono ?_; rintro e w1 ⟨rfl, hb⟩
  go_wp2_with fail
  go_ret
  exact ⟨rfl, hb⟩
set_option maxHeartbeats 1000000 in
theorem kept_any (g : Nat) (B : Option Addr) (d : Nat) (l : List Int) (f : Int) (w : World) (hl : l.length ≤ 4294967295) (hR : RowAt w g (l ++ [f, f, f])) (hB : Read8 w B l) :
    Calls Try.prog 18 #[.slice (some ⟨g, 0, none⟩) l.length (l.length + 3), .slice B l.length d, .int .u8 f] w fun e w' => e = .returned (.bool true) ∧ Below w.heap.size w w' := by
  have HR := Lib.hid hR
  have C := Lib.hid (plain8_any (some ⟨g, 0, none⟩) B (l.length + 3) d l w hl (by
    have := read8_take hR.lt hR.cells l.length
    rwa [List.take_left' rfl] at this) hB)
  clear hR hB
  have h3 : ((l.length + 3 : Nat) : Int) = (l.length : Int) + 3 := by omega
  go_enter Try.func18, Try.ntmps18
  go_wp2_with fail
  refine C.out.mono ?_; rintro e w1 ⟨rfl, hb⟩
  have HB := Lib.hid hb
  clear hb
  go_wp2_with fail
  go_loopw [8] (fun s8 wr => ∃ k : Nat, s8 = .int .i64 ((l.length + k : Nat) : Int) ∧ k ≤ 3 ∧ w1 = wr) (fun s8 _ => l.length + 3 - (intOf s8).toNat)
  case atStart => exact ⟨0, rfl, by omega, rfl⟩
  case round =>
    obtain ⟨k, rfl, hk, rfl⟩ := hrel
    by_cases hlt : k < 3
    · have hcell := (HR.out.keep HB.out).cell (l.length + k) (by simp; omega)
      have hget : (l ++ [f, f, f]).getD (l.length + k) 0 = f := by
        rw [List.getD_eq_getElem?_getD, List.getElem?_append_right (by omega), Nat.add_sub_cancel_left]
        rcases (show k = 0 ∨ k = 1 ∨ k = 2 by omega) with rfl | rfl | rfl <;> rfl
      rw [hget] at hcell
      clear hget h3
      have hlt' : (l.length : Int) + (k : Int) < (l.length : Int) + 3 := by omega
      have hn0 : ((l.length : Int) + (k : Int)).toNat = l.length + k := by omega
      have hn1 : (0 : Int) ≤ (l.length : Int) + (k : Int) := by omega
      have hn2 : IntKind.i64.wrap ((l.length : Int) + (k : Int) + 1) = (l.length : Int) + (k : Int) + 1 := IntWalk.i64_in _ (by omega)
      go_wp2_with fail
      go_roundw
      case rel => exact ⟨k + 1, by go_num, by omega, trivial⟩
      case measure => simp [intOf]; omega
    · obtain rfl : k = 3 := by omega
      go_wp2_with fail
      go_ret
      exact ⟨rfl, HB.out⟩
set_option maxHeartbeats 1000000 in
theorem record_any (q k : Int) (D E : Option Addr) (c d : Nat) (data : List Int) (h8 : Bytes8 data) (w : World) (hD : Read8 w D data) (hE : Read8 w E data) :
    Calls Try.prog 17 #[.agg #[.int .u32 q, .int .u8 k, .slice D data.length c], .agg #[.int .u32 q, .int .u8 k, .slice E data.length d]] w fun e w' => e = .returned (.bool true) ∧ Below w.heap.size w w' := by
  have HC := Lib.hid (fun wx hx hy => bytes_any D E data.length data.length c d data data rfl rfl h8 h8 wx hx hy)
  have HD := Lib.hid hD
  have HE := Lib.hid hE
  clear hD hE
  go_enter Try.func17, Try.ntmps17
  go_wp2_with fail
  refine (HC.out _ (HD.out.keep (below_new (below_new (Below.refl _ _) _) _)) (HE.out.keep (below_new (below_new (Below.refl _ _) _) _))).mono ?_
  rintro e w1 ⟨rfl, rfl⟩
  go_wp2_with fail
  go_ret
  exact ⟨by simp, below_new (below_new (Below.refl _ _) _) _⟩
/-- All data are bytes. -/
def Data8 (gs : List Rec) : Prop := ∀ r ∈ gs, Bytes8 r.2.2
set_option maxHeartbeats 2000000 in
theorem sameR_any (a b : Nat) (A B : Option Addr) (c d : Nat) (gs : List Rec) (w : World) (hl : gs.length ≤ 4294967295) (h8 : Data8 gs) (hA : Recs a w (.slice A gs.length c) gs) (hB : Recs b w (.slice B gs.length d) gs) :
    Calls Try.prog 16 #[.slice A gs.length c, .slice B gs.length d, .func (.func 17) #[] #[]] w fun e w' => e = .returned (.bool true) ∧ Below w.heap.size w w' := by
  have HA := Lib.hid hA
  have HB := Lib.hid hB
  have H8 := Lib.hid h8
  clear hA hB h8
  go_enter Try.func16, Try.ntmps16
  go_wp2_with fail
  go_loopw [7] (fun s7 wr => ∃ k : Nat, s7 = .int .i64 k ∧ k ≤ gs.length ∧ Below w.heap.size w wr) (fun s7 _ => gs.length - (intOf s7).toNat)
  case atStart => exact ⟨0, rfl, Nat.zero_le _, Below.refl _ _⟩
  case round =>
    obtain ⟨k, rfl, hk, hbel⟩ := hrel
    have HBL := Lib.hid hbel
    clear hbel
    by_cases hlt : k < gs.length
    · obtain ⟨g, rfl, D, cD, k0, k1, k2, hD⟩ := recs_at' (HA.out.keep HBL.out) k gs[k] (List.getElem?_eq_getElem hlt)
      obtain ⟨g', rfl, E, cE, e0, e1, e2, hE⟩ := recs_at' (HB.out.keep HBL.out) k gs[k] (List.getElem?_eq_getElem hlt)
      have hd8 := H8.out gs[k] (List.getElem_mem hlt)
      generalize gs[k] = r at *
      obtain ⟨q, kd, data⟩ := r
      simp only at k0 k1 k2 e0 e1 e2 hD hE hd8
      have HC := Lib.hid (fun wx hx hy => record_any q kd D E cD cE data hd8 wx hx hy)
      have HD := Lib.hid hD
      have HE := Lib.hid hE
      clear hD hE hd8
      go_wp2_with fail
      go_region_held3 (fun w' => (w'.cell? ⟨g, k * 3, none⟩ = some (.int .u32 q) ∧ w'.cell? ⟨g, k * 3 + 1, none⟩ = some (.int .u8 kd) ∧ w'.cell? ⟨g, k * 3 + 2, none⟩ = some (.slice D data.length cD)) ∧ w'.cell? ⟨g', k * 3, none⟩ = some (.int .u32 q) ∧ w'.cell? ⟨g', k * 3 + 1, none⟩ = some (.int .u8 kd) ∧ w'.cell? ⟨g', k * 3 + 2, none⟩ = some (.slice E data.length cE)) (exact ⟨⟨by (repeat (first | (with_reducible exact k0) | (with_reducible refine cell_drew ?_) | (with_reducible refine keep_cell hb1 ?_))), by (repeat (first | (with_reducible exact k1) | (with_reducible refine cell_drew ?_) | (with_reducible refine keep_cell hb1 ?_))), by (repeat (first | (with_reducible exact k2) | (with_reducible refine cell_drew ?_) | (with_reducible refine keep_cell hb1 ?_)))⟩, by (repeat (first | (with_reducible exact e0) | (with_reducible refine cell_drew ?_) | (with_reducible refine keep_cell hb1 ?_))), by (repeat (first | (with_reducible exact e1) | (with_reducible refine cell_drew ?_) | (with_reducible refine keep_cell hb1 ?_))), by (repeat (first | (with_reducible exact e2) | (with_reducible refine cell_drew ?_) | (with_reducible refine keep_cell hb1 ?_)))⟩) (first | (go_at_call 17; refine (HC.out _ (by exact HD.out) (by exact HE.out)).mono ?_; rintro e w1 ⟨rfl, hb1⟩))
      all_goals
        have HB1 := Lib.hid (below_call (Below.drew HBL.out) hb1)
        clear hb1
        go_wp2_with fail
        go_roundw
        case rel => exact ⟨k + 1, by go_num, by omega, HB1.out⟩
        case measure => simp [intOf]; omega
    · go_wp2
      go_ret
      exact ⟨rfl, HBL.out⟩
end Go.Proofs.Ythdeecnppmheoaa
