/- Bytes held against each other: bytes.Equal, bytes.HasPrefix, Bytes of the helpers. -/
import Derived.Test.YthdeecnppmheoaaClone
import Derived.Laws.BytesArg
namespace Go.Proofs.Ythdeecnppmheoaa
open Go.RowKit
theorem conv8 (w : World) (A : Option Addr) (c : Nat) (l : List Int) (hr : Read8 w A l) : (convert 23 9 (.slice A l.length c)).run Try.prog w = .ok (.string (strOfNums l)) w := by
  rcases hr with rfl | ⟨b, off, rfl, _, hc⟩
  · cases A with
    | none => exact run_convert_bytes_nil w 23 5 Try.underlying23 Try.underlying5 _ _ 9 Try.underlying9
    | some a =>
      rw [run_convert_bytes_string w 23 9 5 _ _ c Try.underlying23 Try.underlying5 Try.underlying9]
      simp [Conv.bytesToString, loadCells, strOfNums]
      rfl
  · exact run_convert_bytes_arg w 23 5 Try.underlying23 Try.underlying5 b off l.length c l rfl hc 9 Try.underlying9
theorem strOfNums_inj {xs ys : List Int} (hx : Bytes8 xs) (hy : Bytes8 ys) (h1 : (xs.map fun n => UInt8.ofNat n.toNat) = ys.map fun n => UInt8.ofNat n.toNat) : xs = ys := by
  apply List.ext_getElem?
  intro i
  have h2 := congrArg (fun l => l[i]?) h1
  simp only [List.getElem?_map] at h2
  cases e1 : xs[i]? with
  | none => cases e2 : ys[i]? with
    | none => rfl
    | some y => rw [e1, e2] at h2; simp at h2
  | some x => cases e2 : ys[i]? with
    | none => rw [e1, e2] at h2; simp at h2
    | some y =>
      rw [e1, e2] at h2
      simp only [Option.map_some, Option.some.injEq] at h2
      have bx := hx x (List.mem_of_getElem? e1)
      have by' := hy y (List.mem_of_getElem? e2)
      have h3 := congrArg UInt8.toNat h2
      simp only [UInt8.toNat_ofNat'] at h3
      have : x = y := by omega
      rw [this]
theorem str_eq8 {xs ys : List Int} (hx : Bytes8 xs) (hy : Bytes8 ys) : ((strOfNums xs).toList == (strOfNums ys).toList) = decide (xs = ys) := by
  rw [Bool.eq_iff_iff]
  simp only [beq_iff_eq, decide_eq_true_eq]
  constructor
  · intro h
    refine strOfNums_inj hx hy ?_
    rw [ByteArray.toList_eq, ByteArray.toList_eq, strOfNums_data, strOfNums_data] at h
    exact h
  · rintro rfl; rfl
set_option maxHeartbeats 1000000 in
theorem equal_any (A B : Option Addr) (n m c d : Nat) (xs ys : List Int) (hn : n = xs.length) (hm : m = ys.length) (hx : Bytes8 xs) (hy : Bytes8 ys) (w : World) (hr : Read8 w A xs) (hs : Read8 w B ys) :
    Calls Try.prog 32 #[.slice A n c, .slice B m d] w fun e w' => e = .returned (.bool (decide (xs = ys))) ∧ w' = w := by
  subst hn; subst hm
  have k1 := conv8 w A c xs hr
  have k2 := conv8 w B d ys hs
  have HE := Lib.hid (str_eq8 hx hy)
  clear hr hs hx hy
  go_enter Try.func32, Try.ntmps32
  go_wp2
  go_ret
  exact ⟨by rw [← HE.out]; rfl, rfl⟩
set_option maxHeartbeats 1000000 in
theorem bytes_any (A B : Option Addr) (n m c d : Nat) (xs ys : List Int) (hn : n = xs.length) (hm : m = ys.length) (hx : Bytes8 xs) (hy : Bytes8 ys) (w : World) (hr : Read8 w A xs) (hs : Read8 w B ys) :
    Calls Try.prog 13 #[.slice A n c, .slice B m d] w fun e w' => e = .returned (.bool (decide (xs = ys))) ∧ w' = w := by
  subst hn; subst hm
  have k1 := conv8 w A c xs hr
  have k2 := conv8 w B d ys hs
  have HE := Lib.hid (str_eq8 hx hy)
  clear hr hs hx hy
  go_enter Try.func13, Try.ntmps13
  go_wp2
  go_ret
  exact ⟨by rw [← HE.out]; rfl, rfl⟩
theorem read8_take {w : World} {b off : Nat} {l : List Int} (hlt : b < w.heap.size) (hc : ∀ i, i < l.length → w.cell? ⟨b, off + i, none⟩ = some (.int .u8 (l.getD i 0))) (m : Nat) : Read8 w (some ⟨b, off, none⟩) (l.take m) :=
  .inr ⟨b, off, rfl, hlt, fun i hi => by
    rw [List.length_take] at hi
    rw [hc i (by omega), List.getD_eq_getElem?_getD, List.getD_eq_getElem?_getD, List.getElem?_take, if_pos (by omega)]⟩
theorem bytes8_take {l : List Int} (h : Bytes8 l) (m : Nat) : Bytes8 (l.take m) := fun x hx => h x (List.mem_of_mem_take hx)
theorem bytes8_drop {l : List Int} (h : Bytes8 l) (m : Nat) : Bytes8 (l.drop m) := fun x hx => h x (List.mem_of_mem_drop hx)
set_option maxHeartbeats 1000000 in
theorem hasPrefix_any (b off n c : Nat) (B : Option Addr) (m d : Nat) (l ys : List Int) (hn : n = l.length) (hm : m = ys.length) (hge : m ≤ n) (hc : n ≤ c) (hx : Bytes8 l) (hy : Bytes8 ys) (w : World) (hlt : b < w.heap.size) (hcell : ∀ i, i < l.length → w.cell? ⟨b, off + i, none⟩ = some (.int .u8 (l.getD i 0))) (hs : Read8 w B ys) :
    Calls Try.prog 26 #[.slice (some ⟨b, off, none⟩) n c, .slice B m d] w fun e w' => e = .returned (.bool (decide (l.take m = ys))) ∧ w' = w := by
  have hge' : (m : Int) ≤ (n : Int) := by omega
  have hmc : (m : Int) ≤ (c : Int) := by omega
  have hmc' : m ≤ c := by omega
  have C := Lib.hid (equal_any (some ⟨b, off, none⟩) B m m c d (l.take m) ys (by rw [List.length_take]; omega) hm (bytes8_take hx m) hy w (read8_take hlt hcell m) hs)
  clear hn hm hx hy hcell hs
  go_enter Try.func26, Try.ntmps26
  go_wp2_with fail
  refine C.out.mono ?_
  rintro e w' ⟨rfl, rfl⟩
  go_wp2_with fail
  go_ret
  exact ⟨rfl, rfl⟩
end Go.Proofs.Ythdeecnppmheoaa
