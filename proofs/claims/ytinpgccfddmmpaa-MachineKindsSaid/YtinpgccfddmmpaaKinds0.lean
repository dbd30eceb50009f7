/- The walk of MachineKinds: what becomes of To and From, event by event (part 0). -/
import Derived.Test.YtinpgccfddmmpaaBlk
import Derived.RegionTactic
import Derived.BigRegion
namespace Go.Proofs.Ytinpgccfddmmpaa
open Go.RowKit
attribute [local go_sem high] eqM
set_option maxHeartbeats 8000000 in
theorem kinds_1_tTfTaT (i : Bool) (p : Bool) (hr : rightM true true true i p = true) (e : Int) (hk : (IntKind.u64.wrap e).tmod 8 = 0) (w : World) : Calls Try.prog 7 #[.agg #[.bool true, .bool true, .bool true, .bool i, .bool p], .int .i64 e] w fun e w' => e = .returned (.bool true) ∧ Below w.heap.size w w' := by
  have cc := rightS true true true i p true hr
  have CC := Lib.hid cc
  clear cc hr
  go_enter Try.func7, Try.ntmps7
  go_wp2_with fail
  refine (CC.out _).mono ?_; rintro e w' ⟨rfl, rfl⟩
  go_wp2_with fail
  refine (stepE 1 _ _ _ _ _ (true) (true) (true) (i) (p) (by first | rfl | (simp [stepM])) _).mono ?_; rintro e w1 ⟨rfl, hb1⟩
  have b1_2 : w1.heap[w.heap.size]? = some (.cells #[.bool true, .bool true, .bool true, .bool i, .bool p] 23) := keep_blk hb1 (heap_old (heap_top' (by simp)))
  have hB1 : Below w.heap.size w w1 := below_call (below_new (below_new (Below.refl _ _) _) _) hb1
  have l1_2 := blk_lt b1_2
  obtain ⟨c1_2, z1_2⟩ := blk_cells b1_2
  have B1_2 := Lib.hid b1_2
  clear b1_2
  go_wp2_with fail
  go_region
  go_wp2_with fail
  refine (into_nil _ _ _ _ _ _ _ _ _ _ _).mono ?_; rintro e w2 ⟨rfl, hb2⟩; rw [show subOf true true = 3 from rfl]
  have b2_2 : w2.heap[w.heap.size]? = some (.cells #[.bool true, .bool true, .bool true, .bool i, .bool p] 23) := keep_blk hb2 (heap_drew (heap_old B1_2.out))
  have b2_5 : w2.heap[w1.heap.size]? = some (.cells #[.bool true, .bool true, .bool true, .bool i, .bool p] 23) := keep_blk hb2 (heap_drew (heap_top' (by simp)))
  have hB2 : Below w.heap.size w w2 := below_call (Below.drew (below_new hB1 _)) hb2
  have l2_2 := blk_lt b2_2
  obtain ⟨c2_2, z2_2⟩ := blk_cells b2_2
  have B2_2 := Lib.hid b2_2
  clear b2_2
  have l2_5 := blk_lt b2_5
  obtain ⟨c2_5, z2_5⟩ := blk_cells b2_5
  have B2_5 := Lib.hid b2_5
  clear b2_5
  have n2_2_5 : w.heap.size ≠ w1.heap.size := by omega
  have n2_5_2 : w1.heap.size ≠ w.heap.size := by omega
  clear c1_2 z1_2
  go_wp2_with fail
  refine (awake_any _).mono ?_; rintro e w3 ⟨rfl, hb3⟩
  have b3_2 : w3.heap[w.heap.size]? = some (.cells #[.bool true, .bool true, .bool true, .bool i, .bool p] 23) := keep_blk hb3 (heap_old B2_2.out)
  have b3_5 : w3.heap[w1.heap.size]? = some (.cells #[.bool true, .bool true, .bool true, .bool i, .bool p] 23) := keep_blk hb3 (heap_old B2_5.out)
  have b3_9 : w3.heap[w2.heap.size]? = some (.cells #[.string ⟨#[97, 64, 98]⟩, .string ⟨#[110]⟩, .slice none 0 0, .int .i64 3, .bool true, .bool p] 34) := keep_blk hb3 (heap_top' (by simp))
  have hB3 : Below w.heap.size w w3 := below_call (below_new hB2 _) hb3
  have l3_2 := blk_lt b3_2
  obtain ⟨c3_2, z3_2⟩ := blk_cells b3_2
  have B3_2 := Lib.hid b3_2
  clear b3_2
  have l3_5 := blk_lt b3_5
  obtain ⟨c3_5, z3_5⟩ := blk_cells b3_5
  have B3_5 := Lib.hid b3_5
  clear b3_5
  have l3_9 := blk_lt b3_9
  obtain ⟨c3_9, z3_9⟩ := blk_cells b3_9
  have B3_9 := Lib.hid b3_9
  clear b3_9
  have n3_2_5 : w.heap.size ≠ w1.heap.size := by omega
  have n3_2_9 : w.heap.size ≠ w2.heap.size := by omega
  have n3_5_2 : w1.heap.size ≠ w.heap.size := by omega
  have n3_5_9 : w1.heap.size ≠ w2.heap.size := by omega
  have n3_9_2 : w2.heap.size ≠ w.heap.size := by omega
  have n3_9_5 : w2.heap.size ≠ w1.heap.size := by omega
  clear c2_2 z2_2 c2_5 z2_5
  go_wp2_with fail
  go_ret
  exact ⟨rfl, hB3⟩
set_option maxHeartbeats 8000000 in
theorem kinds_1_tTfTaF (i : Bool) (p : Bool) (hr : rightM true true false i p = true) (e : Int) (hk : (IntKind.u64.wrap e).tmod 8 = 0) (w : World) : Calls Try.prog 7 #[.agg #[.bool true, .bool true, .bool false, .bool i, .bool p], .int .i64 e] w fun e w' => e = .returned (.bool true) ∧ Below w.heap.size w w' := by
  have cc := rightS true true false i p true hr
  have CC := Lib.hid cc
  clear cc hr
  go_enter Try.func7, Try.ntmps7
  go_wp2_with fail
  refine (CC.out _).mono ?_; rintro e w' ⟨rfl, rfl⟩
  go_wp2_with fail
  refine (stepE 1 _ _ _ _ _ (true) (true) (false) (i) (p) (by first | rfl | (simp [stepM])) _).mono ?_; rintro e w1 ⟨rfl, hb1⟩
  have b1_2 : w1.heap[w.heap.size]? = some (.cells #[.bool true, .bool true, .bool false, .bool i, .bool p] 23) := keep_blk hb1 (heap_old (heap_top' (by simp)))
  have hB1 : Below w.heap.size w w1 := below_call (below_new (below_new (Below.refl _ _) _) _) hb1
  have l1_2 := blk_lt b1_2
  obtain ⟨c1_2, z1_2⟩ := blk_cells b1_2
  have B1_2 := Lib.hid b1_2
  clear b1_2
  go_wp2_with fail
  go_region
  go_wp2_with fail
  refine (into_nil _ _ _ _ _ _ _ _ _ _ _).mono ?_; rintro e w2 ⟨rfl, hb2⟩; rw [show subOf true true = 3 from rfl]
  have b2_2 : w2.heap[w.heap.size]? = some (.cells #[.bool true, .bool true, .bool false, .bool i, .bool p] 23) := keep_blk hb2 (heap_drew (heap_old B1_2.out))
  have b2_5 : w2.heap[w1.heap.size]? = some (.cells #[.bool true, .bool true, .bool false, .bool i, .bool p] 23) := keep_blk hb2 (heap_drew (heap_top' (by simp)))
  have hB2 : Below w.heap.size w w2 := below_call (Below.drew (below_new hB1 _)) hb2
  have l2_2 := blk_lt b2_2
  obtain ⟨c2_2, z2_2⟩ := blk_cells b2_2
  have B2_2 := Lib.hid b2_2
  clear b2_2
  have l2_5 := blk_lt b2_5
  obtain ⟨c2_5, z2_5⟩ := blk_cells b2_5
  have B2_5 := Lib.hid b2_5
  clear b2_5
  have n2_2_5 : w.heap.size ≠ w1.heap.size := by omega
  have n2_5_2 : w1.heap.size ≠ w.heap.size := by omega
  clear c1_2 z1_2
  go_wp2_with fail
  refine (awake_any _).mono ?_; rintro e w3 ⟨rfl, hb3⟩
  have b3_2 : w3.heap[w.heap.size]? = some (.cells #[.bool true, .bool true, .bool false, .bool i, .bool p] 23) := keep_blk hb3 (heap_old B2_2.out)
  have b3_5 : w3.heap[w1.heap.size]? = some (.cells #[.bool true, .bool true, .bool false, .bool i, .bool p] 23) := keep_blk hb3 (heap_old B2_5.out)
  have b3_9 : w3.heap[w2.heap.size]? = some (.cells #[.string ⟨#[97, 64, 98]⟩, .string ⟨#[110]⟩, .slice none 0 0, .int .i64 3, .bool false, .bool p] 34) := keep_blk hb3 (heap_top' (by simp))
  have hB3 : Below w.heap.size w w3 := below_call (below_new hB2 _) hb3
  have l3_2 := blk_lt b3_2
  obtain ⟨c3_2, z3_2⟩ := blk_cells b3_2
  have B3_2 := Lib.hid b3_2
  clear b3_2
  have l3_5 := blk_lt b3_5
  obtain ⟨c3_5, z3_5⟩ := blk_cells b3_5
  have B3_5 := Lib.hid b3_5
  clear b3_5
  have l3_9 := blk_lt b3_9
  obtain ⟨c3_9, z3_9⟩ := blk_cells b3_9
  have B3_9 := Lib.hid b3_9
  clear b3_9
  have n3_2_5 : w.heap.size ≠ w1.heap.size := by omega
  have n3_2_9 : w.heap.size ≠ w2.heap.size := by omega
  have n3_5_2 : w1.heap.size ≠ w.heap.size := by omega
  have n3_5_9 : w1.heap.size ≠ w2.heap.size := by omega
  have n3_9_2 : w2.heap.size ≠ w.heap.size := by omega
  have n3_9_5 : w2.heap.size ≠ w1.heap.size := by omega
  clear c2_2 z2_2 c2_5 z2_5
  go_wp2_with fail
  go_ret
  exact ⟨rfl, hB3⟩
set_option maxHeartbeats 8000000 in
theorem kinds_1_tTfFaT (i : Bool) (p : Bool) (hr : rightM true false true i p = true) (e : Int) (hk : (IntKind.u64.wrap e).tmod 8 = 0) (w : World) : Calls Try.prog 7 #[.agg #[.bool true, .bool false, .bool true, .bool i, .bool p], .int .i64 e] w fun e w' => e = .returned (.bool true) ∧ Below w.heap.size w w' := by
  have cc := rightS true false true i p true hr
  have CC := Lib.hid cc
  clear cc hr
  go_enter Try.func7, Try.ntmps7
  go_wp2_with fail
  refine (CC.out _).mono ?_; rintro e w' ⟨rfl, rfl⟩
  go_wp2_with fail
  refine (stepE 1 _ _ _ _ _ (true) (false) (true) (i) (p) (by first | rfl | (simp [stepM])) _).mono ?_; rintro e w1 ⟨rfl, hb1⟩
  have b1_2 : w1.heap[w.heap.size]? = some (.cells #[.bool true, .bool false, .bool true, .bool i, .bool p] 23) := keep_blk hb1 (heap_old (heap_top' (by simp)))
  have hB1 : Below w.heap.size w w1 := below_call (below_new (below_new (Below.refl _ _) _) _) hb1
  have l1_2 := blk_lt b1_2
  obtain ⟨c1_2, z1_2⟩ := blk_cells b1_2
  have B1_2 := Lib.hid b1_2
  clear b1_2
  go_wp2_with fail
  go_region
  go_wp2_with fail
  refine (into_nil _ _ _ _ _ _ _ _ _ _ _).mono ?_; rintro e w2 ⟨rfl, hb2⟩; rw [show subOf true false = 1 from rfl]
  have b2_2 : w2.heap[w.heap.size]? = some (.cells #[.bool true, .bool false, .bool true, .bool i, .bool p] 23) := keep_blk hb2 (heap_drew (heap_old B1_2.out))
  have b2_5 : w2.heap[w1.heap.size]? = some (.cells #[.bool true, .bool false, .bool true, .bool i, .bool p] 23) := keep_blk hb2 (heap_drew (heap_top' (by simp)))
  have hB2 : Below w.heap.size w w2 := below_call (Below.drew (below_new hB1 _)) hb2
  have l2_2 := blk_lt b2_2
  obtain ⟨c2_2, z2_2⟩ := blk_cells b2_2
  have B2_2 := Lib.hid b2_2
  clear b2_2
  have l2_5 := blk_lt b2_5
  obtain ⟨c2_5, z2_5⟩ := blk_cells b2_5
  have B2_5 := Lib.hid b2_5
  clear b2_5
  have n2_2_5 : w.heap.size ≠ w1.heap.size := by omega
  have n2_5_2 : w1.heap.size ≠ w.heap.size := by omega
  clear c1_2 z1_2
  go_wp2_with fail
  refine (awake_any _).mono ?_; rintro e w3 ⟨rfl, hb3⟩
  have b3_2 : w3.heap[w.heap.size]? = some (.cells #[.bool true, .bool false, .bool true, .bool i, .bool p] 23) := keep_blk hb3 (heap_old B2_2.out)
  have b3_5 : w3.heap[w1.heap.size]? = some (.cells #[.bool true, .bool false, .bool true, .bool i, .bool p] 23) := keep_blk hb3 (heap_old B2_5.out)
  have b3_9 : w3.heap[w2.heap.size]? = some (.cells #[.string ⟨#[97, 64, 98]⟩, .string ⟨#[110]⟩, .slice none 0 0, .int .i64 1, .bool true, .bool p] 34) := keep_blk hb3 (heap_top' (by simp))
  have hB3 : Below w.heap.size w w3 := below_call (below_new hB2 _) hb3
  have l3_2 := blk_lt b3_2
  obtain ⟨c3_2, z3_2⟩ := blk_cells b3_2
  have B3_2 := Lib.hid b3_2
  clear b3_2
  have l3_5 := blk_lt b3_5
  obtain ⟨c3_5, z3_5⟩ := blk_cells b3_5
  have B3_5 := Lib.hid b3_5
  clear b3_5
  have l3_9 := blk_lt b3_9
  obtain ⟨c3_9, z3_9⟩ := blk_cells b3_9
  have B3_9 := Lib.hid b3_9
  clear b3_9
  have n3_2_5 : w.heap.size ≠ w1.heap.size := by omega
  have n3_2_9 : w.heap.size ≠ w2.heap.size := by omega
  have n3_5_2 : w1.heap.size ≠ w.heap.size := by omega
  have n3_5_9 : w1.heap.size ≠ w2.heap.size := by omega
  have n3_9_2 : w2.heap.size ≠ w.heap.size := by omega
  have n3_9_5 : w2.heap.size ≠ w1.heap.size := by omega
  clear c2_2 z2_2 c2_5 z2_5
  go_wp2_with fail
  go_ret
  exact ⟨rfl, hB3⟩
set_option maxHeartbeats 8000000 in
theorem kinds_1_tTfFaF (i : Bool) (p : Bool) (hr : rightM true false false i p = true) (e : Int) (hk : (IntKind.u64.wrap e).tmod 8 = 0) (w : World) : Calls Try.prog 7 #[.agg #[.bool true, .bool false, .bool false, .bool i, .bool p], .int .i64 e] w fun e w' => e = .returned (.bool true) ∧ Below w.heap.size w w' := by
  have cc := rightS true false false i p true hr
  have CC := Lib.hid cc
  clear cc hr
  go_enter Try.func7, Try.ntmps7
  go_wp2_with fail
  refine (CC.out _).mono ?_; rintro e w' ⟨rfl, rfl⟩
  go_wp2_with fail
  refine (stepE 1 _ _ _ _ _ (true) (false) (false) (i) (p) (by first | rfl | (simp [stepM])) _).mono ?_; rintro e w1 ⟨rfl, hb1⟩
  have b1_2 : w1.heap[w.heap.size]? = some (.cells #[.bool true, .bool false, .bool false, .bool i, .bool p] 23) := keep_blk hb1 (heap_old (heap_top' (by simp)))
  have hB1 : Below w.heap.size w w1 := below_call (below_new (below_new (Below.refl _ _) _) _) hb1
  have l1_2 := blk_lt b1_2
  obtain ⟨c1_2, z1_2⟩ := blk_cells b1_2
  have B1_2 := Lib.hid b1_2
  clear b1_2
  go_wp2_with fail
  go_region
  go_wp2_with fail
  refine (into_nil _ _ _ _ _ _ _ _ _ _ _).mono ?_; rintro e w2 ⟨rfl, hb2⟩; rw [show subOf true false = 1 from rfl]
  have b2_2 : w2.heap[w.heap.size]? = some (.cells #[.bool true, .bool false, .bool false, .bool i, .bool p] 23) := keep_blk hb2 (heap_drew (heap_old B1_2.out))
  have b2_5 : w2.heap[w1.heap.size]? = some (.cells #[.bool true, .bool false, .bool false, .bool i, .bool p] 23) := keep_blk hb2 (heap_drew (heap_top' (by simp)))
  have hB2 : Below w.heap.size w w2 := below_call (Below.drew (below_new hB1 _)) hb2
  have l2_2 := blk_lt b2_2
  obtain ⟨c2_2, z2_2⟩ := blk_cells b2_2
  have B2_2 := Lib.hid b2_2
  clear b2_2
  have l2_5 := blk_lt b2_5
  obtain ⟨c2_5, z2_5⟩ := blk_cells b2_5
  have B2_5 := Lib.hid b2_5
  clear b2_5
  have n2_2_5 : w.heap.size ≠ w1.heap.size := by omega
  have n2_5_2 : w1.heap.size ≠ w.heap.size := by omega
  clear c1_2 z1_2
  go_wp2_with fail
  refine (awake_any _).mono ?_; rintro e w3 ⟨rfl, hb3⟩
  have b3_2 : w3.heap[w.heap.size]? = some (.cells #[.bool true, .bool false, .bool false, .bool i, .bool p] 23) := keep_blk hb3 (heap_old B2_2.out)
  have b3_5 : w3.heap[w1.heap.size]? = some (.cells #[.bool true, .bool false, .bool false, .bool i, .bool p] 23) := keep_blk hb3 (heap_old B2_5.out)
  have b3_9 : w3.heap[w2.heap.size]? = some (.cells #[.string ⟨#[97, 64, 98]⟩, .string ⟨#[110]⟩, .slice none 0 0, .int .i64 1, .bool false, .bool p] 34) := keep_blk hb3 (heap_top' (by simp))
  have hB3 : Below w.heap.size w w3 := below_call (below_new hB2 _) hb3
  have l3_2 := blk_lt b3_2
  obtain ⟨c3_2, z3_2⟩ := blk_cells b3_2
  have B3_2 := Lib.hid b3_2
  clear b3_2
  have l3_5 := blk_lt b3_5
  obtain ⟨c3_5, z3_5⟩ := blk_cells b3_5
  have B3_5 := Lib.hid b3_5
  clear b3_5
  have l3_9 := blk_lt b3_9
  obtain ⟨c3_9, z3_9⟩ := blk_cells b3_9
  have B3_9 := Lib.hid b3_9
  clear b3_9
  have n3_2_5 : w.heap.size ≠ w1.heap.size := by omega
  have n3_2_9 : w.heap.size ≠ w2.heap.size := by omega
  have n3_5_2 : w1.heap.size ≠ w.heap.size := by omega
  have n3_5_9 : w1.heap.size ≠ w2.heap.size := by omega
  have n3_9_2 : w2.heap.size ≠ w.heap.size := by omega
  have n3_9_5 : w2.heap.size ≠ w1.heap.size := by omega
  clear c2_2 z2_2 c2_5 z2_5
  go_wp2_with fail
  go_ret
  exact ⟨rfl, hB3⟩
set_option maxHeartbeats 8000000 in
theorem kinds_1_tFfTaT (i : Bool) (p : Bool) (hr : rightM false true true i p = true) (e : Int) (hk : (IntKind.u64.wrap e).tmod 8 = 0) (w : World) : Calls Try.prog 7 #[.agg #[.bool false, .bool true, .bool true, .bool i, .bool p], .int .i64 e] w fun e w' => e = .returned (.bool true) ∧ Below w.heap.size w w' := by
  have cc := rightS false true true i p true hr
  have CC := Lib.hid cc
  clear cc hr
  go_enter Try.func7, Try.ntmps7
  go_wp2_with fail
  refine (CC.out _).mono ?_; rintro e w' ⟨rfl, rfl⟩
  go_wp2_with fail
  refine (stepE 1 _ _ _ _ _ (false) (true) (true) (i) (p) (by first | rfl | (simp [stepM])) _).mono ?_; rintro e w1 ⟨rfl, hb1⟩
  have b1_2 : w1.heap[w.heap.size]? = some (.cells #[.bool false, .bool true, .bool true, .bool i, .bool p] 23) := keep_blk hb1 (heap_old (heap_top' (by simp)))
  have hB1 : Below w.heap.size w w1 := below_call (below_new (below_new (Below.refl _ _) _) _) hb1
  have l1_2 := blk_lt b1_2
  obtain ⟨c1_2, z1_2⟩ := blk_cells b1_2
  have B1_2 := Lib.hid b1_2
  clear b1_2
  go_wp2_with fail
  go_region
  go_wp2_with fail
  refine (into_nil _ _ _ _ _ _ _ _ _ _ _).mono ?_; rintro e w2 ⟨rfl, hb2⟩; rw [show subOf false true = 2 from rfl]
  have b2_2 : w2.heap[w.heap.size]? = some (.cells #[.bool false, .bool true, .bool true, .bool i, .bool p] 23) := keep_blk hb2 (heap_drew (heap_old B1_2.out))
  have b2_5 : w2.heap[w1.heap.size]? = some (.cells #[.bool false, .bool true, .bool true, .bool i, .bool p] 23) := keep_blk hb2 (heap_drew (heap_top' (by simp)))
  have hB2 : Below w.heap.size w w2 := below_call (Below.drew (below_new hB1 _)) hb2
  have l2_2 := blk_lt b2_2
  obtain ⟨c2_2, z2_2⟩ := blk_cells b2_2
  have B2_2 := Lib.hid b2_2
  clear b2_2
  have l2_5 := blk_lt b2_5
  obtain ⟨c2_5, z2_5⟩ := blk_cells b2_5
  have B2_5 := Lib.hid b2_5
  clear b2_5
  have n2_2_5 : w.heap.size ≠ w1.heap.size := by omega
  have n2_5_2 : w1.heap.size ≠ w.heap.size := by omega
  clear c1_2 z1_2
  go_wp2_with fail
  refine (awake_any _).mono ?_; rintro e w3 ⟨rfl, hb3⟩
  have b3_2 : w3.heap[w.heap.size]? = some (.cells #[.bool false, .bool true, .bool true, .bool i, .bool p] 23) := keep_blk hb3 (heap_old B2_2.out)
  have b3_5 : w3.heap[w1.heap.size]? = some (.cells #[.bool false, .bool true, .bool true, .bool i, .bool p] 23) := keep_blk hb3 (heap_old B2_5.out)
  have b3_9 : w3.heap[w2.heap.size]? = some (.cells #[.string ⟨#[97, 64, 98]⟩, .string ⟨#[110]⟩, .slice none 0 0, .int .i64 2, .bool true, .bool p] 34) := keep_blk hb3 (heap_top' (by simp))
  have hB3 : Below w.heap.size w w3 := below_call (below_new hB2 _) hb3
  have l3_2 := blk_lt b3_2
  obtain ⟨c3_2, z3_2⟩ := blk_cells b3_2
  have B3_2 := Lib.hid b3_2
  clear b3_2
  have l3_5 := blk_lt b3_5
  obtain ⟨c3_5, z3_5⟩ := blk_cells b3_5
  have B3_5 := Lib.hid b3_5
  clear b3_5
  have l3_9 := blk_lt b3_9
  obtain ⟨c3_9, z3_9⟩ := blk_cells b3_9
  have B3_9 := Lib.hid b3_9
  clear b3_9
  have n3_2_5 : w.heap.size ≠ w1.heap.size := by omega
  have n3_2_9 : w.heap.size ≠ w2.heap.size := by omega
  have n3_5_2 : w1.heap.size ≠ w.heap.size := by omega
  have n3_5_9 : w1.heap.size ≠ w2.heap.size := by omega
  have n3_9_2 : w2.heap.size ≠ w.heap.size := by omega
  have n3_9_5 : w2.heap.size ≠ w1.heap.size := by omega
  clear c2_2 z2_2 c2_5 z2_5
  go_wp2_with fail
  go_ret
  exact ⟨rfl, hB3⟩
set_option maxHeartbeats 8000000 in
theorem kinds_1_tFfTaF (i : Bool) (p : Bool) (hr : rightM false true false i p = true) (e : Int) (hk : (IntKind.u64.wrap e).tmod 8 = 0) (w : World) : Calls Try.prog 7 #[.agg #[.bool false, .bool true, .bool false, .bool i, .bool p], .int .i64 e] w fun e w' => e = .returned (.bool true) ∧ Below w.heap.size w w' := by
  have cc := rightS false true false i p true hr
  have CC := Lib.hid cc
  clear cc hr
  go_enter Try.func7, Try.ntmps7
  go_wp2_with fail
  refine (CC.out _).mono ?_; rintro e w' ⟨rfl, rfl⟩
  go_wp2_with fail
  refine (stepE 1 _ _ _ _ _ (false) (true) (true) (i) (p) (by first | rfl | (simp [stepM])) _).mono ?_; rintro e w1 ⟨rfl, hb1⟩
  have b1_2 : w1.heap[w.heap.size]? = some (.cells #[.bool false, .bool true, .bool false, .bool i, .bool p] 23) := keep_blk hb1 (heap_old (heap_top' (by simp)))
  have hB1 : Below w.heap.size w w1 := below_call (below_new (below_new (Below.refl _ _) _) _) hb1
  have l1_2 := blk_lt b1_2
  obtain ⟨c1_2, z1_2⟩ := blk_cells b1_2
  have B1_2 := Lib.hid b1_2
  clear b1_2
  go_wp2_with fail
  go_region
  go_wp2_with fail
  refine (into_nil _ _ _ _ _ _ _ _ _ _ _).mono ?_; rintro e w2 ⟨rfl, hb2⟩; rw [show subOf false true = 2 from rfl]
  have b2_2 : w2.heap[w.heap.size]? = some (.cells #[.bool false, .bool true, .bool false, .bool i, .bool p] 23) := keep_blk hb2 (heap_drew (heap_old B1_2.out))
  have b2_5 : w2.heap[w1.heap.size]? = some (.cells #[.bool false, .bool true, .bool true, .bool i, .bool p] 23) := keep_blk hb2 (heap_drew (heap_top' (by simp)))
  have hB2 : Below w.heap.size w w2 := below_call (Below.drew (below_new hB1 _)) hb2
  have l2_2 := blk_lt b2_2
  obtain ⟨c2_2, z2_2⟩ := blk_cells b2_2
  have B2_2 := Lib.hid b2_2
  clear b2_2
  have l2_5 := blk_lt b2_5
  obtain ⟨c2_5, z2_5⟩ := blk_cells b2_5
  have B2_5 := Lib.hid b2_5
  clear b2_5
  have n2_2_5 : w.heap.size ≠ w1.heap.size := by omega
  have n2_5_2 : w1.heap.size ≠ w.heap.size := by omega
  clear c1_2 z1_2
  go_wp2_with fail
  refine (awake_any _).mono ?_; rintro e w3 ⟨rfl, hb3⟩
  have b3_2 : w3.heap[w.heap.size]? = some (.cells #[.bool false, .bool true, .bool false, .bool i, .bool p] 23) := keep_blk hb3 (heap_old B2_2.out)
  have b3_5 : w3.heap[w1.heap.size]? = some (.cells #[.bool false, .bool true, .bool true, .bool i, .bool p] 23) := keep_blk hb3 (heap_old B2_5.out)
  have b3_9 : w3.heap[w2.heap.size]? = some (.cells #[.string ⟨#[97, 64, 98]⟩, .string ⟨#[110]⟩, .slice none 0 0, .int .i64 2, .bool true, .bool p] 34) := keep_blk hb3 (heap_top' (by simp))
  have hB3 : Below w.heap.size w w3 := below_call (below_new hB2 _) hb3
  have l3_2 := blk_lt b3_2
  obtain ⟨c3_2, z3_2⟩ := blk_cells b3_2
  have B3_2 := Lib.hid b3_2
  clear b3_2
  have l3_5 := blk_lt b3_5
  obtain ⟨c3_5, z3_5⟩ := blk_cells b3_5
  have B3_5 := Lib.hid b3_5
  clear b3_5
  have l3_9 := blk_lt b3_9
  obtain ⟨c3_9, z3_9⟩ := blk_cells b3_9
  have B3_9 := Lib.hid b3_9
  clear b3_9
  have n3_2_5 : w.heap.size ≠ w1.heap.size := by omega
  have n3_2_9 : w.heap.size ≠ w2.heap.size := by omega
  have n3_5_2 : w1.heap.size ≠ w.heap.size := by omega
  have n3_5_9 : w1.heap.size ≠ w2.heap.size := by omega
  have n3_9_2 : w2.heap.size ≠ w.heap.size := by omega
  have n3_9_5 : w2.heap.size ≠ w1.heap.size := by omega
  clear c2_2 z2_2 c2_5 z2_5
  go_wp2_with fail
  go_ret
  exact ⟨rfl, hB3⟩
set_option maxHeartbeats 8000000 in
theorem kinds_1_tFfFaT (i : Bool) (p : Bool) (hr : rightM false false true i p = true) (e : Int) (hk : (IntKind.u64.wrap e).tmod 8 = 0) (w : World) : Calls Try.prog 7 #[.agg #[.bool false, .bool false, .bool true, .bool i, .bool p], .int .i64 e] w fun e w' => e = .returned (.bool true) ∧ Below w.heap.size w w' := by
  have cc := rightS false false true i p true hr
  have CC := Lib.hid cc
  clear cc hr
  go_enter Try.func7, Try.ntmps7
  go_wp2_with fail
  refine (CC.out _).mono ?_; rintro e w' ⟨rfl, rfl⟩
  go_wp2_with fail
  refine (stepE 1 _ _ _ _ _ (false) (false) (true) (i) (p) (by first | rfl | (simp [stepM])) _).mono ?_; rintro e w1 ⟨rfl, hb1⟩
  have b1_2 : w1.heap[w.heap.size]? = some (.cells #[.bool false, .bool false, .bool true, .bool i, .bool p] 23) := keep_blk hb1 (heap_old (heap_top' (by simp)))
  have hB1 : Below w.heap.size w w1 := below_call (below_new (below_new (Below.refl _ _) _) _) hb1
  have l1_2 := blk_lt b1_2
  obtain ⟨c1_2, z1_2⟩ := blk_cells b1_2
  have B1_2 := Lib.hid b1_2
  clear b1_2
  go_wp2_with fail
  go_region
  go_wp2_with fail
  refine (into_nil _ _ _ _ _ _ _ _ _ _ _).mono ?_; rintro e w2 ⟨rfl, hb2⟩; rw [show subOf false false = 0 from rfl]
  have b2_2 : w2.heap[w.heap.size]? = some (.cells #[.bool false, .bool false, .bool true, .bool i, .bool p] 23) := keep_blk hb2 (heap_drew (heap_old B1_2.out))
  have b2_5 : w2.heap[w1.heap.size]? = some (.cells #[.bool false, .bool false, .bool true, .bool i, .bool p] 23) := keep_blk hb2 (heap_drew (heap_top' (by simp)))
  have hB2 : Below w.heap.size w w2 := below_call (Below.drew (below_new hB1 _)) hb2
  have l2_2 := blk_lt b2_2
  obtain ⟨c2_2, z2_2⟩ := blk_cells b2_2
  have B2_2 := Lib.hid b2_2
  clear b2_2
  have l2_5 := blk_lt b2_5
  obtain ⟨c2_5, z2_5⟩ := blk_cells b2_5
  have B2_5 := Lib.hid b2_5
  clear b2_5
  have n2_2_5 : w.heap.size ≠ w1.heap.size := by omega
  have n2_5_2 : w1.heap.size ≠ w.heap.size := by omega
  clear c1_2 z1_2
  go_wp2_with fail
  refine (awake_any _).mono ?_; rintro e w3 ⟨rfl, hb3⟩
  have b3_2 : w3.heap[w.heap.size]? = some (.cells #[.bool false, .bool false, .bool true, .bool i, .bool p] 23) := keep_blk hb3 (heap_old B2_2.out)
  have b3_5 : w3.heap[w1.heap.size]? = some (.cells #[.bool false, .bool false, .bool true, .bool i, .bool p] 23) := keep_blk hb3 (heap_old B2_5.out)
  have b3_9 : w3.heap[w2.heap.size]? = some (.cells #[.string ⟨#[97, 64, 98]⟩, .string ⟨#[110]⟩, .slice none 0 0, .int .i64 0, .bool true, .bool p] 34) := keep_blk hb3 (heap_top' (by simp))
  have hB3 : Below w.heap.size w w3 := below_call (below_new hB2 _) hb3
  have l3_2 := blk_lt b3_2
  obtain ⟨c3_2, z3_2⟩ := blk_cells b3_2
  have B3_2 := Lib.hid b3_2
  clear b3_2
  have l3_5 := blk_lt b3_5
  obtain ⟨c3_5, z3_5⟩ := blk_cells b3_5
  have B3_5 := Lib.hid b3_5
  clear b3_5
  have l3_9 := blk_lt b3_9
  obtain ⟨c3_9, z3_9⟩ := blk_cells b3_9
  have B3_9 := Lib.hid b3_9
  clear b3_9
  have n3_2_5 : w.heap.size ≠ w1.heap.size := by omega
  have n3_2_9 : w.heap.size ≠ w2.heap.size := by omega
  have n3_5_2 : w1.heap.size ≠ w.heap.size := by omega
  have n3_5_9 : w1.heap.size ≠ w2.heap.size := by omega
  have n3_9_2 : w2.heap.size ≠ w.heap.size := by omega
  have n3_9_5 : w2.heap.size ≠ w1.heap.size := by omega
  clear c2_2 z2_2 c2_5 z2_5
  go_wp2_with fail
  go_ret
  exact ⟨rfl, hB3⟩
set_option maxHeartbeats 8000000 in
theorem kinds_1_tFfFaF (i : Bool) (p : Bool) (hr : rightM false false false i p = true) (e : Int) (hk : (IntKind.u64.wrap e).tmod 8 = 0) (w : World) : Calls Try.prog 7 #[.agg #[.bool false, .bool false, .bool false, .bool i, .bool p], .int .i64 e] w fun e w' => e = .returned (.bool true) ∧ Below w.heap.size w w' := by
  have cc := rightS false false false i p true hr
  have CC := Lib.hid cc
  clear cc hr
  go_enter Try.func7, Try.ntmps7
  go_wp2_with fail
  refine (CC.out _).mono ?_; rintro e w' ⟨rfl, rfl⟩
  go_wp2_with fail
  refine (stepE 1 _ _ _ _ _ (false) (false) (true) (i) (p) (by first | rfl | (simp [stepM])) _).mono ?_; rintro e w1 ⟨rfl, hb1⟩
  have b1_2 : w1.heap[w.heap.size]? = some (.cells #[.bool false, .bool false, .bool false, .bool i, .bool p] 23) := keep_blk hb1 (heap_old (heap_top' (by simp)))
  have hB1 : Below w.heap.size w w1 := below_call (below_new (below_new (Below.refl _ _) _) _) hb1
  have l1_2 := blk_lt b1_2
  obtain ⟨c1_2, z1_2⟩ := blk_cells b1_2
  have B1_2 := Lib.hid b1_2
  clear b1_2
  go_wp2_with fail
  go_region
  go_wp2_with fail
  refine (into_nil _ _ _ _ _ _ _ _ _ _ _).mono ?_; rintro e w2 ⟨rfl, hb2⟩; rw [show subOf false false = 0 from rfl]
  have b2_2 : w2.heap[w.heap.size]? = some (.cells #[.bool false, .bool false, .bool false, .bool i, .bool p] 23) := keep_blk hb2 (heap_drew (heap_old B1_2.out))
  have b2_5 : w2.heap[w1.heap.size]? = some (.cells #[.bool false, .bool false, .bool true, .bool i, .bool p] 23) := keep_blk hb2 (heap_drew (heap_top' (by simp)))
  have hB2 : Below w.heap.size w w2 := below_call (Below.drew (below_new hB1 _)) hb2
  have l2_2 := blk_lt b2_2
  obtain ⟨c2_2, z2_2⟩ := blk_cells b2_2
  have B2_2 := Lib.hid b2_2
  clear b2_2
  have l2_5 := blk_lt b2_5
  obtain ⟨c2_5, z2_5⟩ := blk_cells b2_5
  have B2_5 := Lib.hid b2_5
  clear b2_5
  have n2_2_5 : w.heap.size ≠ w1.heap.size := by omega
  have n2_5_2 : w1.heap.size ≠ w.heap.size := by omega
  clear c1_2 z1_2
  go_wp2_with fail
  refine (awake_any _).mono ?_; rintro e w3 ⟨rfl, hb3⟩
  have b3_2 : w3.heap[w.heap.size]? = some (.cells #[.bool false, .bool false, .bool false, .bool i, .bool p] 23) := keep_blk hb3 (heap_old B2_2.out)
  have b3_5 : w3.heap[w1.heap.size]? = some (.cells #[.bool false, .bool false, .bool true, .bool i, .bool p] 23) := keep_blk hb3 (heap_old B2_5.out)
  have b3_9 : w3.heap[w2.heap.size]? = some (.cells #[.string ⟨#[97, 64, 98]⟩, .string ⟨#[110]⟩, .slice none 0 0, .int .i64 0, .bool true, .bool p] 34) := keep_blk hb3 (heap_top' (by simp))
  have hB3 : Below w.heap.size w w3 := below_call (below_new hB2 _) hb3
  have l3_2 := blk_lt b3_2
  obtain ⟨c3_2, z3_2⟩ := blk_cells b3_2
  have B3_2 := Lib.hid b3_2
  clear b3_2
  have l3_5 := blk_lt b3_5
  obtain ⟨c3_5, z3_5⟩ := blk_cells b3_5
  have B3_5 := Lib.hid b3_5
  clear b3_5
  have l3_9 := blk_lt b3_9
  obtain ⟨c3_9, z3_9⟩ := blk_cells b3_9
  have B3_9 := Lib.hid b3_9
  clear b3_9
  have n3_2_5 : w.heap.size ≠ w1.heap.size := by omega
  have n3_2_9 : w.heap.size ≠ w2.heap.size := by omega
  have n3_5_2 : w1.heap.size ≠ w.heap.size := by omega
  have n3_5_9 : w1.heap.size ≠ w2.heap.size := by omega
  have n3_9_2 : w2.heap.size ≠ w.heap.size := by omega
  have n3_9_5 : w2.heap.size ≠ w1.heap.size := by omega
  clear c2_2 z2_2 c2_5 z2_5
  go_wp2_with fail
  go_ret
  exact ⟨rfl, hB3⟩
set_option maxHeartbeats 8000000 in
theorem kinds_2_tTfT (a : Bool) (i : Bool) (p : Bool) (hr : rightM true true a i p = true) (e : Int) (hk : (IntKind.u64.wrap e).tmod 8 = 1) (w : World) : Calls Try.prog 7 #[.agg #[.bool true, .bool true, .bool a, .bool i, .bool p], .int .i64 e] w fun e w' => e = .returned (.bool true) ∧ Below w.heap.size w w' := by
  have cc := rightS true true a i p true hr
  have CC := Lib.hid cc
  clear cc hr
  go_enter Try.func7, Try.ntmps7
  go_wp2_with fail
  refine (CC.out _).mono ?_; rintro e w' ⟨rfl, rfl⟩
  go_wp2_with fail
  refine (stepE 2 _ _ _ _ _ (false) (true) (false) (i) (p) (by first | rfl | (simp [stepM])) _).mono ?_; rintro e w1 ⟨rfl, hb1⟩
  have b1_2 : w1.heap[w.heap.size]? = some (.cells #[.bool true, .bool true, .bool a, .bool i, .bool p] 23) := keep_blk hb1 (heap_old (heap_top' (by simp)))
  have hB1 : Below w.heap.size w w1 := below_call (below_new (below_new (Below.refl _ _) _) _) hb1
  have l1_2 := blk_lt b1_2
  obtain ⟨c1_2, z1_2⟩ := blk_cells b1_2
  have B1_2 := Lib.hid b1_2
  clear b1_2
  go_wp2_with fail
  go_region
  go_wp2_with fail
  refine (into_nil _ _ _ _ _ _ _ _ _ _ _).mono ?_; rintro e w2 ⟨rfl, hb2⟩; rw [show subOf false true = 2 from rfl]
  have b2_2 : w2.heap[w.heap.size]? = some (.cells #[.bool true, .bool true, .bool a, .bool i, .bool p] 23) := keep_blk hb2 (heap_drew (heap_old B1_2.out))
  have b2_5 : w2.heap[w1.heap.size]? = some (.cells #[.bool false, .bool true, .bool false, .bool i, .bool p] 23) := keep_blk hb2 (heap_drew (heap_top' (by simp)))
  have hB2 : Below w.heap.size w w2 := below_call (Below.drew (below_new hB1 _)) hb2
  have l2_2 := blk_lt b2_2
  obtain ⟨c2_2, z2_2⟩ := blk_cells b2_2
  have B2_2 := Lib.hid b2_2
  clear b2_2
  have l2_5 := blk_lt b2_5
  obtain ⟨c2_5, z2_5⟩ := blk_cells b2_5
  have B2_5 := Lib.hid b2_5
  clear b2_5
  have n2_2_5 : w.heap.size ≠ w1.heap.size := by omega
  have n2_5_2 : w1.heap.size ≠ w.heap.size := by omega
  clear c1_2 z1_2
  go_wp2_with fail
  refine (awake_any _).mono ?_; rintro e w3 ⟨rfl, hb3⟩
  have b3_2 : w3.heap[w.heap.size]? = some (.cells #[.bool true, .bool true, .bool a, .bool i, .bool p] 23) := keep_blk hb3 (heap_old B2_2.out)
  have b3_5 : w3.heap[w1.heap.size]? = some (.cells #[.bool false, .bool true, .bool false, .bool i, .bool p] 23) := keep_blk hb3 (heap_old B2_5.out)
  have b3_9 : w3.heap[w2.heap.size]? = some (.cells #[.string ⟨#[97, 64, 98]⟩, .string ⟨#[110]⟩, .slice none 0 0, .int .i64 2, .bool false, .bool p] 34) := keep_blk hb3 (heap_top' (by simp))
  have hB3 : Below w.heap.size w w3 := below_call (below_new hB2 _) hb3
  have l3_2 := blk_lt b3_2
  obtain ⟨c3_2, z3_2⟩ := blk_cells b3_2
  have B3_2 := Lib.hid b3_2
  clear b3_2
  have l3_5 := blk_lt b3_5
  obtain ⟨c3_5, z3_5⟩ := blk_cells b3_5
  have B3_5 := Lib.hid b3_5
  clear b3_5
  have l3_9 := blk_lt b3_9
  obtain ⟨c3_9, z3_9⟩ := blk_cells b3_9
  have B3_9 := Lib.hid b3_9
  clear b3_9
  have n3_2_5 : w.heap.size ≠ w1.heap.size := by omega
  have n3_2_9 : w.heap.size ≠ w2.heap.size := by omega
  have n3_5_2 : w1.heap.size ≠ w.heap.size := by omega
  have n3_5_9 : w1.heap.size ≠ w2.heap.size := by omega
  have n3_9_2 : w2.heap.size ≠ w.heap.size := by omega
  have n3_9_5 : w2.heap.size ≠ w1.heap.size := by omega
  clear c2_2 z2_2 c2_5 z2_5
  go_wp2_with fail
  go_ret
  exact ⟨rfl, hB3⟩
set_option maxHeartbeats 8000000 in
theorem kinds_2_tTfF (a : Bool) (i : Bool) (p : Bool) (hr : rightM true false a i p = true) (e : Int) (hk : (IntKind.u64.wrap e).tmod 8 = 1) (w : World) : Calls Try.prog 7 #[.agg #[.bool true, .bool false, .bool a, .bool i, .bool p], .int .i64 e] w fun e w' => e = .returned (.bool true) ∧ Below w.heap.size w w' := by
  have cc := rightS true false a i p true hr
  have CC := Lib.hid cc
  clear cc hr
  go_enter Try.func7, Try.ntmps7
  go_wp2_with fail
  refine (CC.out _).mono ?_; rintro e w' ⟨rfl, rfl⟩
  go_wp2_with fail
  refine (stepE 2 _ _ _ _ _ (false) (false) (false) (i) (p) (by first | rfl | (simp [stepM])) _).mono ?_; rintro e w1 ⟨rfl, hb1⟩
  have b1_2 : w1.heap[w.heap.size]? = some (.cells #[.bool true, .bool false, .bool a, .bool i, .bool p] 23) := keep_blk hb1 (heap_old (heap_top' (by simp)))
  have hB1 : Below w.heap.size w w1 := below_call (below_new (below_new (Below.refl _ _) _) _) hb1
  have l1_2 := blk_lt b1_2
  obtain ⟨c1_2, z1_2⟩ := blk_cells b1_2
  have B1_2 := Lib.hid b1_2
  clear b1_2
  go_wp2_with fail
  go_region
  go_wp2_with fail
  refine (into_nil _ _ _ _ _ _ _ _ _ _ _).mono ?_; rintro e w2 ⟨rfl, hb2⟩; rw [show subOf false false = 0 from rfl]
  have b2_2 : w2.heap[w.heap.size]? = some (.cells #[.bool true, .bool false, .bool a, .bool i, .bool p] 23) := keep_blk hb2 (heap_drew (heap_old B1_2.out))
  have b2_5 : w2.heap[w1.heap.size]? = some (.cells #[.bool false, .bool false, .bool false, .bool i, .bool p] 23) := keep_blk hb2 (heap_drew (heap_top' (by simp)))
  have hB2 : Below w.heap.size w w2 := below_call (Below.drew (below_new hB1 _)) hb2
  have l2_2 := blk_lt b2_2
  obtain ⟨c2_2, z2_2⟩ := blk_cells b2_2
  have B2_2 := Lib.hid b2_2
  clear b2_2
  have l2_5 := blk_lt b2_5
  obtain ⟨c2_5, z2_5⟩ := blk_cells b2_5
  have B2_5 := Lib.hid b2_5
  clear b2_5
  have n2_2_5 : w.heap.size ≠ w1.heap.size := by omega
  have n2_5_2 : w1.heap.size ≠ w.heap.size := by omega
  clear c1_2 z1_2
  go_wp2_with fail
  refine (awake_any _).mono ?_; rintro e w3 ⟨rfl, hb3⟩
  have b3_2 : w3.heap[w.heap.size]? = some (.cells #[.bool true, .bool false, .bool a, .bool i, .bool p] 23) := keep_blk hb3 (heap_old B2_2.out)
  have b3_5 : w3.heap[w1.heap.size]? = some (.cells #[.bool false, .bool false, .bool false, .bool i, .bool p] 23) := keep_blk hb3 (heap_old B2_5.out)
  have b3_9 : w3.heap[w2.heap.size]? = some (.cells #[.string ⟨#[97, 64, 98]⟩, .string ⟨#[110]⟩, .slice none 0 0, .int .i64 0, .bool false, .bool p] 34) := keep_blk hb3 (heap_top' (by simp))
  have hB3 : Below w.heap.size w w3 := below_call (below_new hB2 _) hb3
  have l3_2 := blk_lt b3_2
  obtain ⟨c3_2, z3_2⟩ := blk_cells b3_2
  have B3_2 := Lib.hid b3_2
  clear b3_2
  have l3_5 := blk_lt b3_5
  obtain ⟨c3_5, z3_5⟩ := blk_cells b3_5
  have B3_5 := Lib.hid b3_5
  clear b3_5
  have l3_9 := blk_lt b3_9
  obtain ⟨c3_9, z3_9⟩ := blk_cells b3_9
  have B3_9 := Lib.hid b3_9
  clear b3_9
  have n3_2_5 : w.heap.size ≠ w1.heap.size := by omega
  have n3_2_9 : w.heap.size ≠ w2.heap.size := by omega
  have n3_5_2 : w1.heap.size ≠ w.heap.size := by omega
  have n3_5_9 : w1.heap.size ≠ w2.heap.size := by omega
  have n3_9_2 : w2.heap.size ≠ w.heap.size := by omega
  have n3_9_5 : w2.heap.size ≠ w1.heap.size := by omega
  clear c2_2 z2_2 c2_5 z2_5
  go_wp2_with fail
  go_ret
  exact ⟨rfl, hB3⟩
set_option maxHeartbeats 8000000 in
theorem kinds_2_tFfT (a : Bool) (i : Bool) (p : Bool) (hr : rightM false true a i p = true) (e : Int) (hk : (IntKind.u64.wrap e).tmod 8 = 1) (w : World) : Calls Try.prog 7 #[.agg #[.bool false, .bool true, .bool a, .bool i, .bool p], .int .i64 e] w fun e w' => e = .returned (.bool true) ∧ Below w.heap.size w w' := by
  have cc := rightS false true a i p true hr
  have CC := Lib.hid cc
  clear cc hr
  go_enter Try.func7, Try.ntmps7
  go_wp2_with fail
  refine (CC.out _).mono ?_; rintro e w' ⟨rfl, rfl⟩
  go_wp2_with fail
  refine (stepE 2 _ _ _ _ _ (false) (true) (false) (i) (p) (by first | rfl | (simp [stepM])) _).mono ?_; rintro e w1 ⟨rfl, hb1⟩
  have b1_2 : w1.heap[w.heap.size]? = some (.cells #[.bool false, .bool true, .bool a, .bool i, .bool p] 23) := keep_blk hb1 (heap_old (heap_top' (by simp)))
  have hB1 : Below w.heap.size w w1 := below_call (below_new (below_new (Below.refl _ _) _) _) hb1
  have l1_2 := blk_lt b1_2
  obtain ⟨c1_2, z1_2⟩ := blk_cells b1_2
  have B1_2 := Lib.hid b1_2
  clear b1_2
  go_wp2_with fail
  go_region
  go_wp2_with fail
  refine (into_nil _ _ _ _ _ _ _ _ _ _ _).mono ?_; rintro e w2 ⟨rfl, hb2⟩; rw [show subOf false true = 2 from rfl]
  have b2_2 : w2.heap[w.heap.size]? = some (.cells #[.bool false, .bool true, .bool a, .bool i, .bool p] 23) := keep_blk hb2 (heap_drew (heap_old B1_2.out))
  have b2_5 : w2.heap[w1.heap.size]? = some (.cells #[.bool false, .bool true, .bool false, .bool i, .bool p] 23) := keep_blk hb2 (heap_drew (heap_top' (by simp)))
  have hB2 : Below w.heap.size w w2 := below_call (Below.drew (below_new hB1 _)) hb2
  have l2_2 := blk_lt b2_2
  obtain ⟨c2_2, z2_2⟩ := blk_cells b2_2
  have B2_2 := Lib.hid b2_2
  clear b2_2
  have l2_5 := blk_lt b2_5
  obtain ⟨c2_5, z2_5⟩ := blk_cells b2_5
  have B2_5 := Lib.hid b2_5
  clear b2_5
  have n2_2_5 : w.heap.size ≠ w1.heap.size := by omega
  have n2_5_2 : w1.heap.size ≠ w.heap.size := by omega
  clear c1_2 z1_2
  go_wp2_with fail
  refine (awake_any _).mono ?_; rintro e w3 ⟨rfl, hb3⟩
  have b3_2 : w3.heap[w.heap.size]? = some (.cells #[.bool false, .bool true, .bool a, .bool i, .bool p] 23) := keep_blk hb3 (heap_old B2_2.out)
  have b3_5 : w3.heap[w1.heap.size]? = some (.cells #[.bool false, .bool true, .bool false, .bool i, .bool p] 23) := keep_blk hb3 (heap_old B2_5.out)
  have b3_9 : w3.heap[w2.heap.size]? = some (.cells #[.string ⟨#[97, 64, 98]⟩, .string ⟨#[110]⟩, .slice none 0 0, .int .i64 2, .bool false, .bool p] 34) := keep_blk hb3 (heap_top' (by simp))
  have hB3 : Below w.heap.size w w3 := below_call (below_new hB2 _) hb3
  have l3_2 := blk_lt b3_2
  obtain ⟨c3_2, z3_2⟩ := blk_cells b3_2
  have B3_2 := Lib.hid b3_2
  clear b3_2
  have l3_5 := blk_lt b3_5
  obtain ⟨c3_5, z3_5⟩ := blk_cells b3_5
  have B3_5 := Lib.hid b3_5
  clear b3_5
  have l3_9 := blk_lt b3_9
  obtain ⟨c3_9, z3_9⟩ := blk_cells b3_9
  have B3_9 := Lib.hid b3_9
  clear b3_9
  have n3_2_5 : w.heap.size ≠ w1.heap.size := by omega
  have n3_2_9 : w.heap.size ≠ w2.heap.size := by omega
  have n3_5_2 : w1.heap.size ≠ w.heap.size := by omega
  have n3_5_9 : w1.heap.size ≠ w2.heap.size := by omega
  have n3_9_2 : w2.heap.size ≠ w.heap.size := by omega
  have n3_9_5 : w2.heap.size ≠ w1.heap.size := by omega
  clear c2_2 z2_2 c2_5 z2_5
  go_wp2_with fail
  go_ret
  exact ⟨rfl, hB3⟩
set_option maxHeartbeats 8000000 in
theorem kinds_2_tFfF (a : Bool) (i : Bool) (p : Bool) (hr : rightM false false a i p = true) (e : Int) (hk : (IntKind.u64.wrap e).tmod 8 = 1) (w : World) : Calls Try.prog 7 #[.agg #[.bool false, .bool false, .bool a, .bool i, .bool p], .int .i64 e] w fun e w' => e = .returned (.bool true) ∧ Below w.heap.size w w' := by
  have cc := rightS false false a i p true hr
  have CC := Lib.hid cc
  clear cc hr
  go_enter Try.func7, Try.ntmps7
  go_wp2_with fail
  refine (CC.out _).mono ?_; rintro e w' ⟨rfl, rfl⟩
  go_wp2_with fail
  refine (stepE 2 _ _ _ _ _ (false) (false) (false) (i) (p) (by first | rfl | (simp [stepM])) _).mono ?_; rintro e w1 ⟨rfl, hb1⟩
  have b1_2 : w1.heap[w.heap.size]? = some (.cells #[.bool false, .bool false, .bool a, .bool i, .bool p] 23) := keep_blk hb1 (heap_old (heap_top' (by simp)))
  have hB1 : Below w.heap.size w w1 := below_call (below_new (below_new (Below.refl _ _) _) _) hb1
  have l1_2 := blk_lt b1_2
  obtain ⟨c1_2, z1_2⟩ := blk_cells b1_2
  have B1_2 := Lib.hid b1_2
  clear b1_2
  go_wp2_with fail
  go_region
  go_wp2_with fail
  refine (into_nil _ _ _ _ _ _ _ _ _ _ _).mono ?_; rintro e w2 ⟨rfl, hb2⟩; rw [show subOf false false = 0 from rfl]
  have b2_2 : w2.heap[w.heap.size]? = some (.cells #[.bool false, .bool false, .bool a, .bool i, .bool p] 23) := keep_blk hb2 (heap_drew (heap_old B1_2.out))
  have b2_5 : w2.heap[w1.heap.size]? = some (.cells #[.bool false, .bool false, .bool false, .bool i, .bool p] 23) := keep_blk hb2 (heap_drew (heap_top' (by simp)))
  have hB2 : Below w.heap.size w w2 := below_call (Below.drew (below_new hB1 _)) hb2
  have l2_2 := blk_lt b2_2
  obtain ⟨c2_2, z2_2⟩ := blk_cells b2_2
  have B2_2 := Lib.hid b2_2
  clear b2_2
  have l2_5 := blk_lt b2_5
  obtain ⟨c2_5, z2_5⟩ := blk_cells b2_5
  have B2_5 := Lib.hid b2_5
  clear b2_5
  have n2_2_5 : w.heap.size ≠ w1.heap.size := by omega
  have n2_5_2 : w1.heap.size ≠ w.heap.size := by omega
  clear c1_2 z1_2
  go_wp2_with fail
  refine (awake_any _).mono ?_; rintro e w3 ⟨rfl, hb3⟩
  have b3_2 : w3.heap[w.heap.size]? = some (.cells #[.bool false, .bool false, .bool a, .bool i, .bool p] 23) := keep_blk hb3 (heap_old B2_2.out)
  have b3_5 : w3.heap[w1.heap.size]? = some (.cells #[.bool false, .bool false, .bool false, .bool i, .bool p] 23) := keep_blk hb3 (heap_old B2_5.out)
  have b3_9 : w3.heap[w2.heap.size]? = some (.cells #[.string ⟨#[97, 64, 98]⟩, .string ⟨#[110]⟩, .slice none 0 0, .int .i64 0, .bool false, .bool p] 34) := keep_blk hb3 (heap_top' (by simp))
  have hB3 : Below w.heap.size w w3 := below_call (below_new hB2 _) hb3
  have l3_2 := blk_lt b3_2
  obtain ⟨c3_2, z3_2⟩ := blk_cells b3_2
  have B3_2 := Lib.hid b3_2
  clear b3_2
  have l3_5 := blk_lt b3_5
  obtain ⟨c3_5, z3_5⟩ := blk_cells b3_5
  have B3_5 := Lib.hid b3_5
  clear b3_5
  have l3_9 := blk_lt b3_9
  obtain ⟨c3_9, z3_9⟩ := blk_cells b3_9
  have B3_9 := Lib.hid b3_9
  clear b3_9
  have n3_2_5 : w.heap.size ≠ w1.heap.size := by omega
  have n3_2_9 : w.heap.size ≠ w2.heap.size := by omega
  have n3_5_2 : w1.heap.size ≠ w.heap.size := by omega
  have n3_5_9 : w1.heap.size ≠ w2.heap.size := by omega
  have n3_9_2 : w2.heap.size ≠ w.heap.size := by omega
  have n3_9_5 : w2.heap.size ≠ w1.heap.size := by omega
  clear c2_2 z2_2 c2_5 z2_5
  go_wp2_with fail
  go_ret
  exact ⟨rfl, hB3⟩
end Go.Proofs.Ytinpgccfddmmpaa
