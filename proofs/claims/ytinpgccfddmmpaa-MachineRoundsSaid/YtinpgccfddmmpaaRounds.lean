/- The walk of MachineRounds: asked and let, asked and letting, ahead or not, and taken back. -/
import Derived.Test.YtinpgccfddmmpaaBlk
import Derived.Deep.RegionHeld3
namespace Go.Proofs.Ytinpgccfddmmpaa
open Go.RowKit
attribute [local go_sem high] eqM
set_option maxHeartbeats 8000000 in
theorem rounds_true (t f a i p : Bool) (hr : rightM t f a i p = true) (w : World) : Calls Try.prog 6 #[.agg #[.bool t, .bool f, .bool a, .bool i, .bool p], .bool true] w fun e w' => e = .returned (.bool true) ∧ Below w.heap.size w w' := by
  have cc := rightS t f a i p true hr
  have CC := Lib.hid cc
  clear cc hr
  go_enter Try.func6, Try.ntmps6
  go_wp2_with fail
  refine (CC.out _).mono ?_; rintro e w' ⟨rfl, rfl⟩
  go_wp2_with fail
  refine (stepE 2 _ _ _ _ _ false f false i p rfl _).mono ?_; rintro e w1 ⟨rfl, hb1⟩
  have b1_2 : w1.heap[w.heap.size]? = some (.cells #[.bool t, .bool f, .bool a, .bool i, .bool p] 23) := keep_blk hb1 (heap_old (heap_top' (by simp)))
  have hB1 : Below w.heap.size w w1 := below_call (below_new (below_new (Below.refl _ _) _) _) hb1
  have l1_2 := blk_lt b1_2
  obtain ⟨c1_2, z1_2⟩ := blk_cells b1_2
  have B1_2 := Lib.hid b1_2
  clear b1_2
  go_wp2_with fail
  refine (stepE 1 _ _ _ _ _ false f true i p rfl _).mono ?_; rintro e w2 ⟨rfl, hb2⟩
  have b2_2 : w2.heap[w.heap.size]? = some (.cells #[.bool t, .bool f, .bool a, .bool i, .bool p] 23) := keep_blk hb2 (heap_old B1_2.out)
  have b2_5 : w2.heap[w1.heap.size]? = some (.cells #[.bool false, .bool f, .bool false, .bool i, .bool p] 23) := keep_blk hb2 (heap_top' (by simp))
  have hB2 : Below w.heap.size w w2 := below_call (below_new hB1 _) hb2
  have l2_2 := blk_lt b2_2
  obtain ⟨c2_2, z2_2⟩ := blk_cells b2_2
  have B2_2 := Lib.hid b2_2
  clear b2_2
  have l2_5 := blk_lt b2_5
  obtain ⟨c2_5, z2_5⟩ := blk_cells b2_5
  have B2_5 := Lib.hid b2_5
  clear b2_5
  have n2_2_5 : w.heap.size ≠ w1.heap.size := by omega
  have n2_5_2 : w1.heap.size ≠ w.heap.size := by omega
  clear c1_2 z1_2
  go_wp2_with fail
  refine (stepE 7 _ _ _ _ _ true f false i p rfl _).mono ?_; rintro e w3 ⟨rfl, hb3⟩
  have b3_2 : w3.heap[w.heap.size]? = some (.cells #[.bool t, .bool f, .bool a, .bool i, .bool p] 23) := keep_blk hb3 (set5_other n2_5_2 B2_2.out)
  have b3_5 : w3.heap[w1.heap.size]? = some (.cells #[.bool false, .bool f, .bool true, .bool i, .bool p] 23) := keep_blk hb3 (set5_same B2_5.out)
  have hB3 : Below w.heap.size w w3 := below_call (below_set5 hB2 (by omega)) hb3
  have l3_2 := blk_lt b3_2
  obtain ⟨c3_2, z3_2⟩ := blk_cells b3_2
  have B3_2 := Lib.hid b3_2
  clear b3_2
  have l3_5 := blk_lt b3_5
  obtain ⟨c3_5, z3_5⟩ := blk_cells b3_5
  have B3_5 := Lib.hid b3_5
  clear b3_5
  have n3_2_5 : w.heap.size ≠ w1.heap.size := by omega
  have n3_5_2 : w1.heap.size ≠ w.heap.size := by omega
  clear c2_2 z2_2 c2_5 z2_5
  go_wp2_with fail
  refine (stepE 4 _ _ _ _ _ t false a false false rfl _).mono ?_; rintro e w4 ⟨rfl, hb4⟩
  have b4_2 : w4.heap[w.heap.size]? = some (.cells #[.bool t, .bool f, .bool a, .bool i, .bool p] 23) := keep_blk hb4 (set5_other n3_5_2 B3_2.out)
  have b4_5 : w4.heap[w1.heap.size]? = some (.cells #[.bool true, .bool f, .bool false, .bool i, .bool p] 23) := keep_blk hb4 (set5_same B3_5.out)
  have hB4 : Below w.heap.size w w4 := below_call (below_set5 hB3 (by omega)) hb4
  have l4_2 := blk_lt b4_2
  obtain ⟨c4_2, z4_2⟩ := blk_cells b4_2
  have B4_2 := Lib.hid b4_2
  clear b4_2
  have l4_5 := blk_lt b4_5
  obtain ⟨c4_5, z4_5⟩ := blk_cells b4_5
  have B4_5 := Lib.hid b4_5
  clear b4_5
  have n4_2_5 : w.heap.size ≠ w1.heap.size := by omega
  have n4_5_2 : w1.heap.size ≠ w.heap.size := by omega
  clear c3_2 z3_2 c3_5 z3_5
  go_wp2_with fail
  refine (stepE 3 _ _ _ _ _ t false a false true rfl _).mono ?_; rintro e w5 ⟨rfl, hb5⟩
  have b5_2 : w5.heap[w.heap.size]? = some (.cells #[.bool t, .bool f, .bool a, .bool i, .bool p] 23) := keep_blk hb5 (heap_old (heap_old B4_2.out))
  have b5_5 : w5.heap[w1.heap.size]? = some (.cells #[.bool true, .bool f, .bool false, .bool i, .bool p] 23) := keep_blk hb5 (heap_old (heap_old B4_5.out))
  have b5_7 : w5.heap[w4.heap.size]? = some (.cells #[.bool t, .bool false, .bool a, .bool false, .bool false] 23) := keep_blk hb5 (heap_old (heap_top' (by simp)))
  have b5_9 : w5.heap[w4.heap.size + 1]? = some (.cells #[.bool t, .bool false, .bool a, .bool false, .bool false] 23) := keep_blk hb5 (heap_top' (by simp))
  have hB5 : Below w.heap.size w w5 := below_call (below_new (below_new hB4 _) _) hb5
  have l5_2 := blk_lt b5_2
  obtain ⟨c5_2, z5_2⟩ := blk_cells b5_2
  have B5_2 := Lib.hid b5_2
  clear b5_2
  have l5_5 := blk_lt b5_5
  obtain ⟨c5_5, z5_5⟩ := blk_cells b5_5
  have B5_5 := Lib.hid b5_5
  clear b5_5
  have l5_7 := blk_lt b5_7
  obtain ⟨c5_7, z5_7⟩ := blk_cells b5_7
  have B5_7 := Lib.hid b5_7
  clear b5_7
  have l5_9 := blk_lt b5_9
  obtain ⟨c5_9, z5_9⟩ := blk_cells b5_9
  have B5_9 := Lib.hid b5_9
  clear b5_9
  have n5_2_5 : w.heap.size ≠ w1.heap.size := by omega
  have n5_2_7 : w.heap.size ≠ w4.heap.size := by omega
  have n5_2_9 : w.heap.size ≠ w4.heap.size + 1 := by omega
  have n5_5_2 : w1.heap.size ≠ w.heap.size := by omega
  have n5_5_7 : w1.heap.size ≠ w4.heap.size := by omega
  have n5_5_9 : w1.heap.size ≠ w4.heap.size + 1 := by omega
  have n5_7_2 : w4.heap.size ≠ w.heap.size := by omega
  have n5_7_5 : w4.heap.size ≠ w1.heap.size := by omega
  have n5_7_9 : w4.heap.size ≠ w4.heap.size + 1 := by omega
  have n5_9_2 : w4.heap.size + 1 ≠ w.heap.size := by omega
  have n5_9_5 : w4.heap.size + 1 ≠ w1.heap.size := by omega
  have n5_9_7 : w4.heap.size + 1 ≠ w4.heap.size := by omega
  clear c4_2 z4_2 c4_5 z4_5
  go_wp2_with fail
  refine (stepE 5 _ _ _ _ _ t true a false false rfl _).mono ?_; rintro e w6 ⟨rfl, hb6⟩
  have b6_2 : w6.heap[w.heap.size]? = some (.cells #[.bool t, .bool f, .bool a, .bool i, .bool p] 23) := keep_blk hb6 (set5_other n5_9_2 B5_2.out)
  have b6_5 : w6.heap[w1.heap.size]? = some (.cells #[.bool true, .bool f, .bool false, .bool i, .bool p] 23) := keep_blk hb6 (set5_other n5_9_5 B5_5.out)
  have b6_7 : w6.heap[w4.heap.size]? = some (.cells #[.bool t, .bool false, .bool a, .bool false, .bool false] 23) := keep_blk hb6 (set5_other n5_9_7 B5_7.out)
  have b6_9 : w6.heap[w4.heap.size + 1]? = some (.cells #[.bool t, .bool false, .bool a, .bool false, .bool true] 23) := keep_blk hb6 (set5_same B5_9.out)
  have hB6 : Below w.heap.size w w6 := below_call (below_set5 hB5 (by omega)) hb6
  have l6_2 := blk_lt b6_2
  obtain ⟨c6_2, z6_2⟩ := blk_cells b6_2
  have B6_2 := Lib.hid b6_2
  clear b6_2
  have l6_5 := blk_lt b6_5
  obtain ⟨c6_5, z6_5⟩ := blk_cells b6_5
  have B6_5 := Lib.hid b6_5
  clear b6_5
  have l6_7 := blk_lt b6_7
  obtain ⟨c6_7, z6_7⟩ := blk_cells b6_7
  have B6_7 := Lib.hid b6_7
  clear b6_7
  have l6_9 := blk_lt b6_9
  obtain ⟨c6_9, z6_9⟩ := blk_cells b6_9
  have B6_9 := Lib.hid b6_9
  clear b6_9
  have n6_2_5 : w.heap.size ≠ w1.heap.size := by omega
  have n6_2_7 : w.heap.size ≠ w4.heap.size := by omega
  have n6_2_9 : w.heap.size ≠ w4.heap.size + 1 := by omega
  have n6_5_2 : w1.heap.size ≠ w.heap.size := by omega
  have n6_5_7 : w1.heap.size ≠ w4.heap.size := by omega
  have n6_5_9 : w1.heap.size ≠ w4.heap.size + 1 := by omega
  have n6_7_2 : w4.heap.size ≠ w.heap.size := by omega
  have n6_7_5 : w4.heap.size ≠ w1.heap.size := by omega
  have n6_7_9 : w4.heap.size ≠ w4.heap.size + 1 := by omega
  have n6_9_2 : w4.heap.size + 1 ≠ w.heap.size := by omega
  have n6_9_5 : w4.heap.size + 1 ≠ w1.heap.size := by omega
  have n6_9_7 : w4.heap.size + 1 ≠ w4.heap.size := by omega
  clear c5_2 z5_2 c5_5 z5_5 c5_7 z5_7 c5_9 z5_9
  go_wp2_with fail
  refine (stepE 6 _ _ _ _ _ t false a false false rfl _).mono ?_; rintro e w7 ⟨rfl, hb7⟩
  have b7_2 : w7.heap[w.heap.size]? = some (.cells #[.bool t, .bool f, .bool a, .bool i, .bool p] 23) := keep_blk hb7 (set5_other n6_9_2 B6_2.out)
  have b7_5 : w7.heap[w1.heap.size]? = some (.cells #[.bool true, .bool f, .bool false, .bool i, .bool p] 23) := keep_blk hb7 (set5_other n6_9_5 B6_5.out)
  have b7_7 : w7.heap[w4.heap.size]? = some (.cells #[.bool t, .bool false, .bool a, .bool false, .bool false] 23) := keep_blk hb7 (set5_other n6_9_7 B6_7.out)
  have b7_9 : w7.heap[w4.heap.size + 1]? = some (.cells #[.bool t, .bool true, .bool a, .bool false, .bool false] 23) := keep_blk hb7 (set5_same B6_9.out)
  have hB7 : Below w.heap.size w w7 := below_call (below_set5 hB6 (by omega)) hb7
  have l7_2 := blk_lt b7_2
  obtain ⟨c7_2, z7_2⟩ := blk_cells b7_2
  have B7_2 := Lib.hid b7_2
  clear b7_2
  have l7_5 := blk_lt b7_5
  obtain ⟨c7_5, z7_5⟩ := blk_cells b7_5
  have B7_5 := Lib.hid b7_5
  clear b7_5
  have l7_7 := blk_lt b7_7
  obtain ⟨c7_7, z7_7⟩ := blk_cells b7_7
  have B7_7 := Lib.hid b7_7
  clear b7_7
  have l7_9 := blk_lt b7_9
  obtain ⟨c7_9, z7_9⟩ := blk_cells b7_9
  have B7_9 := Lib.hid b7_9
  clear b7_9
  have n7_2_5 : w.heap.size ≠ w1.heap.size := by omega
  have n7_2_7 : w.heap.size ≠ w4.heap.size := by omega
  have n7_2_9 : w.heap.size ≠ w4.heap.size + 1 := by omega
  have n7_5_2 : w1.heap.size ≠ w.heap.size := by omega
  have n7_5_7 : w1.heap.size ≠ w4.heap.size := by omega
  have n7_5_9 : w1.heap.size ≠ w4.heap.size + 1 := by omega
  have n7_7_2 : w4.heap.size ≠ w.heap.size := by omega
  have n7_7_5 : w4.heap.size ≠ w1.heap.size := by omega
  have n7_7_9 : w4.heap.size ≠ w4.heap.size + 1 := by omega
  have n7_9_2 : w4.heap.size + 1 ≠ w.heap.size := by omega
  have n7_9_5 : w4.heap.size + 1 ≠ w1.heap.size := by omega
  have n7_9_7 : w4.heap.size + 1 ≠ w4.heap.size := by omega
  clear c6_2 z6_2 c6_5 z6_5 c6_7 z6_7 c6_9 z6_9
  go_wp2_with fail
  have e1 : toOf (subOf true f) = true := by cases f <;> rfl
  have e2 : fromOf (subOf true f) = f := by cases f <;> rfl
  go_region_held3 (fun w' => w'.cell? ⟨w1.heap.size, 0, none⟩ = some (.bool true) ∧ w'.cell? ⟨w1.heap.size, 1, none⟩ = some (.bool f) ∧ w'.cell? ⟨w1.heap.size, 2, none⟩ = some (.bool false) ∧ w'.cell? ⟨w1.heap.size, 3, none⟩ = some (.bool i) ∧ w'.cell? ⟨w1.heap.size, 4, none⟩ = some (.bool p) ∧ w'.cell? ⟨w4.heap.size, 1, none⟩ = some (.bool false) ∧ w'.cell? ⟨w4.heap.size, 3, none⟩ = some (.bool false) ∧ w'.cell? ⟨w4.heap.size, 4, none⟩ = some (.bool false) ∧ w'.cell? ⟨w4.heap.size + 1, 1, none⟩ = some (.bool true) ∧ w'.cell? ⟨w4.heap.size + 1, 3, none⟩ = some (.bool false) ∧ w'.cell? ⟨w4.heap.size + 1, 4, none⟩ = some (.bool false) ∧ w'.cell? ⟨w7.heap.size, 1, none⟩ = some (.bool false) ∧ w'.cell? ⟨w7.heap.size + 1, 0, none⟩ = some (.string ⟨#[97, 64, 98]⟩) ∧ w'.cell? ⟨w7.heap.size + 1, 1, none⟩ = some (.string ⟨#[]⟩) ∧ w'.cell? ⟨w7.heap.size + 1, 2, none⟩ = some (.slice none 0 0) ∧ w'.cell? ⟨w7.heap.size + 1, 3, none⟩ = some (.int .i64 0) ∧ w'.cell? ⟨w7.heap.size + 1, 4, none⟩ = some (.bool false) ∧ w'.cell? ⟨w7.heap.size + 1, 5, none⟩ = some (.bool false) ∧ w'.cell? ⟨w.heap.size, 1, none⟩ = some (.bool f) ∧ w'.cell? ⟨w.heap.size, 4, none⟩ = some (.bool p)) (first | (refine ⟨?_, ?_, ?_, ?_, ?_, ?_, ?_, ?_, ?_, ?_, ?_, ?_, ?_, ?_, ?_, ?_, ?_, ?_, ?_, ?_⟩ <;> (simp [c7_2, c7_5, c7_7, c7_9, l7_2, l7_5, l7_7, l7_9, cell_lt, Nat.lt_succ_of_lt]; done)) | (obtain ⟨q0, q1, q2, q3, q4, q5, q6, q7, q8, q9, q10, q11, q12, q13, q14, q15, q16, q17, q18, q19⟩ := ‹_ ∧ _ ∧ _ ∧ _ ∧ _ ∧ _ ∧ _ ∧ _ ∧ _ ∧ _ ∧ _ ∧ _ ∧ _ ∧ _ ∧ _ ∧ _ ∧ _ ∧ _ ∧ _ ∧ _›; exact ⟨keep_cell (by assumption) q0, keep_cell (by assumption) q1, keep_cell (by assumption) q2, keep_cell (by assumption) q3, keep_cell (by assumption) q4, keep_cell (by assumption) q5, keep_cell (by assumption) q6, keep_cell (by assumption) q7, keep_cell (by assumption) q8, keep_cell (by assumption) q9, keep_cell (by assumption) q10, keep_cell (by assumption) q11, keep_cell (by assumption) q12, keep_cell (by assumption) q13, keep_cell (by assumption) q14, keep_cell (by assumption) q15, keep_cell (by assumption) q16, keep_cell (by assumption) q17, keep_cell (by assumption) q18, keep_cell (by assumption) q19⟩)) (first | (go_at_call 9; refine (awake_any _).mono ?_; rintro e w8 ⟨rfl, hb8⟩) | (go_at_call 17; refine (into_nil _ _ _ _ _ _ _ _ _ _ _).mono ?_; rintro e w9 ⟨rfl, hb9⟩) | (go_at_call 14; refine (of_any _ _ _ _ _ _ _ _ _).mono ?_; rintro e w10 ⟨rfl, hb10⟩))
  all_goals
    go_wp2_with fail
    go_ret
    exact ⟨rfl, below_call (below_call (below_call (Below.drew (below_new (below_new hB7 _) _)) hb8) hb9) hb10⟩
set_option maxHeartbeats 8000000 in
theorem rounds_false (t f a i p : Bool) (hr : rightM t f a i p = true) (w : World) : Calls Try.prog 6 #[.agg #[.bool t, .bool f, .bool a, .bool i, .bool p], .bool false] w fun e w' => e = .returned (.bool true) ∧ Below w.heap.size w w' := by
  have cc := rightS t f a i p true hr
  have CC := Lib.hid cc
  clear cc hr
  go_enter Try.func6, Try.ntmps6
  go_wp2_with fail
  refine (CC.out _).mono ?_; rintro e w' ⟨rfl, rfl⟩
  go_wp2_with fail
  refine (stepE 2 _ _ _ _ _ false f false i p rfl _).mono ?_; rintro e w1 ⟨rfl, hb1⟩
  have b1_2 : w1.heap[w.heap.size]? = some (.cells #[.bool t, .bool f, .bool a, .bool i, .bool p] 23) := keep_blk hb1 (heap_old (heap_top' (by simp)))
  have hB1 : Below w.heap.size w w1 := below_call (below_new (below_new (Below.refl _ _) _) _) hb1
  have l1_2 := blk_lt b1_2
  obtain ⟨c1_2, z1_2⟩ := blk_cells b1_2
  have B1_2 := Lib.hid b1_2
  clear b1_2
  go_wp2_with fail
  refine (stepE 1 _ _ _ _ _ false f true i p rfl _).mono ?_; rintro e w2 ⟨rfl, hb2⟩
  have b2_2 : w2.heap[w.heap.size]? = some (.cells #[.bool t, .bool f, .bool a, .bool i, .bool p] 23) := keep_blk hb2 (heap_old B1_2.out)
  have b2_5 : w2.heap[w1.heap.size]? = some (.cells #[.bool false, .bool f, .bool false, .bool i, .bool p] 23) := keep_blk hb2 (heap_top' (by simp))
  have hB2 : Below w.heap.size w w2 := below_call (below_new hB1 _) hb2
  have l2_2 := blk_lt b2_2
  obtain ⟨c2_2, z2_2⟩ := blk_cells b2_2
  have B2_2 := Lib.hid b2_2
  clear b2_2
  have l2_5 := blk_lt b2_5
  obtain ⟨c2_5, z2_5⟩ := blk_cells b2_5
  have B2_5 := Lib.hid b2_5
  clear b2_5
  have n2_2_5 : w.heap.size ≠ w1.heap.size := by omega
  have n2_5_2 : w1.heap.size ≠ w.heap.size := by omega
  clear c1_2 z1_2
  go_wp2_with fail
  refine (stepE 7 _ _ _ _ _ true f false i p rfl _).mono ?_; rintro e w3 ⟨rfl, hb3⟩
  have b3_2 : w3.heap[w.heap.size]? = some (.cells #[.bool t, .bool f, .bool a, .bool i, .bool p] 23) := keep_blk hb3 (set5_other n2_5_2 B2_2.out)
  have b3_5 : w3.heap[w1.heap.size]? = some (.cells #[.bool false, .bool f, .bool true, .bool i, .bool p] 23) := keep_blk hb3 (set5_same B2_5.out)
  have hB3 : Below w.heap.size w w3 := below_call (below_set5 hB2 (by omega)) hb3
  have l3_2 := blk_lt b3_2
  obtain ⟨c3_2, z3_2⟩ := blk_cells b3_2
  have B3_2 := Lib.hid b3_2
  clear b3_2
  have l3_5 := blk_lt b3_5
  obtain ⟨c3_5, z3_5⟩ := blk_cells b3_5
  have B3_5 := Lib.hid b3_5
  clear b3_5
  have n3_2_5 : w.heap.size ≠ w1.heap.size := by omega
  have n3_5_2 : w1.heap.size ≠ w.heap.size := by omega
  clear c2_2 z2_2 c2_5 z2_5
  go_wp2_with fail
  refine (stepE 4 _ _ _ _ _ t false a false false rfl _).mono ?_; rintro e w4 ⟨rfl, hb4⟩
  have b4_2 : w4.heap[w.heap.size]? = some (.cells #[.bool t, .bool f, .bool a, .bool i, .bool p] 23) := keep_blk hb4 (set5_other n3_5_2 B3_2.out)
  have b4_5 : w4.heap[w1.heap.size]? = some (.cells #[.bool true, .bool f, .bool false, .bool i, .bool p] 23) := keep_blk hb4 (set5_same B3_5.out)
  have hB4 : Below w.heap.size w w4 := below_call (below_set5 hB3 (by omega)) hb4
  have l4_2 := blk_lt b4_2
  obtain ⟨c4_2, z4_2⟩ := blk_cells b4_2
  have B4_2 := Lib.hid b4_2
  clear b4_2
  have l4_5 := blk_lt b4_5
  obtain ⟨c4_5, z4_5⟩ := blk_cells b4_5
  have B4_5 := Lib.hid b4_5
  clear b4_5
  have n4_2_5 : w.heap.size ≠ w1.heap.size := by omega
  have n4_5_2 : w1.heap.size ≠ w.heap.size := by omega
  clear c3_2 z3_2 c3_5 z3_5
  go_wp2_with fail
  refine (stepE 5 _ _ _ _ _ t false a true false rfl _).mono ?_; rintro e w5 ⟨rfl, hb5⟩
  have b5_2 : w5.heap[w.heap.size]? = some (.cells #[.bool t, .bool f, .bool a, .bool i, .bool p] 23) := keep_blk hb5 (heap_old (heap_old B4_2.out))
  have b5_5 : w5.heap[w1.heap.size]? = some (.cells #[.bool true, .bool f, .bool false, .bool i, .bool p] 23) := keep_blk hb5 (heap_old (heap_old B4_5.out))
  have b5_7 : w5.heap[w4.heap.size]? = some (.cells #[.bool t, .bool false, .bool a, .bool false, .bool false] 23) := keep_blk hb5 (heap_old (heap_top' (by simp)))
  have b5_9 : w5.heap[w4.heap.size + 1]? = some (.cells #[.bool t, .bool false, .bool a, .bool false, .bool false] 23) := keep_blk hb5 (heap_top' (by simp))
  have hB5 : Below w.heap.size w w5 := below_call (below_new (below_new hB4 _) _) hb5
  have l5_2 := blk_lt b5_2
  obtain ⟨c5_2, z5_2⟩ := blk_cells b5_2
  have B5_2 := Lib.hid b5_2
  clear b5_2
  have l5_5 := blk_lt b5_5
  obtain ⟨c5_5, z5_5⟩ := blk_cells b5_5
  have B5_5 := Lib.hid b5_5
  clear b5_5
  have l5_7 := blk_lt b5_7
  obtain ⟨c5_7, z5_7⟩ := blk_cells b5_7
  have B5_7 := Lib.hid b5_7
  clear b5_7
  have l5_9 := blk_lt b5_9
  obtain ⟨c5_9, z5_9⟩ := blk_cells b5_9
  have B5_9 := Lib.hid b5_9
  clear b5_9
  have n5_2_5 : w.heap.size ≠ w1.heap.size := by omega
  have n5_2_7 : w.heap.size ≠ w4.heap.size := by omega
  have n5_2_9 : w.heap.size ≠ w4.heap.size + 1 := by omega
  have n5_5_2 : w1.heap.size ≠ w.heap.size := by omega
  have n5_5_7 : w1.heap.size ≠ w4.heap.size := by omega
  have n5_5_9 : w1.heap.size ≠ w4.heap.size + 1 := by omega
  have n5_7_2 : w4.heap.size ≠ w.heap.size := by omega
  have n5_7_5 : w4.heap.size ≠ w1.heap.size := by omega
  have n5_7_9 : w4.heap.size ≠ w4.heap.size + 1 := by omega
  have n5_9_2 : w4.heap.size + 1 ≠ w.heap.size := by omega
  have n5_9_5 : w4.heap.size + 1 ≠ w1.heap.size := by omega
  have n5_9_7 : w4.heap.size + 1 ≠ w4.heap.size := by omega
  clear c4_2 z4_2 c4_5 z4_5
  go_wp2_with fail
  refine (stepE 3 _ _ _ _ _ t true a false false rfl _).mono ?_; rintro e w6 ⟨rfl, hb6⟩
  have b6_2 : w6.heap[w.heap.size]? = some (.cells #[.bool t, .bool f, .bool a, .bool i, .bool p] 23) := keep_blk hb6 (set5_other n5_9_2 B5_2.out)
  have b6_5 : w6.heap[w1.heap.size]? = some (.cells #[.bool true, .bool f, .bool false, .bool i, .bool p] 23) := keep_blk hb6 (set5_other n5_9_5 B5_5.out)
  have b6_7 : w6.heap[w4.heap.size]? = some (.cells #[.bool t, .bool false, .bool a, .bool false, .bool false] 23) := keep_blk hb6 (set5_other n5_9_7 B5_7.out)
  have b6_9 : w6.heap[w4.heap.size + 1]? = some (.cells #[.bool t, .bool false, .bool a, .bool true, .bool false] 23) := keep_blk hb6 (set5_same B5_9.out)
  have hB6 : Below w.heap.size w w6 := below_call (below_set5 hB5 (by omega)) hb6
  have l6_2 := blk_lt b6_2
  obtain ⟨c6_2, z6_2⟩ := blk_cells b6_2
  have B6_2 := Lib.hid b6_2
  clear b6_2
  have l6_5 := blk_lt b6_5
  obtain ⟨c6_5, z6_5⟩ := blk_cells b6_5
  have B6_5 := Lib.hid b6_5
  clear b6_5
  have l6_7 := blk_lt b6_7
  obtain ⟨c6_7, z6_7⟩ := blk_cells b6_7
  have B6_7 := Lib.hid b6_7
  clear b6_7
  have l6_9 := blk_lt b6_9
  obtain ⟨c6_9, z6_9⟩ := blk_cells b6_9
  have B6_9 := Lib.hid b6_9
  clear b6_9
  have n6_2_5 : w.heap.size ≠ w1.heap.size := by omega
  have n6_2_7 : w.heap.size ≠ w4.heap.size := by omega
  have n6_2_9 : w.heap.size ≠ w4.heap.size + 1 := by omega
  have n6_5_2 : w1.heap.size ≠ w.heap.size := by omega
  have n6_5_7 : w1.heap.size ≠ w4.heap.size := by omega
  have n6_5_9 : w1.heap.size ≠ w4.heap.size + 1 := by omega
  have n6_7_2 : w4.heap.size ≠ w.heap.size := by omega
  have n6_7_5 : w4.heap.size ≠ w1.heap.size := by omega
  have n6_7_9 : w4.heap.size ≠ w4.heap.size + 1 := by omega
  have n6_9_2 : w4.heap.size + 1 ≠ w.heap.size := by omega
  have n6_9_5 : w4.heap.size + 1 ≠ w1.heap.size := by omega
  have n6_9_7 : w4.heap.size + 1 ≠ w4.heap.size := by omega
  clear c5_2 z5_2 c5_5 z5_5 c5_7 z5_7 c5_9 z5_9
  go_wp2_with fail
  refine (stepE 6 _ _ _ _ _ t false a false false rfl _).mono ?_; rintro e w7 ⟨rfl, hb7⟩
  have b7_2 : w7.heap[w.heap.size]? = some (.cells #[.bool t, .bool f, .bool a, .bool i, .bool p] 23) := keep_blk hb7 (set5_other n6_9_2 B6_2.out)
  have b7_5 : w7.heap[w1.heap.size]? = some (.cells #[.bool true, .bool f, .bool false, .bool i, .bool p] 23) := keep_blk hb7 (set5_other n6_9_5 B6_5.out)
  have b7_7 : w7.heap[w4.heap.size]? = some (.cells #[.bool t, .bool false, .bool a, .bool false, .bool false] 23) := keep_blk hb7 (set5_other n6_9_7 B6_7.out)
  have b7_9 : w7.heap[w4.heap.size + 1]? = some (.cells #[.bool t, .bool true, .bool a, .bool false, .bool false] 23) := keep_blk hb7 (set5_same B6_9.out)
  have hB7 : Below w.heap.size w w7 := below_call (below_set5 hB6 (by omega)) hb7
  have l7_2 := blk_lt b7_2
  obtain ⟨c7_2, z7_2⟩ := blk_cells b7_2
  have B7_2 := Lib.hid b7_2
  clear b7_2
  have l7_5 := blk_lt b7_5
  obtain ⟨c7_5, z7_5⟩ := blk_cells b7_5
  have B7_5 := Lib.hid b7_5
  clear b7_5
  have l7_7 := blk_lt b7_7
  obtain ⟨c7_7, z7_7⟩ := blk_cells b7_7
  have B7_7 := Lib.hid b7_7
  clear b7_7
  have l7_9 := blk_lt b7_9
  obtain ⟨c7_9, z7_9⟩ := blk_cells b7_9
  have B7_9 := Lib.hid b7_9
  clear b7_9
  have n7_2_5 : w.heap.size ≠ w1.heap.size := by omega
  have n7_2_7 : w.heap.size ≠ w4.heap.size := by omega
  have n7_2_9 : w.heap.size ≠ w4.heap.size + 1 := by omega
  have n7_5_2 : w1.heap.size ≠ w.heap.size := by omega
  have n7_5_7 : w1.heap.size ≠ w4.heap.size := by omega
  have n7_5_9 : w1.heap.size ≠ w4.heap.size + 1 := by omega
  have n7_7_2 : w4.heap.size ≠ w.heap.size := by omega
  have n7_7_5 : w4.heap.size ≠ w1.heap.size := by omega
  have n7_7_9 : w4.heap.size ≠ w4.heap.size + 1 := by omega
  have n7_9_2 : w4.heap.size + 1 ≠ w.heap.size := by omega
  have n7_9_5 : w4.heap.size + 1 ≠ w1.heap.size := by omega
  have n7_9_7 : w4.heap.size + 1 ≠ w4.heap.size := by omega
  clear c6_2 z6_2 c6_5 z6_5 c6_7 z6_7 c6_9 z6_9
  go_wp2_with fail
  have e1 : toOf (subOf true f) = true := by cases f <;> rfl
  have e2 : fromOf (subOf true f) = f := by cases f <;> rfl
  go_region_held3 (fun w' => w'.cell? ⟨w1.heap.size, 0, none⟩ = some (.bool true) ∧ w'.cell? ⟨w1.heap.size, 1, none⟩ = some (.bool f) ∧ w'.cell? ⟨w1.heap.size, 2, none⟩ = some (.bool false) ∧ w'.cell? ⟨w1.heap.size, 3, none⟩ = some (.bool i) ∧ w'.cell? ⟨w1.heap.size, 4, none⟩ = some (.bool p) ∧ w'.cell? ⟨w4.heap.size, 1, none⟩ = some (.bool false) ∧ w'.cell? ⟨w4.heap.size, 3, none⟩ = some (.bool false) ∧ w'.cell? ⟨w4.heap.size, 4, none⟩ = some (.bool false) ∧ w'.cell? ⟨w4.heap.size + 1, 1, none⟩ = some (.bool true) ∧ w'.cell? ⟨w4.heap.size + 1, 3, none⟩ = some (.bool false) ∧ w'.cell? ⟨w4.heap.size + 1, 4, none⟩ = some (.bool false) ∧ w'.cell? ⟨w7.heap.size, 1, none⟩ = some (.bool false) ∧ w'.cell? ⟨w7.heap.size + 1, 0, none⟩ = some (.string ⟨#[97, 64, 98]⟩) ∧ w'.cell? ⟨w7.heap.size + 1, 1, none⟩ = some (.string ⟨#[]⟩) ∧ w'.cell? ⟨w7.heap.size + 1, 2, none⟩ = some (.slice none 0 0) ∧ w'.cell? ⟨w7.heap.size + 1, 3, none⟩ = some (.int .i64 0) ∧ w'.cell? ⟨w7.heap.size + 1, 4, none⟩ = some (.bool false) ∧ w'.cell? ⟨w7.heap.size + 1, 5, none⟩ = some (.bool false) ∧ w'.cell? ⟨w.heap.size, 1, none⟩ = some (.bool f) ∧ w'.cell? ⟨w.heap.size, 4, none⟩ = some (.bool p)) (first | (refine ⟨?_, ?_, ?_, ?_, ?_, ?_, ?_, ?_, ?_, ?_, ?_, ?_, ?_, ?_, ?_, ?_, ?_, ?_, ?_, ?_⟩ <;> (simp [c7_2, c7_5, c7_7, c7_9, l7_2, l7_5, l7_7, l7_9, cell_lt, Nat.lt_succ_of_lt]; done)) | (obtain ⟨q0, q1, q2, q3, q4, q5, q6, q7, q8, q9, q10, q11, q12, q13, q14, q15, q16, q17, q18, q19⟩ := ‹_ ∧ _ ∧ _ ∧ _ ∧ _ ∧ _ ∧ _ ∧ _ ∧ _ ∧ _ ∧ _ ∧ _ ∧ _ ∧ _ ∧ _ ∧ _ ∧ _ ∧ _ ∧ _ ∧ _›; exact ⟨keep_cell (by assumption) q0, keep_cell (by assumption) q1, keep_cell (by assumption) q2, keep_cell (by assumption) q3, keep_cell (by assumption) q4, keep_cell (by assumption) q5, keep_cell (by assumption) q6, keep_cell (by assumption) q7, keep_cell (by assumption) q8, keep_cell (by assumption) q9, keep_cell (by assumption) q10, keep_cell (by assumption) q11, keep_cell (by assumption) q12, keep_cell (by assumption) q13, keep_cell (by assumption) q14, keep_cell (by assumption) q15, keep_cell (by assumption) q16, keep_cell (by assumption) q17, keep_cell (by assumption) q18, keep_cell (by assumption) q19⟩)) (first | (go_at_call 9; refine (awake_any _).mono ?_; rintro e w8 ⟨rfl, hb8⟩) | (go_at_call 17; refine (into_nil _ _ _ _ _ _ _ _ _ _ _).mono ?_; rintro e w9 ⟨rfl, hb9⟩) | (go_at_call 14; refine (of_any _ _ _ _ _ _ _ _ _).mono ?_; rintro e w10 ⟨rfl, hb10⟩))
  all_goals
    go_wp2_with fail
    go_ret
    exact ⟨rfl, below_call (below_call (below_call (Below.drew (below_new (below_new hB7 _) _)) hb8) hb9) hb10⟩
set_option maxHeartbeats 4000000 in
theorem rounds_wrong (t f a i p ahead : Bool) (hr : rightM t f a i p = false) (w : World) : Calls Try.prog 6 #[.agg #[.bool t, .bool f, .bool a, .bool i, .bool p], .bool ahead] w fun e w' => e = .returned (.bool true) ∧ Below w.heap.size w w' := by
  have cc := rightS t f a i p false hr
  have CC := Lib.hid cc
  clear cc hr
  go_enter Try.func6, Try.ntmps6
  go_wp2_with fail
  refine (CC.out _).mono ?_; rintro e w' ⟨rfl, rfl⟩
  go_wp2_with fail
  refine (awake_any _).mono ?_; rintro e w3 ⟨rfl, hb3⟩
  go_wp2_with fail
  go_ret
  exact ⟨rfl, below_call (below_new (below_new (Below.refl _ _) _) _) hb3⟩
theorem rounds_any (t f a i p ahead : Bool) (w : World) : Calls Try.prog 6 #[.agg #[.bool t, .bool f, .bool a, .bool i, .bool p], .bool ahead] w fun e w' => e = .returned (.bool true) ∧ Below w.heap.size w w' := by
  cases hr : rightM t f a i p
  · exact rounds_wrong t f a i p ahead hr w
  · cases ahead
    · exact rounds_false t f a i p hr w
    · exact rounds_true t f a i p hr w
end Go.Proofs.Ytinpgccfddmmpaa
