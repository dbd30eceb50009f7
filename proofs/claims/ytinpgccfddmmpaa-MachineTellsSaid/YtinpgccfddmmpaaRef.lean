/- The reference's Step and Into. -/
import Derived.Test.YtinpgccfddmmpaaBlk
import Derived.RegionTactic
import Derived.BigRegion
namespace Go.Proofs.Ytinpgccfddmmpaa
open Go.RowKit
attribute [local go_sem high] eqM
set_option maxHeartbeats 4000000 in
theorem rstep_1_af (t f i p : Bool) (w : World) : Calls Try.prog 12 #[.agg #[.bool t, .bool f, .bool false, .bool i, .bool p], .int .i64 1] w fun e w' => e = .returned (.tuple #[.agg #[.bool (stepM 1 ⟨t, f, false, i, p⟩).t, .bool (stepM 1 ⟨t, f, false, i, p⟩).f, .bool (stepM 1 ⟨t, f, false, i, p⟩).a, .bool (stepM 1 ⟨t, f, false, i, p⟩).i, .bool (stepM 1 ⟨t, f, false, i, p⟩).p], .bool (chM 1 ⟨t, f, false, i, p⟩)]) ∧ Below w.heap.size w w' := by
  go_enter Try.func12, Try.ntmps12
  go_wp2
  try (go_region; go_wp2)
  refine bodyPost_ret (v := .tuple #[.agg #[.bool (stepM 1 ⟨t, f, false, i, p⟩).t, .bool (stepM 1 ⟨t, f, false, i, p⟩).f, .bool (stepM 1 ⟨t, f, false, i, p⟩).a, .bool (stepM 1 ⟨t, f, false, i, p⟩).i, .bool (stepM 1 ⟨t, f, false, i, p⟩).p], .bool (chM 1 ⟨t, f, false, i, p⟩)]) ?_ rfl ⟨rfl, ?_⟩
  · simp [results, Try.results12, go_sem, chM, stepM]
  · repeat (first | (with_reducible exact Below.refl _ _) | (with_reducible refine below_new ?_ _) | (with_reducible refine Below.drew ?_) | (with_reducible refine below_setA ?_) | (with_reducible refine below_setB ?_) | (with_reducible refine below_setC ?_))
set_option maxHeartbeats 4000000 in
theorem rstep_1_at (t f i p : Bool) (w : World) : Calls Try.prog 12 #[.agg #[.bool t, .bool f, .bool true, .bool i, .bool p], .int .i64 1] w fun e w' => e = .returned (.tuple #[.agg #[.bool (stepM 1 ⟨t, f, true, i, p⟩).t, .bool (stepM 1 ⟨t, f, true, i, p⟩).f, .bool (stepM 1 ⟨t, f, true, i, p⟩).a, .bool (stepM 1 ⟨t, f, true, i, p⟩).i, .bool (stepM 1 ⟨t, f, true, i, p⟩).p], .bool (chM 1 ⟨t, f, true, i, p⟩)]) ∧ Below w.heap.size w w' := by
  go_enter Try.func12, Try.ntmps12
  go_wp2
  try (go_region; go_wp2)
  refine bodyPost_ret (v := .tuple #[.agg #[.bool (stepM 1 ⟨t, f, true, i, p⟩).t, .bool (stepM 1 ⟨t, f, true, i, p⟩).f, .bool (stepM 1 ⟨t, f, true, i, p⟩).a, .bool (stepM 1 ⟨t, f, true, i, p⟩).i, .bool (stepM 1 ⟨t, f, true, i, p⟩).p], .bool (chM 1 ⟨t, f, true, i, p⟩)]) ?_ rfl ⟨rfl, ?_⟩
  · simp [results, Try.results12, go_sem, chM, stepM]
  · repeat (first | (with_reducible exact Below.refl _ _) | (with_reducible refine below_new ?_ _) | (with_reducible refine Below.drew ?_) | (with_reducible refine below_setA ?_) | (with_reducible refine below_setB ?_) | (with_reducible refine below_setC ?_))
theorem rstep_1' (t f a i p : Bool) (w : World) : Calls Try.prog 12 #[.agg #[.bool t, .bool f, .bool a, .bool i, .bool p], .int .i64 1] w fun e w' => e = .returned (.tuple #[.agg #[.bool (stepM 1 ⟨t, f, a, i, p⟩).t, .bool (stepM 1 ⟨t, f, a, i, p⟩).f, .bool (stepM 1 ⟨t, f, a, i, p⟩).a, .bool (stepM 1 ⟨t, f, a, i, p⟩).i, .bool (stepM 1 ⟨t, f, a, i, p⟩).p], .bool (chM 1 ⟨t, f, a, i, p⟩)]) ∧ Below w.heap.size w w' := by
  cases a
  · exact rstep_1_af t f i p w
  · exact rstep_1_at t f i p w
set_option maxHeartbeats 4000000 in
theorem rstep_2 (t f a i p : Bool) (w : World) : Calls Try.prog 12 #[.agg #[.bool t, .bool f, .bool a, .bool i, .bool p], .int .i64 2] w fun e w' => e = .returned (.tuple #[.agg #[.bool (stepM 2 ⟨t, f, a, i, p⟩).t, .bool (stepM 2 ⟨t, f, a, i, p⟩).f, .bool (stepM 2 ⟨t, f, a, i, p⟩).a, .bool (stepM 2 ⟨t, f, a, i, p⟩).i, .bool (stepM 2 ⟨t, f, a, i, p⟩).p], .bool (chM 2 ⟨t, f, a, i, p⟩)]) ∧ Below w.heap.size w w' := by
  go_enter Try.func12, Try.ntmps12
  go_wp2
  try (go_region; go_wp2)
  refine bodyPost_ret (v := .tuple #[.agg #[.bool (stepM 2 ⟨t, f, a, i, p⟩).t, .bool (stepM 2 ⟨t, f, a, i, p⟩).f, .bool (stepM 2 ⟨t, f, a, i, p⟩).a, .bool (stepM 2 ⟨t, f, a, i, p⟩).i, .bool (stepM 2 ⟨t, f, a, i, p⟩).p], .bool (chM 2 ⟨t, f, a, i, p⟩)]) ?_ rfl ⟨rfl, ?_⟩
  · simp [results, Try.results12, go_sem, chM, stepM]
  · repeat (first | (with_reducible exact Below.refl _ _) | (with_reducible refine below_new ?_ _) | (with_reducible refine Below.drew ?_) | (with_reducible refine below_setA ?_) | (with_reducible refine below_setB ?_) | (with_reducible refine below_setC ?_))
theorem rstep_2' (t f a i p : Bool) (w : World) : Calls Try.prog 12 #[.agg #[.bool t, .bool f, .bool a, .bool i, .bool p], .int .i64 2] w fun e w' => e = .returned (.tuple #[.agg #[.bool (stepM 2 ⟨t, f, a, i, p⟩).t, .bool (stepM 2 ⟨t, f, a, i, p⟩).f, .bool (stepM 2 ⟨t, f, a, i, p⟩).a, .bool (stepM 2 ⟨t, f, a, i, p⟩).i, .bool (stepM 2 ⟨t, f, a, i, p⟩).p], .bool (chM 2 ⟨t, f, a, i, p⟩)]) ∧ Below w.heap.size w w' := by
  exact rstep_2 t f a i p w
set_option maxHeartbeats 4000000 in
theorem rstep_3_if_ff (t a p : Bool) (w : World) : Calls Try.prog 12 #[.agg #[.bool t, .bool false, .bool a, .bool false, .bool p], .int .i64 3] w fun e w' => e = .returned (.tuple #[.agg #[.bool (stepM 3 ⟨t, false, a, false, p⟩).t, .bool (stepM 3 ⟨t, false, a, false, p⟩).f, .bool (stepM 3 ⟨t, false, a, false, p⟩).a, .bool (stepM 3 ⟨t, false, a, false, p⟩).i, .bool (stepM 3 ⟨t, false, a, false, p⟩).p], .bool (chM 3 ⟨t, false, a, false, p⟩)]) ∧ Below w.heap.size w w' := by
  go_enter Try.func12, Try.ntmps12
  go_wp2
  try (go_region; go_wp2)
  refine bodyPost_ret (v := .tuple #[.agg #[.bool (stepM 3 ⟨t, false, a, false, p⟩).t, .bool (stepM 3 ⟨t, false, a, false, p⟩).f, .bool (stepM 3 ⟨t, false, a, false, p⟩).a, .bool (stepM 3 ⟨t, false, a, false, p⟩).i, .bool (stepM 3 ⟨t, false, a, false, p⟩).p], .bool (chM 3 ⟨t, false, a, false, p⟩)]) ?_ rfl ⟨rfl, ?_⟩
  · simp [results, Try.results12, go_sem, chM, stepM]
  · repeat (first | (with_reducible exact Below.refl _ _) | (with_reducible refine below_new ?_ _) | (with_reducible refine Below.drew ?_) | (with_reducible refine below_setA ?_) | (with_reducible refine below_setB ?_) | (with_reducible refine below_setC ?_))
set_option maxHeartbeats 4000000 in
theorem rstep_3_if_ft (t a p : Bool) (w : World) : Calls Try.prog 12 #[.agg #[.bool t, .bool true, .bool a, .bool false, .bool p], .int .i64 3] w fun e w' => e = .returned (.tuple #[.agg #[.bool (stepM 3 ⟨t, true, a, false, p⟩).t, .bool (stepM 3 ⟨t, true, a, false, p⟩).f, .bool (stepM 3 ⟨t, true, a, false, p⟩).a, .bool (stepM 3 ⟨t, true, a, false, p⟩).i, .bool (stepM 3 ⟨t, true, a, false, p⟩).p], .bool (chM 3 ⟨t, true, a, false, p⟩)]) ∧ Below w.heap.size w w' := by
  go_enter Try.func12, Try.ntmps12
  go_wp2
  try (go_region; go_wp2)
  refine bodyPost_ret (v := .tuple #[.agg #[.bool (stepM 3 ⟨t, true, a, false, p⟩).t, .bool (stepM 3 ⟨t, true, a, false, p⟩).f, .bool (stepM 3 ⟨t, true, a, false, p⟩).a, .bool (stepM 3 ⟨t, true, a, false, p⟩).i, .bool (stepM 3 ⟨t, true, a, false, p⟩).p], .bool (chM 3 ⟨t, true, a, false, p⟩)]) ?_ rfl ⟨rfl, ?_⟩
  · simp [results, Try.results12, go_sem, chM, stepM]
  · repeat (first | (with_reducible exact Below.refl _ _) | (with_reducible refine below_new ?_ _) | (with_reducible refine Below.drew ?_) | (with_reducible refine below_setA ?_) | (with_reducible refine below_setB ?_) | (with_reducible refine below_setC ?_))
set_option maxHeartbeats 4000000 in
theorem rstep_3_it_ff (t a p : Bool) (w : World) : Calls Try.prog 12 #[.agg #[.bool t, .bool false, .bool a, .bool true, .bool p], .int .i64 3] w fun e w' => e = .returned (.tuple #[.agg #[.bool (stepM 3 ⟨t, false, a, true, p⟩).t, .bool (stepM 3 ⟨t, false, a, true, p⟩).f, .bool (stepM 3 ⟨t, false, a, true, p⟩).a, .bool (stepM 3 ⟨t, false, a, true, p⟩).i, .bool (stepM 3 ⟨t, false, a, true, p⟩).p], .bool (chM 3 ⟨t, false, a, true, p⟩)]) ∧ Below w.heap.size w w' := by
  go_enter Try.func12, Try.ntmps12
  go_wp2
  try (go_region; go_wp2)
  refine bodyPost_ret (v := .tuple #[.agg #[.bool (stepM 3 ⟨t, false, a, true, p⟩).t, .bool (stepM 3 ⟨t, false, a, true, p⟩).f, .bool (stepM 3 ⟨t, false, a, true, p⟩).a, .bool (stepM 3 ⟨t, false, a, true, p⟩).i, .bool (stepM 3 ⟨t, false, a, true, p⟩).p], .bool (chM 3 ⟨t, false, a, true, p⟩)]) ?_ rfl ⟨rfl, ?_⟩
  · simp [results, Try.results12, go_sem, chM, stepM]
  · repeat (first | (with_reducible exact Below.refl _ _) | (with_reducible refine below_new ?_ _) | (with_reducible refine Below.drew ?_) | (with_reducible refine below_setA ?_) | (with_reducible refine below_setB ?_) | (with_reducible refine below_setC ?_))
set_option maxHeartbeats 4000000 in
theorem rstep_3_it_ft (t a p : Bool) (w : World) : Calls Try.prog 12 #[.agg #[.bool t, .bool true, .bool a, .bool true, .bool p], .int .i64 3] w fun e w' => e = .returned (.tuple #[.agg #[.bool (stepM 3 ⟨t, true, a, true, p⟩).t, .bool (stepM 3 ⟨t, true, a, true, p⟩).f, .bool (stepM 3 ⟨t, true, a, true, p⟩).a, .bool (stepM 3 ⟨t, true, a, true, p⟩).i, .bool (stepM 3 ⟨t, true, a, true, p⟩).p], .bool (chM 3 ⟨t, true, a, true, p⟩)]) ∧ Below w.heap.size w w' := by
  go_enter Try.func12, Try.ntmps12
  go_wp2
  try (go_region; go_wp2)
  refine bodyPost_ret (v := .tuple #[.agg #[.bool (stepM 3 ⟨t, true, a, true, p⟩).t, .bool (stepM 3 ⟨t, true, a, true, p⟩).f, .bool (stepM 3 ⟨t, true, a, true, p⟩).a, .bool (stepM 3 ⟨t, true, a, true, p⟩).i, .bool (stepM 3 ⟨t, true, a, true, p⟩).p], .bool (chM 3 ⟨t, true, a, true, p⟩)]) ?_ rfl ⟨rfl, ?_⟩
  · simp [results, Try.results12, go_sem, chM, stepM]
  · repeat (first | (with_reducible exact Below.refl _ _) | (with_reducible refine below_new ?_ _) | (with_reducible refine Below.drew ?_) | (with_reducible refine below_setA ?_) | (with_reducible refine below_setB ?_) | (with_reducible refine below_setC ?_))
theorem rstep_3' (t f a i p : Bool) (w : World) : Calls Try.prog 12 #[.agg #[.bool t, .bool f, .bool a, .bool i, .bool p], .int .i64 3] w fun e w' => e = .returned (.tuple #[.agg #[.bool (stepM 3 ⟨t, f, a, i, p⟩).t, .bool (stepM 3 ⟨t, f, a, i, p⟩).f, .bool (stepM 3 ⟨t, f, a, i, p⟩).a, .bool (stepM 3 ⟨t, f, a, i, p⟩).i, .bool (stepM 3 ⟨t, f, a, i, p⟩).p], .bool (chM 3 ⟨t, f, a, i, p⟩)]) ∧ Below w.heap.size w w' := by
  cases i <;> cases f
  · exact rstep_3_if_ff t a p w
  · exact rstep_3_if_ft t a p w
  · exact rstep_3_it_ff t a p w
  · exact rstep_3_it_ft t a p w
set_option maxHeartbeats 4000000 in
theorem rstep_4 (t f a i p : Bool) (w : World) : Calls Try.prog 12 #[.agg #[.bool t, .bool f, .bool a, .bool i, .bool p], .int .i64 4] w fun e w' => e = .returned (.tuple #[.agg #[.bool (stepM 4 ⟨t, f, a, i, p⟩).t, .bool (stepM 4 ⟨t, f, a, i, p⟩).f, .bool (stepM 4 ⟨t, f, a, i, p⟩).a, .bool (stepM 4 ⟨t, f, a, i, p⟩).i, .bool (stepM 4 ⟨t, f, a, i, p⟩).p], .bool (chM 4 ⟨t, f, a, i, p⟩)]) ∧ Below w.heap.size w w' := by
  go_enter Try.func12, Try.ntmps12
  go_wp2
  try (go_region; go_wp2)
  refine bodyPost_ret (v := .tuple #[.agg #[.bool (stepM 4 ⟨t, f, a, i, p⟩).t, .bool (stepM 4 ⟨t, f, a, i, p⟩).f, .bool (stepM 4 ⟨t, f, a, i, p⟩).a, .bool (stepM 4 ⟨t, f, a, i, p⟩).i, .bool (stepM 4 ⟨t, f, a, i, p⟩).p], .bool (chM 4 ⟨t, f, a, i, p⟩)]) ?_ rfl ⟨rfl, ?_⟩
  · simp [results, Try.results12, go_sem, chM, stepM]
  · repeat (first | (with_reducible exact Below.refl _ _) | (with_reducible refine below_new ?_ _) | (with_reducible refine Below.drew ?_) | (with_reducible refine below_setA ?_) | (with_reducible refine below_setB ?_) | (with_reducible refine below_setC ?_))
theorem rstep_4' (t f a i p : Bool) (w : World) : Calls Try.prog 12 #[.agg #[.bool t, .bool f, .bool a, .bool i, .bool p], .int .i64 4] w fun e w' => e = .returned (.tuple #[.agg #[.bool (stepM 4 ⟨t, f, a, i, p⟩).t, .bool (stepM 4 ⟨t, f, a, i, p⟩).f, .bool (stepM 4 ⟨t, f, a, i, p⟩).a, .bool (stepM 4 ⟨t, f, a, i, p⟩).i, .bool (stepM 4 ⟨t, f, a, i, p⟩).p], .bool (chM 4 ⟨t, f, a, i, p⟩)]) ∧ Below w.heap.size w w' := by
  exact rstep_4 t f a i p w
set_option maxHeartbeats 4000000 in
theorem rstep_5_ff_pf (t a i : Bool) (w : World) : Calls Try.prog 12 #[.agg #[.bool t, .bool false, .bool a, .bool i, .bool false], .int .i64 5] w fun e w' => e = .returned (.tuple #[.agg #[.bool (stepM 5 ⟨t, false, a, i, false⟩).t, .bool (stepM 5 ⟨t, false, a, i, false⟩).f, .bool (stepM 5 ⟨t, false, a, i, false⟩).a, .bool (stepM 5 ⟨t, false, a, i, false⟩).i, .bool (stepM 5 ⟨t, false, a, i, false⟩).p], .bool (chM 5 ⟨t, false, a, i, false⟩)]) ∧ Below w.heap.size w w' := by
  go_enter Try.func12, Try.ntmps12
  go_wp2
  try (go_region; go_wp2)
  refine bodyPost_ret (v := .tuple #[.agg #[.bool (stepM 5 ⟨t, false, a, i, false⟩).t, .bool (stepM 5 ⟨t, false, a, i, false⟩).f, .bool (stepM 5 ⟨t, false, a, i, false⟩).a, .bool (stepM 5 ⟨t, false, a, i, false⟩).i, .bool (stepM 5 ⟨t, false, a, i, false⟩).p], .bool (chM 5 ⟨t, false, a, i, false⟩)]) ?_ rfl ⟨rfl, ?_⟩
  · simp [results, Try.results12, go_sem, chM, stepM]
  · repeat (first | (with_reducible exact Below.refl _ _) | (with_reducible refine below_new ?_ _) | (with_reducible refine Below.drew ?_) | (with_reducible refine below_setA ?_) | (with_reducible refine below_setB ?_) | (with_reducible refine below_setC ?_))
set_option maxHeartbeats 4000000 in
theorem rstep_5_ff_pt (t a i : Bool) (w : World) : Calls Try.prog 12 #[.agg #[.bool t, .bool false, .bool a, .bool i, .bool true], .int .i64 5] w fun e w' => e = .returned (.tuple #[.agg #[.bool (stepM 5 ⟨t, false, a, i, true⟩).t, .bool (stepM 5 ⟨t, false, a, i, true⟩).f, .bool (stepM 5 ⟨t, false, a, i, true⟩).a, .bool (stepM 5 ⟨t, false, a, i, true⟩).i, .bool (stepM 5 ⟨t, false, a, i, true⟩).p], .bool (chM 5 ⟨t, false, a, i, true⟩)]) ∧ Below w.heap.size w w' := by
  go_enter Try.func12, Try.ntmps12
  go_wp2
  try (go_region; go_wp2)
  refine bodyPost_ret (v := .tuple #[.agg #[.bool (stepM 5 ⟨t, false, a, i, true⟩).t, .bool (stepM 5 ⟨t, false, a, i, true⟩).f, .bool (stepM 5 ⟨t, false, a, i, true⟩).a, .bool (stepM 5 ⟨t, false, a, i, true⟩).i, .bool (stepM 5 ⟨t, false, a, i, true⟩).p], .bool (chM 5 ⟨t, false, a, i, true⟩)]) ?_ rfl ⟨rfl, ?_⟩
  · simp [results, Try.results12, go_sem, chM, stepM]
  · repeat (first | (with_reducible exact Below.refl _ _) | (with_reducible refine below_new ?_ _) | (with_reducible refine Below.drew ?_) | (with_reducible refine below_setA ?_) | (with_reducible refine below_setB ?_) | (with_reducible refine below_setC ?_))
set_option maxHeartbeats 4000000 in
theorem rstep_5_ft_pf (t a i : Bool) (w : World) : Calls Try.prog 12 #[.agg #[.bool t, .bool true, .bool a, .bool i, .bool false], .int .i64 5] w fun e w' => e = .returned (.tuple #[.agg #[.bool (stepM 5 ⟨t, true, a, i, false⟩).t, .bool (stepM 5 ⟨t, true, a, i, false⟩).f, .bool (stepM 5 ⟨t, true, a, i, false⟩).a, .bool (stepM 5 ⟨t, true, a, i, false⟩).i, .bool (stepM 5 ⟨t, true, a, i, false⟩).p], .bool (chM 5 ⟨t, true, a, i, false⟩)]) ∧ Below w.heap.size w w' := by
  go_enter Try.func12, Try.ntmps12
  go_wp2
  try (go_region; go_wp2)
  refine bodyPost_ret (v := .tuple #[.agg #[.bool (stepM 5 ⟨t, true, a, i, false⟩).t, .bool (stepM 5 ⟨t, true, a, i, false⟩).f, .bool (stepM 5 ⟨t, true, a, i, false⟩).a, .bool (stepM 5 ⟨t, true, a, i, false⟩).i, .bool (stepM 5 ⟨t, true, a, i, false⟩).p], .bool (chM 5 ⟨t, true, a, i, false⟩)]) ?_ rfl ⟨rfl, ?_⟩
  · simp [results, Try.results12, go_sem, chM, stepM]
  · repeat (first | (with_reducible exact Below.refl _ _) | (with_reducible refine below_new ?_ _) | (with_reducible refine Below.drew ?_) | (with_reducible refine below_setA ?_) | (with_reducible refine below_setB ?_) | (with_reducible refine below_setC ?_))
set_option maxHeartbeats 4000000 in
theorem rstep_5_ft_pt (t a i : Bool) (w : World) : Calls Try.prog 12 #[.agg #[.bool t, .bool true, .bool a, .bool i, .bool true], .int .i64 5] w fun e w' => e = .returned (.tuple #[.agg #[.bool (stepM 5 ⟨t, true, a, i, true⟩).t, .bool (stepM 5 ⟨t, true, a, i, true⟩).f, .bool (stepM 5 ⟨t, true, a, i, true⟩).a, .bool (stepM 5 ⟨t, true, a, i, true⟩).i, .bool (stepM 5 ⟨t, true, a, i, true⟩).p], .bool (chM 5 ⟨t, true, a, i, true⟩)]) ∧ Below w.heap.size w w' := by
  go_enter Try.func12, Try.ntmps12
  go_wp2
  try (go_region; go_wp2)
  refine bodyPost_ret (v := .tuple #[.agg #[.bool (stepM 5 ⟨t, true, a, i, true⟩).t, .bool (stepM 5 ⟨t, true, a, i, true⟩).f, .bool (stepM 5 ⟨t, true, a, i, true⟩).a, .bool (stepM 5 ⟨t, true, a, i, true⟩).i, .bool (stepM 5 ⟨t, true, a, i, true⟩).p], .bool (chM 5 ⟨t, true, a, i, true⟩)]) ?_ rfl ⟨rfl, ?_⟩
  · simp [results, Try.results12, go_sem, chM, stepM]
  · repeat (first | (with_reducible exact Below.refl _ _) | (with_reducible refine below_new ?_ _) | (with_reducible refine Below.drew ?_) | (with_reducible refine below_setA ?_) | (with_reducible refine below_setB ?_) | (with_reducible refine below_setC ?_))
theorem rstep_5' (t f a i p : Bool) (w : World) : Calls Try.prog 12 #[.agg #[.bool t, .bool f, .bool a, .bool i, .bool p], .int .i64 5] w fun e w' => e = .returned (.tuple #[.agg #[.bool (stepM 5 ⟨t, f, a, i, p⟩).t, .bool (stepM 5 ⟨t, f, a, i, p⟩).f, .bool (stepM 5 ⟨t, f, a, i, p⟩).a, .bool (stepM 5 ⟨t, f, a, i, p⟩).i, .bool (stepM 5 ⟨t, f, a, i, p⟩).p], .bool (chM 5 ⟨t, f, a, i, p⟩)]) ∧ Below w.heap.size w w' := by
  cases f <;> cases p
  · exact rstep_5_ff_pf t a i w
  · exact rstep_5_ff_pt t a i w
  · exact rstep_5_ft_pf t a i w
  · exact rstep_5_ft_pt t a i w
set_option maxHeartbeats 4000000 in
theorem rstep_6 (t f a i p : Bool) (w : World) : Calls Try.prog 12 #[.agg #[.bool t, .bool f, .bool a, .bool i, .bool p], .int .i64 6] w fun e w' => e = .returned (.tuple #[.agg #[.bool (stepM 6 ⟨t, f, a, i, p⟩).t, .bool (stepM 6 ⟨t, f, a, i, p⟩).f, .bool (stepM 6 ⟨t, f, a, i, p⟩).a, .bool (stepM 6 ⟨t, f, a, i, p⟩).i, .bool (stepM 6 ⟨t, f, a, i, p⟩).p], .bool (chM 6 ⟨t, f, a, i, p⟩)]) ∧ Below w.heap.size w w' := by
  go_enter Try.func12, Try.ntmps12
  go_wp2
  try (go_region; go_wp2)
  refine bodyPost_ret (v := .tuple #[.agg #[.bool (stepM 6 ⟨t, f, a, i, p⟩).t, .bool (stepM 6 ⟨t, f, a, i, p⟩).f, .bool (stepM 6 ⟨t, f, a, i, p⟩).a, .bool (stepM 6 ⟨t, f, a, i, p⟩).i, .bool (stepM 6 ⟨t, f, a, i, p⟩).p], .bool (chM 6 ⟨t, f, a, i, p⟩)]) ?_ rfl ⟨rfl, ?_⟩
  · simp [results, Try.results12, go_sem, chM, stepM]
  · repeat (first | (with_reducible exact Below.refl _ _) | (with_reducible refine below_new ?_ _) | (with_reducible refine Below.drew ?_) | (with_reducible refine below_setA ?_) | (with_reducible refine below_setB ?_) | (with_reducible refine below_setC ?_))
theorem rstep_6' (t f a i p : Bool) (w : World) : Calls Try.prog 12 #[.agg #[.bool t, .bool f, .bool a, .bool i, .bool p], .int .i64 6] w fun e w' => e = .returned (.tuple #[.agg #[.bool (stepM 6 ⟨t, f, a, i, p⟩).t, .bool (stepM 6 ⟨t, f, a, i, p⟩).f, .bool (stepM 6 ⟨t, f, a, i, p⟩).a, .bool (stepM 6 ⟨t, f, a, i, p⟩).i, .bool (stepM 6 ⟨t, f, a, i, p⟩).p], .bool (chM 6 ⟨t, f, a, i, p⟩)]) ∧ Below w.heap.size w w' := by
  exact rstep_6 t f a i p w
set_option maxHeartbeats 4000000 in
theorem rstep_7_af (t f i p : Bool) (w : World) : Calls Try.prog 12 #[.agg #[.bool t, .bool f, .bool false, .bool i, .bool p], .int .i64 7] w fun e w' => e = .returned (.tuple #[.agg #[.bool (stepM 7 ⟨t, f, false, i, p⟩).t, .bool (stepM 7 ⟨t, f, false, i, p⟩).f, .bool (stepM 7 ⟨t, f, false, i, p⟩).a, .bool (stepM 7 ⟨t, f, false, i, p⟩).i, .bool (stepM 7 ⟨t, f, false, i, p⟩).p], .bool (chM 7 ⟨t, f, false, i, p⟩)]) ∧ Below w.heap.size w w' := by
  go_enter Try.func12, Try.ntmps12
  go_wp2
  try (go_region; go_wp2)
  refine bodyPost_ret (v := .tuple #[.agg #[.bool (stepM 7 ⟨t, f, false, i, p⟩).t, .bool (stepM 7 ⟨t, f, false, i, p⟩).f, .bool (stepM 7 ⟨t, f, false, i, p⟩).a, .bool (stepM 7 ⟨t, f, false, i, p⟩).i, .bool (stepM 7 ⟨t, f, false, i, p⟩).p], .bool (chM 7 ⟨t, f, false, i, p⟩)]) ?_ rfl ⟨rfl, ?_⟩
  · simp [results, Try.results12, go_sem, chM, stepM]
  · repeat (first | (with_reducible exact Below.refl _ _) | (with_reducible refine below_new ?_ _) | (with_reducible refine Below.drew ?_) | (with_reducible refine below_setA ?_) | (with_reducible refine below_setB ?_) | (with_reducible refine below_setC ?_))
set_option maxHeartbeats 4000000 in
theorem rstep_7_at (t f i p : Bool) (w : World) : Calls Try.prog 12 #[.agg #[.bool t, .bool f, .bool true, .bool i, .bool p], .int .i64 7] w fun e w' => e = .returned (.tuple #[.agg #[.bool (stepM 7 ⟨t, f, true, i, p⟩).t, .bool (stepM 7 ⟨t, f, true, i, p⟩).f, .bool (stepM 7 ⟨t, f, true, i, p⟩).a, .bool (stepM 7 ⟨t, f, true, i, p⟩).i, .bool (stepM 7 ⟨t, f, true, i, p⟩).p], .bool (chM 7 ⟨t, f, true, i, p⟩)]) ∧ Below w.heap.size w w' := by
  go_enter Try.func12, Try.ntmps12
  go_wp2
  try (go_region; go_wp2)
  refine bodyPost_ret (v := .tuple #[.agg #[.bool (stepM 7 ⟨t, f, true, i, p⟩).t, .bool (stepM 7 ⟨t, f, true, i, p⟩).f, .bool (stepM 7 ⟨t, f, true, i, p⟩).a, .bool (stepM 7 ⟨t, f, true, i, p⟩).i, .bool (stepM 7 ⟨t, f, true, i, p⟩).p], .bool (chM 7 ⟨t, f, true, i, p⟩)]) ?_ rfl ⟨rfl, ?_⟩
  · simp [results, Try.results12, go_sem, chM, stepM]
  · repeat (first | (with_reducible exact Below.refl _ _) | (with_reducible refine below_new ?_ _) | (with_reducible refine Below.drew ?_) | (with_reducible refine below_setA ?_) | (with_reducible refine below_setB ?_) | (with_reducible refine below_setC ?_))
theorem rstep_7' (t f a i p : Bool) (w : World) : Calls Try.prog 12 #[.agg #[.bool t, .bool f, .bool a, .bool i, .bool p], .int .i64 7] w fun e w' => e = .returned (.tuple #[.agg #[.bool (stepM 7 ⟨t, f, a, i, p⟩).t, .bool (stepM 7 ⟨t, f, a, i, p⟩).f, .bool (stepM 7 ⟨t, f, a, i, p⟩).a, .bool (stepM 7 ⟨t, f, a, i, p⟩).i, .bool (stepM 7 ⟨t, f, a, i, p⟩).p], .bool (chM 7 ⟨t, f, a, i, p⟩)]) ∧ Below w.heap.size w w' := by
  cases a
  · exact rstep_7_af t f i p w
  · exact rstep_7_at t f i p w
set_option maxHeartbeats 4000000 in
theorem rstep_8 (t f a i p : Bool) (w : World) : Calls Try.prog 12 #[.agg #[.bool t, .bool f, .bool a, .bool i, .bool p], .int .i64 8] w fun e w' => e = .returned (.tuple #[.agg #[.bool (stepM 8 ⟨t, f, a, i, p⟩).t, .bool (stepM 8 ⟨t, f, a, i, p⟩).f, .bool (stepM 8 ⟨t, f, a, i, p⟩).a, .bool (stepM 8 ⟨t, f, a, i, p⟩).i, .bool (stepM 8 ⟨t, f, a, i, p⟩).p], .bool (chM 8 ⟨t, f, a, i, p⟩)]) ∧ Below w.heap.size w w' := by
  go_enter Try.func12, Try.ntmps12
  go_wp2
  try (go_region; go_wp2)
  refine bodyPost_ret (v := .tuple #[.agg #[.bool (stepM 8 ⟨t, f, a, i, p⟩).t, .bool (stepM 8 ⟨t, f, a, i, p⟩).f, .bool (stepM 8 ⟨t, f, a, i, p⟩).a, .bool (stepM 8 ⟨t, f, a, i, p⟩).i, .bool (stepM 8 ⟨t, f, a, i, p⟩).p], .bool (chM 8 ⟨t, f, a, i, p⟩)]) ?_ rfl ⟨rfl, ?_⟩
  · simp [results, Try.results12, go_sem, chM, stepM]
  · repeat (first | (with_reducible exact Below.refl _ _) | (with_reducible refine below_new ?_ _) | (with_reducible refine Below.drew ?_) | (with_reducible refine below_setA ?_) | (with_reducible refine below_setB ?_) | (with_reducible refine below_setC ?_))
theorem rstep_8' (t f a i p : Bool) (w : World) : Calls Try.prog 12 #[.agg #[.bool t, .bool f, .bool a, .bool i, .bool p], .int .i64 8] w fun e w' => e = .returned (.tuple #[.agg #[.bool (stepM 8 ⟨t, f, a, i, p⟩).t, .bool (stepM 8 ⟨t, f, a, i, p⟩).f, .bool (stepM 8 ⟨t, f, a, i, p⟩).a, .bool (stepM 8 ⟨t, f, a, i, p⟩).i, .bool (stepM 8 ⟨t, f, a, i, p⟩).p], .bool (chM 8 ⟨t, f, a, i, p⟩)]) ∧ Below w.heap.size w w' := by
  exact rstep_8 t f a i p w
set_option maxHeartbeats 4000000 in
theorem rstep_no (k : Int) (h1 : (k == 1) = false) (h2 : (k == 2) = false) (h3 : (k == 3) = false) (h4 : (k == 4) = false) (h5 : (k == 5) = false) (h6 : (k == 6) = false) (h7 : (k == 7) = false) (h8 : (k == 8) = false) (t f a i p : Bool) (w : World) : Calls Try.prog 12 #[.agg #[.bool t, .bool f, .bool a, .bool i, .bool p], .int .i64 k] w fun e w' => e = .returned (.tuple #[.agg #[.bool t, .bool f, .bool a, .bool i, .bool p], .bool false]) ∧ Below w.heap.size w w' := by
  go_enter Try.func12, Try.ntmps12
  go_wp2
  try (go_region; go_wp2)
  refine bodyPost_ret (v := .tuple #[.agg #[.bool t, .bool f, .bool a, .bool i, .bool p], .bool false]) ?_ rfl ⟨rfl, ?_⟩
  · simp [results, Try.results12, go_sem]
  · repeat (first | (with_reducible exact Below.refl _ _) | (with_reducible refine below_new ?_ _) | (with_reducible refine Below.drew ?_) | (with_reducible refine below_setA ?_) | (with_reducible refine below_setB ?_) | (with_reducible refine below_setC ?_))
theorem rstep_any (k : Int) (t f a i p : Bool) (w : World) : Calls Try.prog 12 #[.agg #[.bool t, .bool f, .bool a, .bool i, .bool p], .int .i64 k] w fun e w' => e = .returned (.tuple #[.agg #[.bool (stepM k ⟨t, f, a, i, p⟩).t, .bool (stepM k ⟨t, f, a, i, p⟩).f, .bool (stepM k ⟨t, f, a, i, p⟩).a, .bool (stepM k ⟨t, f, a, i, p⟩).i, .bool (stepM k ⟨t, f, a, i, p⟩).p], .bool (chM k ⟨t, f, a, i, p⟩)]) ∧ Below w.heap.size w w' := by
  by_cases k1 : k = 1
  · subst k1; exact rstep_1' t f a i p w
  by_cases k2 : k = 2
  · subst k2; exact rstep_2' t f a i p w
  by_cases k3 : k = 3
  · subst k3; exact rstep_3' t f a i p w
  by_cases k4 : k = 4
  · subst k4; exact rstep_4' t f a i p w
  by_cases k5 : k = 5
  · subst k5; exact rstep_5' t f a i p w
  by_cases k6 : k = 6
  · subst k6; exact rstep_6' t f a i p w
  by_cases k7 : k = 7
  · subst k7; exact rstep_7' t f a i p w
  by_cases k8 : k = 8
  · subst k8; exact rstep_8' t f a i p w
  refine (rstep_no k (beq_eq_false_iff_ne.2 k1) (beq_eq_false_iff_ne.2 k2) (beq_eq_false_iff_ne.2 k3) (beq_eq_false_iff_ne.2 k4) (beq_eq_false_iff_ne.2 k5) (beq_eq_false_iff_ne.2 k6) (beq_eq_false_iff_ne.2 k7) (beq_eq_false_iff_ne.2 k8) t f a i p w).mono ?_
  rintro e w' ⟨rfl, hb⟩
  exact ⟨by simp [stepM, chM, k1, k2, k3, k4, k5, k6, k7, k8], hb⟩
set_option maxHeartbeats 4000000 in
theorem rinto_any (s0 s1 : ByteArray) (A : Option Addr) (n0 c0 : Nat) (s3 : Int) (s4 s5 t f a i p : Bool) (w : World) :
    Calls Try.prog 18 #[.agg #[.string s0, .string s1, .slice A n0 c0, .int .i64 s3, .bool s4, .bool s5], .agg #[.bool t, .bool f, .bool a, .bool i, .bool p]] w fun e w' => e = .returned (.agg #[.string s0, .string s1, .slice A n0 c0, .int .i64 (subOf t f), .bool a, .bool p]) ∧ Below w.heap.size w w' := by
  cases t <;> cases f
  · go_enter Try.func18, Try.ntmps18
    go_wp2
    go_region
    go_wp2
    refine bodyPost_ret (v := .agg #[.string s0, .string s1, .slice A n0 c0, .int .i64 (subOf false false), .bool a, .bool p]) ?_ rfl ⟨rfl, ?_⟩
    · simp [results, Try.results18, go_sem, subOf]
    · repeat (first | (with_reducible exact Below.refl _ _) | (with_reducible refine below_new ?_ _) | (with_reducible refine Below.drew ?_) | (with_reducible refine below_setA ?_) | (with_reducible refine below_setB ?_) | (with_reducible refine below_setC ?_))
  · go_enter Try.func18, Try.ntmps18
    go_wp2
    go_region
    go_wp2
    refine bodyPost_ret (v := .agg #[.string s0, .string s1, .slice A n0 c0, .int .i64 (subOf false true), .bool a, .bool p]) ?_ rfl ⟨rfl, ?_⟩
    · simp [results, Try.results18, go_sem, subOf]
    · repeat (first | (with_reducible exact Below.refl _ _) | (with_reducible refine below_new ?_ _) | (with_reducible refine Below.drew ?_) | (with_reducible refine below_setA ?_) | (with_reducible refine below_setB ?_) | (with_reducible refine below_setC ?_))
  · go_enter Try.func18, Try.ntmps18
    go_wp2
    go_region
    go_wp2
    refine bodyPost_ret (v := .agg #[.string s0, .string s1, .slice A n0 c0, .int .i64 (subOf true false), .bool a, .bool p]) ?_ rfl ⟨rfl, ?_⟩
    · simp [results, Try.results18, go_sem, subOf]
    · repeat (first | (with_reducible exact Below.refl _ _) | (with_reducible refine below_new ?_ _) | (with_reducible refine Below.drew ?_) | (with_reducible refine below_setA ?_) | (with_reducible refine below_setB ?_) | (with_reducible refine below_setC ?_))
  · go_enter Try.func18, Try.ntmps18
    go_wp2
    go_region
    go_wp2
    refine bodyPost_ret (v := .agg #[.string s0, .string s1, .slice A n0 c0, .int .i64 (subOf true true), .bool a, .bool p]) ?_ rfl ⟨rfl, ?_⟩
    · simp [results, Try.results18, go_sem, subOf]
    · repeat (first | (with_reducible exact Below.refl _ _) | (with_reducible refine below_new ?_ _) | (with_reducible refine Below.drew ?_) | (with_reducible refine below_setA ?_) | (with_reducible refine below_setB ?_) | (with_reducible refine below_setC ?_))
end Go.Proofs.Ytinpgccfddmmpaa
