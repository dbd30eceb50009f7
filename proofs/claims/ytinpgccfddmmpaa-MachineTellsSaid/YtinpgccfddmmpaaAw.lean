/- awake: true. -/
import Derived.Test.YtinpgccfddmmpaaEvents
import Derived.Test.YtinpgccfddmmpaaR
import Derived.Test.YtinpgccfddmmpaaOf
namespace Go.Proofs.Ytinpgccfddmmpaa
open Go.RowKit
attribute [local go_sem high] eqM
theorem below_call {a x y : World} (h : Below a.heap.size a x) (k : Below x.heap.size x y) : Below a.heap.size a y := h.trans (k.mono h.size)
theorem below_new {a x : World} (h : Below a.heap.size a x) (o : Obj) : Below a.heap.size a (x.alloc o) := h.alloc h.size o
theorem step_first (w : World) : Calls Try.prog 10 #[.agg #[.bool false, .bool false, .bool false, .bool false, .bool false], .int .i64 1] w fun e w' => e = .returned (.tuple #[.agg #[.bool false, .bool false, .bool true, .bool false, .bool false], .bool true]) ∧ Below w.heap.size w w' :=
  (step_any 1 false false false false false w).mono (by rintro e w' ⟨rfl, hb⟩; exact ⟨rfl, hb⟩)
theorem right_first (w : World) : Calls Try.prog 8 #[.agg #[.bool false, .bool false, .bool true, .bool false, .bool false]] w fun e w' => e = .returned (.bool true) ∧ w.alloc (.cells #[.bool false, .bool false, .bool true, .bool false, .bool false] 23) = w' :=
  (right_any false false true false false w).mono (by rintro e w' ⟨rfl, hb⟩; exact ⟨rfl, hb⟩)
theorem of_first (w : World) : Calls Try.prog 14 #[.agg #[.string ⟨#[]⟩, .string ⟨#[]⟩, .slice none 0 0, .int .i64 3, .bool false, .bool false]] w fun e w' => e = .returned (.agg #[.bool true, .bool true, .bool false, .bool false, .bool false]) ∧ Below w.heap.size w w' :=
  (of_any _ _ none 0 0 3 false false w).mono (by rintro e w' ⟨rfl, hb⟩; exact ⟨rfl, hb⟩)
set_option maxHeartbeats 4000000 in
theorem awake_any (w : World) : Calls Try.prog 9 #[] w fun e w' => e = .returned (.bool true) ∧ Below w.heap.size w w' := by
  go_enter Try.func9, Try.ntmps9
  go_wp2_with fail
  refine (step_first _).mono ?_
  rintro e w1 ⟨rfl, hb1⟩
  go_wp2_with fail
  refine (right_first _).mono ?_
  rintro e w2 ⟨rfl, rfl⟩
  go_wp2_with fail
  refine (of_first _).mono ?_
  rintro e w2 ⟨rfl, hb2⟩
  go_wp2_with fail
  go_ret
  refine ⟨rfl, ?_⟩
  repeat (first | exact Below.refl _ _ | assumption | refine below_new ?_ _ | refine Below.drew ?_ | refine below_call ?_ (by assumption))
end Go.Proofs.Ytinpgccfddmmpaa
