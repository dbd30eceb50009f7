/- machine.Right, RightMode of the reference, Of, ModeOf: five bools to one; an item to five bools. -/
import Derived.Test.YtinpgccfddmmpaaProg
import Derived.WalkKit
import Derived.WalkSpells
import Derived.WalkLawsBesides
namespace Go.Proofs.Ytinpgccfddmmpaa
open Go.RowKit
def rightM (t f a i p : Bool) : Bool := !(t && a) && !(f && i) && !(f && p) && !(i && p)
set_option maxHeartbeats 4000000 in
theorem right_any (t f a i p : Bool) (w : World) :
    Calls Try.prog 8 #[.agg #[.bool t, .bool f, .bool a, .bool i, .bool p]] w fun e w' => e = .returned (.bool (rightM t f a i p)) ∧ w.alloc (.cells #[.bool t, .bool f, .bool a, .bool i, .bool p] 23) = w' := by
  cases t <;> cases f <;> cases a <;> cases i <;> cases p
  all_goals
    go_enter Try.func8, Try.ntmps8
    go_wp2
    go_ret
    exact ⟨rfl, rfl⟩
set_option maxHeartbeats 4000000 in
theorem rightMode_any (t f a i p : Bool) (w : World) :
    Calls Try.prog 13 #[.agg #[.bool t, .bool f, .bool a, .bool i, .bool p]] w fun e w' => e = .returned (.bool (rightM t f a i p)) ∧ w.alloc (.cells #[.bool t, .bool f, .bool a, .bool i, .bool p] 23) = w' := by
  cases t <;> cases f <;> cases a <;> cases i <;> cases p
  all_goals
    go_enter Try.func13, Try.ntmps13
    go_wp2
    go_ret
    exact ⟨rfl, rfl⟩
end Go.Proofs.Ytinpgccfddmmpaa
