/- The walks of package machine's small functions: each turns five bools into five bools, or into one. -/
import Derived.Test.YtinpgccfddmmpaaProg
import Derived.WalkKit
import Derived.WalkSpells
import Derived.WalkLawsBesides
import Derived.Lib.Hide
namespace Go.Proofs.Ytinpgccfddmmpaa
open Go.RowKit

set_option maxHeartbeats 400000 in
theorem ident_any (t f a i p : Bool) (w : World) :
    Calls Try.prog 21 #[.agg #[.bool t, .bool f, .bool a, .bool i, .bool p]] w fun e w' => e = .returned (.agg #[.bool (t), .bool (f), .bool (a), .bool (i), .bool (p)]) ∧ (w.alloc (.cells #[.bool (t), .bool (f), .bool (a), .bool (i), .bool (p)] 23)).alloc (.cells #[.bool (t), .bool (f), .bool (a), .bool (i), .bool (p)] 23) = w' := by
  go_enter Try.func21, Try.ntmps21
  go_wp2
  refine bodyPost_ret (by first | (simp [results, Try.results21, go_sem]; done) | (simp [results, Try.results21, go_sem]; rfl)) rfl ⟨by simp, by simp⟩

set_option maxHeartbeats 400000 in
theorem subscribe_any (t f a i p : Bool) (w : World) :
    Calls Try.prog 25 #[.agg #[.bool t, .bool f, .bool a, .bool i, .bool p]] w fun e w' => e = .returned (.agg #[.bool (t), .bool (f), .bool (a || !t), .bool (i), .bool (p)]) ∧ (w.alloc (.cells #[.bool (t), .bool (f), .bool (a || !t), .bool (i), .bool (p)] 23)).alloc (.cells #[.bool (t), .bool (f), .bool (a || !t), .bool (i), .bool (p)] 23) = w' := by
  cases a
  all_goals
    go_enter Try.func25, Try.ntmps25
    go_wp2
    refine bodyPost_ret (by first | (simp [results, Try.results25, go_sem]; done) | (simp [results, Try.results25, go_sem]; rfl)) rfl ⟨by simp, by simp⟩

set_option maxHeartbeats 400000 in
theorem unsubscribe_any (t f a i p : Bool) (w : World) :
    Calls Try.prog 26 #[.agg #[.bool t, .bool f, .bool a, .bool i, .bool p]] w fun e w' => e = .returned (.agg #[.bool (false), .bool (f), .bool (false), .bool (i), .bool (p)]) ∧ (w.alloc (.cells #[.bool (false), .bool (f), .bool (false), .bool (i), .bool (p)] 23)).alloc (.cells #[.bool (false), .bool (f), .bool (false), .bool (i), .bool (p)] 23) = w' := by
  go_enter Try.func26, Try.ntmps26
  go_wp2
  refine bodyPost_ret (by first | (simp [results, Try.results26, go_sem]; done) | (simp [results, Try.results26, go_sem]; rfl)) rfl ⟨by simp, by simp⟩

set_option maxHeartbeats 400000 in
theorem subscribed_any (t f a i p : Bool) (w : World) :
    Calls Try.prog 27 #[.agg #[.bool t, .bool f, .bool a, .bool i, .bool p]] w fun e w' => e = .returned (.agg #[.bool (t), .bool (f || i), .bool (a), .bool (false), .bool (p || (!i && !f))]) ∧ (w.alloc (.cells #[.bool (t), .bool (f || i), .bool (a), .bool (false), .bool (p || (!i && !f))] 23)).alloc (.cells #[.bool (t), .bool (f || i), .bool (a), .bool (false), .bool (p || (!i && !f))] 23) = w' := by
  cases i <;> cases f
  all_goals
    go_enter Try.func27, Try.ntmps27
    go_wp2
    refine bodyPost_ret (by first | (simp [results, Try.results27, go_sem]; done) | (simp [results, Try.results27, go_sem]; rfl)) rfl ⟨by simp, by simp⟩

set_option maxHeartbeats 400000 in
theorem unsubscribed_any (t f a i p : Bool) (w : World) :
    Calls Try.prog 28 #[.agg #[.bool t, .bool f, .bool a, .bool i, .bool p]] w fun e w' => e = .returned (.agg #[.bool (t), .bool (false), .bool (a), .bool (false), .bool (false)]) ∧ (w.alloc (.cells #[.bool (t), .bool (false), .bool (a), .bool (false), .bool (false)] 23)).alloc (.cells #[.bool (t), .bool (false), .bool (a), .bool (false), .bool (false)] 23) = w' := by
  go_enter Try.func28, Try.ntmps28
  go_wp2
  refine bodyPost_ret (by first | (simp [results, Try.results28, go_sem]; done) | (simp [results, Try.results28, go_sem]; rfl)) rfl ⟨by simp, by simp⟩

set_option maxHeartbeats 400000 in
theorem inSubscribe_any (t f a i p : Bool) (w : World) :
    Calls Try.prog 29 #[.agg #[.bool t, .bool f, .bool a, .bool i, .bool p]] w fun e w' => e = .returned (.agg #[.bool (t), .bool (f || p), .bool (a), .bool (i || (!f && !p)), .bool (f && p)]) ∧ (w.alloc (.cells #[.bool (t), .bool (f || p), .bool (a), .bool (i || (!f && !p)), .bool (f && p)] 23)).alloc (.cells #[.bool (t), .bool (f || p), .bool (a), .bool (i || (!f && !p)), .bool (f && p)] 23) = w' := by
  cases f <;> cases p
  all_goals
    go_enter Try.func29, Try.ntmps29
    go_wp2
    refine bodyPost_ret (by first | (simp [results, Try.results29, go_sem]; done) | (simp [results, Try.results29, go_sem]; rfl)) rfl ⟨by simp, by simp⟩

set_option maxHeartbeats 400000 in
theorem inUnsubscribe_any (t f a i p : Bool) (w : World) :
    Calls Try.prog 30 #[.agg #[.bool t, .bool f, .bool a, .bool i, .bool p]] w fun e w' => e = .returned (.agg #[.bool (t), .bool (false), .bool (a), .bool (false), .bool (p)]) ∧ (w.alloc (.cells #[.bool (t), .bool (false), .bool (a), .bool (false), .bool (p)] 23)).alloc (.cells #[.bool (t), .bool (false), .bool (a), .bool (false), .bool (p)] 23) = w' := by
  go_enter Try.func30, Try.ntmps30
  go_wp2
  refine bodyPost_ret (by first | (simp [results, Try.results30, go_sem]; done) | (simp [results, Try.results30, go_sem]; rfl)) rfl ⟨by simp, by simp⟩

set_option maxHeartbeats 400000 in
theorem inSubscribed_any (t f a i p : Bool) (w : World) :
    Calls Try.prog 31 #[.agg #[.bool t, .bool f, .bool a, .bool i, .bool p]] w fun e w' => e = .returned (.agg #[.bool (t || a), .bool (f), .bool (false), .bool (i), .bool (p)]) ∧ (w.alloc (.cells #[.bool (t || a), .bool (f), .bool (false), .bool (i), .bool (p)] 23)).alloc (.cells #[.bool (t || a), .bool (f), .bool (false), .bool (i), .bool (p)] 23) = w' := by
  cases a
  all_goals
    go_enter Try.func31, Try.ntmps31
    go_wp2
    refine bodyPost_ret (by first | (simp [results, Try.results31, go_sem]; done) | (simp [results, Try.results31, go_sem]; rfl)) rfl ⟨by simp, by simp⟩

end Go.Proofs.Ytinpgccfddmmpaa
