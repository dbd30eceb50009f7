/- machine.Of and ModeOf of the reference: an item's mode. -/
import Derived.Test.YtinpgccfddmmpaaProg
import Derived.WalkKit
import Derived.WalkSpells
import Derived.WalkLawsBesides
namespace Go.Proofs.Ytinpgccfddmmpaa
open Go.RowKit
def toOf (s : Int) : Bool := s == 1 || s == 3
def fromOf (s : Int) : Bool := s == 2 || s == 3
set_option maxHeartbeats 4000000 in
theorem of_any (s0 s1 : ByteArray) (A : Option Addr) (n0 c0 : Nat) (s3 : Int) (s4 s5 : Bool) (w : World) :
    Calls Try.prog 14 #[.agg #[.string s0, .string s1, .slice A n0 c0, .int .i64 s3, .bool s4, .bool s5]] w fun e w' => e = .returned (.agg #[.bool (toOf s3), .bool (fromOf s3), .bool s4, .bool false, .bool s5]) ∧ Below w.heap.size w w' := by
  by_cases h1 : s3 = 1
  · subst h1
    go_enter Try.func14, Try.ntmps14
    go_wp2
    refine bodyPost_ret (by first | (simp [results, Try.results14, go_sem]; done) | (simp [results, Try.results14, go_sem]; rfl) | (simp [results, Try.results14, go_sem, toOf, fromOf]; done)) rfl ⟨by simp [toOf, fromOf], ?_⟩
    repeat (first | exact Below.refl _ _ | (refine Below.alloc ?_ (by first | (simp; done) | (simp; omega)) _) | (refine Below.setCell ?_ (by simp) _) | refine Below.drew ?_)
  by_cases h2 : s3 = 2
  · subst h2
    go_enter Try.func14, Try.ntmps14
    go_wp2
    refine bodyPost_ret (by first | (simp [results, Try.results14, go_sem]; done) | (simp [results, Try.results14, go_sem]; rfl) | (simp [results, Try.results14, go_sem, toOf, fromOf]; done)) rfl ⟨by simp [toOf, fromOf], ?_⟩
    repeat (first | exact Below.refl _ _ | (refine Below.alloc ?_ (by first | (simp; done) | (simp; omega)) _) | (refine Below.setCell ?_ (by simp) _) | refine Below.drew ?_)
  by_cases h3 : s3 = 3
  · subst h3
    go_enter Try.func14, Try.ntmps14
    go_wp2
    refine bodyPost_ret (by first | (simp [results, Try.results14, go_sem]; done) | (simp [results, Try.results14, go_sem]; rfl) | (simp [results, Try.results14, go_sem, toOf, fromOf]; done)) rfl ⟨by simp [toOf, fromOf], ?_⟩
    repeat (first | exact Below.refl _ _ | (refine Below.alloc ?_ (by first | (simp; done) | (simp; omega)) _) | (refine Below.setCell ?_ (by simp) _) | refine Below.drew ?_)
  have e1 : (s3 == 1) = false := beq_eq_false_iff_ne.2 h1
  have e2 : (s3 == 2) = false := beq_eq_false_iff_ne.2 h2
  have e3 : (s3 == 3) = false := beq_eq_false_iff_ne.2 h3
  clear h1 h2 h3
  go_enter Try.func14, Try.ntmps14
  go_wp2
  refine bodyPost_ret (by first | (simp [results, Try.results14, go_sem]; done) | (simp [results, Try.results14, go_sem]; rfl) | (simp [results, Try.results14, go_sem, toOf, fromOf]; done)) rfl ⟨by simp [toOf, fromOf, e1, e2, e3], ?_⟩
  repeat (first | exact Below.refl _ _ | (refine Below.alloc ?_ (by first | (simp; done) | (simp; omega)) _) | (refine Below.setCell ?_ (by simp) _) | refine Below.drew ?_)
set_option maxHeartbeats 4000000 in
theorem modeOf_any (s0 s1 : ByteArray) (A : Option Addr) (n0 c0 : Nat) (s3 : Int) (s4 s5 : Bool) (w : World) :
    Calls Try.prog 15 #[.agg #[.string s0, .string s1, .slice A n0 c0, .int .i64 s3, .bool s4, .bool s5]] w fun e w' => e = .returned (.agg #[.bool (toOf s3), .bool (fromOf s3), .bool s4, .bool false, .bool s5]) ∧ Below w.heap.size w w' := by
  by_cases h1 : s3 = 1
  · subst h1
    go_enter Try.func15, Try.ntmps15
    go_wp2
    refine bodyPost_ret (by first | (simp [results, Try.results15, go_sem]; done) | (simp [results, Try.results15, go_sem]; rfl) | (simp [results, Try.results15, go_sem, toOf, fromOf]; done)) rfl ⟨by simp [toOf, fromOf], ?_⟩
    repeat (first | exact Below.refl _ _ | (refine Below.alloc ?_ (by first | (simp; done) | (simp; omega)) _) | (refine Below.setCell ?_ (by simp) _) | refine Below.drew ?_)
  by_cases h2 : s3 = 2
  · subst h2
    go_enter Try.func15, Try.ntmps15
    go_wp2
    refine bodyPost_ret (by first | (simp [results, Try.results15, go_sem]; done) | (simp [results, Try.results15, go_sem]; rfl) | (simp [results, Try.results15, go_sem, toOf, fromOf]; done)) rfl ⟨by simp [toOf, fromOf], ?_⟩
    repeat (first | exact Below.refl _ _ | (refine Below.alloc ?_ (by first | (simp; done) | (simp; omega)) _) | (refine Below.setCell ?_ (by simp) _) | refine Below.drew ?_)
  by_cases h3 : s3 = 3
  · subst h3
    go_enter Try.func15, Try.ntmps15
    go_wp2
    refine bodyPost_ret (by first | (simp [results, Try.results15, go_sem]; done) | (simp [results, Try.results15, go_sem]; rfl) | (simp [results, Try.results15, go_sem, toOf, fromOf]; done)) rfl ⟨by simp [toOf, fromOf], ?_⟩
    repeat (first | exact Below.refl _ _ | (refine Below.alloc ?_ (by first | (simp; done) | (simp; omega)) _) | (refine Below.setCell ?_ (by simp) _) | refine Below.drew ?_)
  have e1 : (s3 == 1) = false := beq_eq_false_iff_ne.2 h1
  have e2 : (s3 == 2) = false := beq_eq_false_iff_ne.2 h2
  have e3 : (s3 == 3) = false := beq_eq_false_iff_ne.2 h3
  clear h1 h2 h3
  go_enter Try.func15, Try.ntmps15
  go_wp2
  refine bodyPost_ret (by first | (simp [results, Try.results15, go_sem]; done) | (simp [results, Try.results15, go_sem]; rfl) | (simp [results, Try.results15, go_sem, toOf, fromOf]; done)) rfl ⟨by simp [toOf, fromOf, e1, e2, e3], ?_⟩
  repeat (first | exact Below.refl _ _ | (refine Below.alloc ?_ (by first | (simp; done) | (simp; omega)) _) | (refine Below.setCell ?_ (by simp) _) | refine Below.drew ?_)
end Go.Proofs.Ytinpgccfddmmpaa
