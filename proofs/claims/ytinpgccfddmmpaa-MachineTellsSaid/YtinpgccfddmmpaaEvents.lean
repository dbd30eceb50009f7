/- machine.Step at whatever event: 'stepM' is what becomes of a mode. -/
import Derived.Test.YtinpgccfddmmpaaStep
namespace Go.Proofs.Ytinpgccfddmmpaa
open Go.RowKit
structure Md where
  t : Bool
  f : Bool
  a : Bool
  i : Bool
  p : Bool
/-- A mode behind an event. -/
def stepM (k : Int) (m : Md) : Md :=
  if k = 1 then ⟨m.t, m.f, m.a || !m.t, m.i, m.p⟩
  else if k = 2 then ⟨false, m.f, false, m.i, m.p⟩
  else if k = 3 then ⟨m.t, m.f || m.i, m.a, false, m.p || (!m.i && !m.f)⟩
  else if k = 4 then ⟨m.t, false, m.a, false, false⟩
  else if k = 5 then ⟨m.t, m.f || m.p, m.a, m.i || (!m.f && !m.p), m.f && m.p⟩
  else if k = 6 then ⟨m.t, false, m.a, false, m.p⟩
  else if k = 7 then ⟨m.t || m.a, m.f, false, m.i, m.p⟩
  else if k = 8 then ⟨false, m.f, false, m.i, m.p⟩
  else m
/-- Whether a mode is another one. -/
def chM (k : Int) (m : Md) : Bool := !((stepM k m).t == m.t && ((stepM k m).f == m.f && ((stepM k m).a == m.a && ((stepM k m).i == m.i && (stepM k m).p == m.p))))
theorem none_there (k : Int) (h : ¬ (1 ≤ k ∧ k ≤ 8)) : Instr.findNow (.int .i64) (.int .i64 k) turnEntries.toList 0 = some none := by
  have e : ∀ j : Int, 1 ≤ j → j ≤ 8 → (k == j) = false := fun j h1 h2 => by rw [beq_eq_false_iff_ne]; omega
  simp [Instr.findNow, Instr.sameNow, turnEntries, ent, e 1 (by omega) (by omega), e 2 (by omega) (by omega), e 3 (by omega) (by omega), e 4 (by omega) (by omega), e 5 (by omega) (by omega), e 6 (by omega) (by omega), e 7 (by omega) (by omega), e 8 (by omega) (by omega)]
theorem step_any (k : Int) (t f a i p : Bool) (w : World) :
    Calls Try.prog 10 #[.agg #[.bool t, .bool f, .bool a, .bool i, .bool p], .int .i64 k] w fun e w' => e = .returned (.tuple #[.agg #[.bool (stepM k ⟨t, f, a, i, p⟩).t, .bool (stepM k ⟨t, f, a, i, p⟩).f, .bool (stepM k ⟨t, f, a, i, p⟩).a, .bool (stepM k ⟨t, f, a, i, p⟩).i, .bool (stepM k ⟨t, f, a, i, p⟩).p], .bool (chM k ⟨t, f, a, i, p⟩)]) ∧ Below w.heap.size w w' := by
  by_cases k1 : k = 1
  · subst k1
    refine (step_gen 1 25 t f a i p _ _ _ _ _ (fun _ _ => by kernel_rfl) (fun r w h => at_turn 1 25 0 r w h rfl) (fun w => subscribe_any t f a i p w) w).mono ?_
    rintro e w' ⟨rfl, hb⟩
    exact ⟨by simp [stepM, chM], hb⟩
  by_cases k2 : k = 2
  · subst k2
    refine (step_gen 2 26 t f a i p _ _ _ _ _ (fun _ _ => by kernel_rfl) (fun r w h => at_turn 2 26 1 r w h rfl) (fun w => unsubscribe_any t f a i p w) w).mono ?_
    rintro e w' ⟨rfl, hb⟩
    exact ⟨by simp [stepM, chM], hb⟩
  by_cases k3 : k = 3
  · subst k3
    refine (step_gen 3 27 t f a i p _ _ _ _ _ (fun _ _ => by kernel_rfl) (fun r w h => at_turn 3 27 2 r w h rfl) (fun w => subscribed_any t f a i p w) w).mono ?_
    rintro e w' ⟨rfl, hb⟩
    exact ⟨by simp [stepM, chM], hb⟩
  by_cases k4 : k = 4
  · subst k4
    refine (step_gen 4 28 t f a i p _ _ _ _ _ (fun _ _ => by kernel_rfl) (fun r w h => at_turn 4 28 3 r w h rfl) (fun w => unsubscribed_any t f a i p w) w).mono ?_
    rintro e w' ⟨rfl, hb⟩
    exact ⟨by simp [stepM, chM], hb⟩
  by_cases k5 : k = 5
  · subst k5
    refine (step_gen 5 29 t f a i p _ _ _ _ _ (fun _ _ => by kernel_rfl) (fun r w h => at_turn 5 29 4 r w h rfl) (fun w => inSubscribe_any t f a i p w) w).mono ?_
    rintro e w' ⟨rfl, hb⟩
    exact ⟨by simp [stepM, chM], hb⟩
  by_cases k6 : k = 6
  · subst k6
    refine (step_gen 6 30 t f a i p _ _ _ _ _ (fun _ _ => by kernel_rfl) (fun r w h => at_turn 6 30 5 r w h rfl) (fun w => inUnsubscribe_any t f a i p w) w).mono ?_
    rintro e w' ⟨rfl, hb⟩
    exact ⟨by simp [stepM, chM], hb⟩
  by_cases k7 : k = 7
  · subst k7
    refine (step_gen 7 31 t f a i p _ _ _ _ _ (fun _ _ => by kernel_rfl) (fun r w h => at_turn 7 31 6 r w h rfl) (fun w => inSubscribed_any t f a i p w) w).mono ?_
    rintro e w' ⟨rfl, hb⟩
    exact ⟨by simp [stepM, chM], hb⟩
  by_cases k8 : k = 8
  · subst k8
    refine (step_gen 8 26 t f a i p _ _ _ _ _ (fun _ _ => by kernel_rfl) (fun r w h => at_turn 8 26 7 r w h rfl) (fun w => unsubscribe_any t f a i p w) w).mono ?_
    rintro e w' ⟨rfl, hb⟩
    exact ⟨by simp [stepM, chM], hb⟩
  have hn := none_there k (by omega)
  refine (step_gen k 21 t f a i p _ _ _ _ _ (fun _ _ => by kernel_rfl) (fun r w h => at_none k r w h hn) (fun w => ident_any t f a i p w) w).mono ?_
  rintro e w' ⟨rfl, hb⟩
  exact ⟨by simp [stepM, chM, k1, k2, k3, k4, k5, k6, k7, k8], hb⟩
end Go.Proofs.Ytinpgccfddmmpaa
