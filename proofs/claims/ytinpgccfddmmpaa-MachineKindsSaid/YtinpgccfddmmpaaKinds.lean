/- MachineKinds, whatever the mode and the event. -/
import Derived.Test.YtinpgccfddmmpaaKinds0
import Derived.Test.YtinpgccfddmmpaaKinds1
import Derived.Test.YtinpgccfddmmpaaKinds2
import Derived.Test.YtinpgccfddmmpaaKinds3
namespace Go.Proofs.Ytinpgccfddmmpaa
open Go.RowKit
set_option maxHeartbeats 4000000 in
theorem kinds_wrong (t f a i p : Bool) (hr : rightM t f a i p = false) (e : Int) (w : World) : Calls Try.prog 7 #[.agg #[.bool t, .bool f, .bool a, .bool i, .bool p], .int .i64 e] w fun e w' => e = .returned (.bool true) ∧ Below w.heap.size w w' := by
  have cc := rightS t f a i p false hr
  have CC := Lib.hid cc
  clear cc hr
  go_enter Try.func7, Try.ntmps7
  go_wp2_with fail
  refine (CC.out _).mono ?_; rintro e w' ⟨rfl, rfl⟩
  go_wp2_with fail
  refine (awake_any _).mono ?_; rintro e w3 ⟨rfl, hb3⟩
  go_wp2_with fail
  go_ret
  exact ⟨rfl, below_call (below_new (below_new (Below.refl _ _) _) _) hb3⟩
theorem kinds_any (t f a i p : Bool) (e : Int) (w : World) : Calls Try.prog 7 #[.agg #[.bool t, .bool f, .bool a, .bool i, .bool p], .int .i64 e] w fun e w' => e = .returned (.bool true) ∧ Below w.heap.size w w' := by
  cases hr : rightM t f a i p
  · exact kinds_wrong t f a i p hr e w
  · rcases tmod8 e with h | h | h | h | h | h | h | h
    · cases t <;> cases f <;> cases a
      · exact kinds_1_tFfFaF i p hr e h w
      · exact kinds_1_tFfFaT i p hr e h w
      · exact kinds_1_tFfTaF i p hr e h w
      · exact kinds_1_tFfTaT i p hr e h w
      · exact kinds_1_tTfFaF i p hr e h w
      · exact kinds_1_tTfFaT i p hr e h w
      · exact kinds_1_tTfTaF i p hr e h w
      · exact kinds_1_tTfTaT i p hr e h w
    · cases t <;> cases f
      · exact kinds_2_tFfF a i p hr e h w
      · exact kinds_2_tFfT a i p hr e h w
      · exact kinds_2_tTfF a i p hr e h w
      · exact kinds_2_tTfT a i p hr e h w
    · cases t <;> cases f <;> cases i
      · exact kinds_3_tFfFiF a p hr e h w
      · exact kinds_3_tFfFiT a p hr e h w
      · exact kinds_3_tFfTiF a p hr e h w
      · exact kinds_3_tFfTiT a p hr e h w
      · exact kinds_3_tTfFiF a p hr e h w
      · exact kinds_3_tTfFiT a p hr e h w
      · exact kinds_3_tTfTiF a p hr e h w
      · exact kinds_3_tTfTiT a p hr e h w
    · cases t <;> cases f
      · exact kinds_4_tFfF a i p hr e h w
      · exact kinds_4_tFfT a i p hr e h w
      · exact kinds_4_tTfF a i p hr e h w
      · exact kinds_4_tTfT a i p hr e h w
    · cases t <;> cases f <;> cases p
      · exact kinds_5_tFfFpF a i hr e h w
      · exact kinds_5_tFfFpT a i hr e h w
      · exact kinds_5_tFfTpF a i hr e h w
      · exact kinds_5_tFfTpT a i hr e h w
      · exact kinds_5_tTfFpF a i hr e h w
      · exact kinds_5_tTfFpT a i hr e h w
      · exact kinds_5_tTfTpF a i hr e h w
      · exact kinds_5_tTfTpT a i hr e h w
    · cases t <;> cases f
      · exact kinds_6_tFfF a i p hr e h w
      · exact kinds_6_tFfT a i p hr e h w
      · exact kinds_6_tTfF a i p hr e h w
      · exact kinds_6_tTfT a i p hr e h w
    · cases t <;> cases f <;> cases a
      · exact kinds_7_tFfFaF i p hr e h w
      · exact kinds_7_tFfFaT i p hr e h w
      · exact kinds_7_tFfTaF i p hr e h w
      · exact kinds_7_tFfTaT i p hr e h w
      · exact kinds_7_tTfFaF i p hr e h w
      · exact kinds_7_tTfFaT i p hr e h w
      · exact kinds_7_tTfTaF i p hr e h w
      · exact kinds_7_tTfTaT i p hr e h w
    · cases t <;> cases f
      · exact kinds_8_tFfF a i p hr e h w
      · exact kinds_8_tFfT a i p hr e h w
      · exact kinds_8_tTfF a i p hr e h w
      · exact kinds_8_tTfT a i p hr e h w
end Go.Proofs.Ytinpgccfddmmpaa
