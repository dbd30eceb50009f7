/- put: a number, the highest byte first, into four cells. -/
import Derived.Test.YthdeecnppmheoaaGet
namespace Go.Proofs.Ythdeecnppmheoaa
open Go.RowKit
def q0 (v : Int) : Int := v / 16777216
def q1 (v : Int) : Int := v / 65536 % 256
def q2 (v : Int) : Int := v / 256 % 256
def q3 (v : Int) : Int := v % 256
set_option maxHeartbeats 2000000 in
theorem put_any (g off n c : Nat) (v : Int) (h0 : 0 ≤ v) (h1 : v ≤ 4294967295) (hn : (4 : Int) ≤ (n : Int)) (w : World) (x0 x1 x2 x3 : Value)
    (k0 : w.cell? ⟨g, off, none⟩ = some x0) (k1 : w.cell? ⟨g, off + 1, none⟩ = some x1) (k2 : w.cell? ⟨g, off + 2, none⟩ = some x2) (k3 : w.cell? ⟨g, off + 3, none⟩ = some x3) (hf : ∀ i, w.frozen? ⟨g, i, none⟩ = false) :
    Calls Try.prog 23 #[.slice (some ⟨g, off, none⟩) n c, .int .u32 v] w fun e w' => e = .returned (.tuple #[]) ∧ (((w.setCell ⟨g, off, none⟩ (.int .u8 (q0 v))).setCell ⟨g, off + 1, none⟩ (.int .u8 (q1 v))).setCell ⟨g, off + 2, none⟩ (.int .u8 (q2 v))).setCell ⟨g, off + 3, none⟩ (.int .u8 (q3 v)) = w' := by
  have hn0 : (0 : Int) < (n : Int) := by omega
  have hn1 : (1 : Int) < (n : Int) := by omega
  have hn2 : (2 : Int) < (n : Int) := by omega
  have hn3 : (3 : Int) < (n : Int) := by omega
  go_enter Try.func23, Try.ntmps23
  go_wp2_with fail
  refine wp_loop_rounds 5 ?_
  rw [rounds_succ]
  go_wp2_with fail
  rw [rounds_succ]
  go_wp2_with fail
  rw [rounds_succ]
  go_wp2_with fail
  rw [rounds_succ]
  go_wp2_with fail
  rw [rounds_succ]
  go_wp2_with fail
  go_end0
  exact ⟨rfl, rfl⟩
end Go.Proofs.Ythdeecnppmheoaa
