/- get, get4, blocks: four bytes as a number; how many blocks. -/
import Derived.Test.YthdeecnppmheoaaSum
import Derived.BigQuiet
import Derived.Deep.QuietTactic
namespace Go.Proofs.Ythdeecnppmheoaa
open Go.RowKit
def getF (x0 x1 x2 x3 : Int) : Int := x0 * 16777216 + x1 * 65536 + x2 * 256 + x3
theorem u32_join8 (x y : Int) (h0 : 0 ≤ x) (hx : x % 256 = 0) (h1 : x < 4294967296) (h2 : 0 ≤ y) (h3 : y < 256) : bits .or .u32 x y = x + y :=
  bits_join .u32 32 (by decide) wraps_u32 8 x y h0 hx h1 h2 h3 (by omega)
theorem u32_join24 (x y : Int) (h0 : 0 ≤ x) (hx : x % 16777216 = 0) (h1 : x < 4294967296) (h2 : 0 ≤ y) (h3 : y < 16777216) : bits .or .u32 x y = x + y :=
  bits_join .u32 32 (by decide) wraps_u32 24 x y h0 hx h1 h2 h3 (by omega)
set_option maxHeartbeats 2000000 in
theorem get_any (b off n c : Nat) (x0 x1 x2 x3 : Int) (hn : (4 : Int) ≤ (n : Int)) (a0 : 0 ≤ x0) (b0 : x0 ≤ 255) (a1 : 0 ≤ x1) (b1 : x1 ≤ 255) (a2 : 0 ≤ x2) (b2 : x2 ≤ 255) (a3 : 0 ≤ x3) (b3 : x3 ≤ 255) (w : World)
    (h0 : w.cell? ⟨b, off, none⟩ = some (.int .u8 x0)) (h1 : w.cell? ⟨b, off + 1, none⟩ = some (.int .u8 x1)) (h2 : w.cell? ⟨b, off + 2, none⟩ = some (.int .u8 x2)) (h3 : w.cell? ⟨b, off + 3, none⟩ = some (.int .u8 x3)) :
    Calls Try.prog 27 #[.slice (some ⟨b, off, none⟩) n c] w fun e w' => e = .returned (.int .u32 (getF x0 x1 x2 x3)) ∧ ∃ m, w' = w.drewN m := by
  have hn0 : (0 : Int) < (n : Int) := by omega
  have hn1 : (1 : Int) < (n : Int) := by omega
  have hn2 : (2 : Int) < (n : Int) := by omega
  have hn3 : (3 : Int) < (n : Int) := by omega
  go_enter Try.func27, Try.ntmps27
  go_wp2_with fail
  go_quiet (fail)
  go_wp2
  go_ret
  exact ⟨ret_u32 (by rw [u32_join24 (x0 * 16777216) (x1 * 65536) (by omega) (by omega) (by omega) (by omega) (by omega), u32_join16 (x0 * 16777216 + x1 * 65536) (x2 * 256) (by omega) (by omega) (by omega) (by omega) (by omega), u32_join8 (x0 * 16777216 + x1 * 65536 + x2 * 256) x3 (by omega) (by omega) (by omega) (by omega) (by omega)]; rfl), nq, rfl⟩
theorem ret_i64 {a b : Int} (h : a = b) : Ending.returned (.int .i64 a) = .returned (.int .i64 b) := by rw [h]
set_option maxHeartbeats 400000 in
theorem blocks_any (n : Int) (h0 : 0 ≤ n) (h1 : n ≤ 4294967295) (w : World) : Calls Try.prog 22 #[.int .i64 n] w fun e w' => e = .returned (.int .i64 ((n + 81) / 64)) ∧ w' = w := by
  have e : (n + 18 + 64 - 1) / 64 = (n + 81) / 64 := by omega
  have E := Lib.hid e
  clear e
  go_enter Try.func22, Try.ntmps22
  go_wp2
  go_ret
  exact ⟨ret_i64 E.out, rfl⟩
end Go.Proofs.Ythdeecnppmheoaa
