/- log.Sum and Sum of the reference: one sum over bytes. -/
import Derived.Test.YthdeecnppmheoaaKit
import Derived.LoopTactic
import Derived.LoopN
import Derived.Laws.BitsLemmas
import Derived.Deep.LoopGhost
namespace Go.Proofs.Ythdeecnppmheoaa
open Go.RowKit
/-- Both sums behind so many bytes. -/
def sumTo (l : List Int) : Nat → Int × Int
  | 0 => (1, 0)
  | k + 1 => (((sumTo l k).1 + l.getD k 0) % 65521, ((sumTo l k).2 + ((sumTo l k).1 + l.getD k 0) % 65521) % 65521)
theorem sumTo_bd (l : List Int) : ∀ k, 0 ≤ (sumTo l k).1 ∧ (sumTo l k).1 ≤ 65520 ∧ 0 ≤ (sumTo l k).2 ∧ (sumTo l k).2 ≤ 65520
  | 0 => by simp [sumTo]
  | k + 1 => by simp only [sumTo]; omega
def sumF (l : List Int) : Int := (sumTo l l.length).2 * 65536 + (sumTo l l.length).1
theorem wraps_u32 (n : Int) (h0 : 0 ≤ n) (h1 : n < 2 ^ 32) : IntKind.u32.wrap n = n := by unfold IntKind.wrap; simp [IntKind.signed, IntKind.bits]; omega
theorem u32_join16 (x y : Int) (h0 : 0 ≤ x) (hx : x % 65536 = 0) (h1 : x < 4294967296) (h2 : 0 ≤ y) (h3 : y < 65536) : bits .or .u32 x y = x + y :=
  bits_join .u32 32 (by decide) wraps_u32 16 x y h0 hx h1 h2 h3 (by omega)
theorem ret_u32 {a b : Int} (h : a = b) : Ending.returned (.int .u32 a) = .returned (.int .u32 b) := by rw [h]
set_option maxHeartbeats 2000000 in
theorem sum_row (b off c : Nat) (l : List Int) (w : World) (hl : l.length ≤ 9223372036854775807) (h8 : Bytes8 l) (hcell : ∀ i, i < l.length → w.cell? ⟨b, off + i, none⟩ = some (.int .u8 (l.getD i 0))) :
    Calls Try.prog 11 #[.slice (some ⟨b, off, none⟩) l.length c] w fun e w' => e = .returned (.int .u32 (sumF l)) ∧ w' = w := by
  have HC := Lib.hid hcell
  have H8 := Lib.hid h8
  clear hcell h8
  go_enter Try.func11, Try.ntmps11
  go_wp2_with fail
  go_loop [3, 4, 9] (fun s3 s4 s9 => ∃ k : Nat, s9 = .int .i64 k ∧ k ≤ l.length ∧ s3 = .int .u32 (sumTo l k).1 ∧ s4 = .int .u32 (sumTo l k).2) (fun _ _ s9 => l.length - (intOf s9).toNat)
  case atStart => exact ⟨0, rfl, Nat.zero_le _, rfl, rfl⟩
  case round =>
    obtain ⟨k, rfl, hk, rfl, rfl⟩ := hrel
    obtain ⟨p0, p1, q0, q1⟩ := sumTo_bd l k
    by_cases hlt : k < l.length
    · have hc := HC.out k hlt
      obtain ⟨x0, x1⟩ := bytes8_get H8.out k
      have HS := Lib.hid (show sumTo l (k + 1) = (((sumTo l k).1 + l.getD k 0) % 65521, ((sumTo l k).2 + ((sumTo l k).1 + l.getD k 0) % 65521) % 65521) from rfl)
      generalize l.getD k 0 = x at *
      generalize (sumTo l k).1 = p at *
      generalize (sumTo l k).2 = q at *
      go_wp2
      go_round
      case rel => exact ⟨k + 1, by go_num, by omega, by rw [HS.out], by rw [HS.out]⟩
      case measure => simp [intOf]; omega
    · obtain rfl : k = l.length := by omega
      have HF := Lib.hid (show sumF l = (sumTo l l.length).2 * 65536 + (sumTo l l.length).1 from rfl)
      generalize (sumTo l l.length).1 = p at *
      generalize (sumTo l l.length).2 = q at *
      have HE := Lib.hid (u32_join16 (q * 65536) p (by omega) (by omega) (by omega) p0 (by omega))
      go_wp2
      go_ret
      exact ⟨ret_u32 (by rw [HF.out, ← HE.out]), rfl⟩
set_option maxHeartbeats 2000000 in
theorem sum_nil (A : Option Addr) (c : Nat) (w : World) : Calls Try.prog 11 #[.slice A 0 c] w fun e w' => e = .returned (.int .u32 1) ∧ w' = w := by
  have HE := u32_join16 0 1 (by omega) (by omega) (by omega) (by omega) (by omega)
  go_enter Try.func11, Try.ntmps11
  go_wp2_with fail
  refine wp_loop_rounds 1 ?_
  rw [rounds_succ]
  go_wp2
  go_ret
  exact ⟨ret_u32 (by first | rfl | (rw [HE]; rfl)), rfl⟩
/-- Sum of whatever bytes. -/
theorem sum_any (A : Option Addr) (n c : Nat) (l : List Int) (hn : n = l.length) (w : World) (hl : l.length ≤ 9223372036854775807) (h8 : Bytes8 l) (hr : Read8 w A l) :
    Calls Try.prog 11 #[.slice A n c] w fun e w' => e = .returned (.int .u32 (sumF l)) ∧ w' = w := by
  subst hn
  rcases hr with rfl | ⟨b, off, rfl, _, hc⟩
  · exact sum_nil A c w
  · exact sum_row b off c l w hl h8 hc
set_option maxHeartbeats 2000000 in
theorem rsum_row (b off c : Nat) (l : List Int) (w : World) (hl : l.length ≤ 9223372036854775807) (h8 : Bytes8 l) (hcell : ∀ i, i < l.length → w.cell? ⟨b, off + i, none⟩ = some (.int .u8 (l.getD i 0))) :
    Calls Try.prog 12 #[.slice (some ⟨b, off, none⟩) l.length c] w fun e w' => e = .returned (.int .u32 (sumF l)) ∧ w' = w := by
  have HC := Lib.hid hcell
  have H8 := Lib.hid h8
  clear hcell h8
  go_enter Try.func12, Try.ntmps12
  go_wp2_with fail
  go_loop [3, 4, 5] (fun s3 s4 s5 => ∃ k : Nat, s5 = .int .i64 k ∧ k ≤ l.length ∧ s3 = .int .i64 (sumTo l k).1 ∧ s4 = .int .i64 (sumTo l k).2) (fun _ _ s5 => l.length - (intOf s5).toNat)
  case atStart => exact ⟨0, rfl, Nat.zero_le _, rfl, rfl⟩
  case round =>
    obtain ⟨k, rfl, hk, rfl, rfl⟩ := hrel
    obtain ⟨p0, p1, q0, q1⟩ := sumTo_bd l k
    by_cases hlt : k < l.length
    · have hc := HC.out k hlt
      obtain ⟨x0, x1⟩ := bytes8_get H8.out k
      have HS := Lib.hid (show sumTo l (k + 1) = (((sumTo l k).1 + l.getD k 0) % 65521, ((sumTo l k).2 + ((sumTo l k).1 + l.getD k 0) % 65521) % 65521) from rfl)
      generalize l.getD k 0 = x at *
      generalize (sumTo l k).1 = p at *
      generalize (sumTo l k).2 = q at *
      go_wp2
      go_round
      case rel => exact ⟨k + 1, by go_num, by omega, by rw [HS.out], by rw [HS.out]⟩
      case measure => simp [intOf]; omega
    · obtain rfl : k = l.length := by omega
      have HF := Lib.hid (show sumF l = (sumTo l l.length).2 * 65536 + (sumTo l l.length).1 from rfl)
      generalize (sumTo l l.length).1 = p at *
      generalize (sumTo l l.length).2 = q at *
      have HW := Lib.hid (wraps_u32 (q * 65536 + p) (by omega) (by omega))
      go_wp2
      go_ret
      exact ⟨ret_u32 (by first | (rw [HF.out]; done) | (rw [HF.out]; exact HW.out)), rfl⟩
set_option maxHeartbeats 2000000 in
theorem rsum_nil (A : Option Addr) (c : Nat) (w : World) : Calls Try.prog 12 #[.slice A 0 c] w fun e w' => e = .returned (.int .u32 1) ∧ w' = w := by
  go_enter Try.func12, Try.ntmps12
  go_wp2_with fail
  refine wp_loop_rounds 1 ?_
  rw [rounds_succ]
  go_wp2
  go_ret
  exact ⟨ret_u32 (by rfl), rfl⟩
theorem rsum_any (A : Option Addr) (n c : Nat) (l : List Int) (hn : n = l.length) (w : World) (hl : l.length ≤ 9223372036854775807) (h8 : Bytes8 l) (hr : Read8 w A l) :
    Calls Try.prog 12 #[.slice A n c] w fun e w' => e = .returned (.int .u32 (sumF l)) ∧ w' = w := by
  subst hn
  rcases hr with rfl | ⟨b, off, rfl, _, hc⟩
  · exact rsum_nil A c w
  · exact rsum_row b off c l w hl h8 hc
theorem sumF_bd (l : List Int) : 0 ≤ sumF l ∧ sumF l < 4294967296 := by
  have := sumTo_bd l l.length
  unfold sumF; omega
end Go.Proofs.Ythdeecnppmheoaa
