/- last: the record that was gathered last. And next in one sentence. -/
import Derived.Test.YthdeecnppmheoaaOk
namespace Go.Proofs.Ythdeecnppmheoaa
open Go.RowKit
set_option maxHeartbeats 1000000 in
theorem last_none (A : Option Addr) (c : Nat) (w : World) :
    Calls Try.prog 20 #[.agg #[.slice A 0 c]] w fun e w' => e = .returned (.tuple #[.agg #[.int .u32 0, .int .u8 0, .slice none 0 0], .bool false]) ∧ Below w.heap.size w w' := by
  go_enter Try.func20, Try.ntmps20
  go_wp2_with fail
  refine bodyPost_ret (v := .tuple #[.agg #[.int .u32 0, .int .u8 0, .slice none 0 0], .bool false]) ?_ rfl ⟨rfl, ?_⟩
  · simp [results, Try.results20, go_sem]
  · repeat (first | (with_reducible exact Below.refl _ _) | (with_reducible refine below_new ?_ _) | (with_reducible refine Below.drew ?_) | (with_reducible refine below_drewNs ?_) | (with_reducible refine below_set ?_ (by simp)))
set_option maxHeartbeats 1000000 in
theorem last_some (b off n c : Nat) (hn : 0 < n) (hnm : n ≤ 9223372036854775807) (_hc : n ≤ c) (w : World) (hlt : b < w.heap.size) (q k : Int) (D : Option Addr) (m d : Nat) (h0 : w.cell? ⟨b, off + (n - 1) * 3, none⟩ = some (.int .u32 q)) (h1 : w.cell? ⟨b, off + (n - 1) * 3 + 1, none⟩ = some (.int .u8 k)) (h2 : w.cell? ⟨b, off + (n - 1) * 3 + 2, none⟩ = some (.slice D m d)) :
    Calls Try.prog 20 #[.agg #[.slice (some ⟨b, off, none⟩) n c]] w fun e w' => e = .returned (.tuple #[.agg #[.int .u32 q, .int .u8 k, .slice D m d], .bool true]) ∧ Below w.heap.size w w' := by
  have hz : ((n : Int) == 0) = false := by simp; omega
  have hw1 : IntKind.i64.wrap ((n : Int) - 1) = (n : Int) - 1 := IntWalk.i64_in _ (by omega)
  have hw2 : ((n : Int) - 1).toNat = n - 1 := by omega
  have hp0 : (0 : Int) ≤ (n : Int) - 1 := by omega
  have hp1 : (n : Int) - 1 < (n : Int) := by omega
  go_enter Try.func20, Try.ntmps20
  go_wp2_with fail
  refine bodyPost_ret (v := .tuple #[.agg #[.int .u32 q, .int .u8 k, .slice D m d], .bool true]) ?_ rfl ⟨rfl, ?_⟩
  · simp [results, Try.results20, go_sem]
  · repeat (first | (with_reducible exact Below.refl _ _) | (with_reducible refine below_new ?_ _) | (with_reducible refine Below.drew ?_) | (with_reducible refine below_drewNs ?_) | (with_reducible refine below_set ?_ (by simp)))
/-- What stands at the beginning: Seq, Kind, data; how many blocks. -/
def recAt (l : List Int) : Option ((Int × Int × List Int) × Nat) :=
  if 64 ≤ l.length ∧ l.take 4 = magic ∧ (numAt l 8 + 81) / 64 ≤ l.length / 64 ∧ l.getD ((numAt l 8 + 81) / 64 * 64 - 1) 0 = 1 ∧ (numAt l (13 + numAt l 8) : Int) = sumF ((l.drop 4).take (numAt l 8 + 9)) then
    some (((numAt l 4 : Int), l.getD 12 0, (l.drop 13).take (numAt l 8)), (numAt l 8 + 81) / 64)
  else none
/-- next's answer. -/
def NextIs (w : World) (l : List Int) (e : Ending) (w' : World) : Prop :=
  match recAt l with
  | none => NoRec w e w'
  | some ((q, k, d), K) => IsRec w q k d K e w'
theorem next_any (A : Option Addr) (n c : Nat) (l : List Int) (hn : n = l.length) (hmax : n ≤ 140737488351232) (hc : n ≤ c) (h8 : Bytes8 l) (w : World) (hr : Read8 w A l) :
    Calls Try.prog 19 #[.slice A n c] w (NextIs w l) := by
  change Calls Try.prog 19 _ w (fun e w' => NextIs w l e w')
  rcases Nat.lt_or_ge n 64 with h | h
  · have hz : recAt l = none := by unfold recAt; rw [if_neg]; omega
    simp only [NextIs, hz]
    exact next_short A n c (by omega) w
  · rcases hr with rfl | ⟨b, off, rfl, hlt, hcell⟩
    · simp at hn; omega
    by_cases hm : l.take 4 = magic
    · by_cases hk : (numAt l 8 + 81) / 64 ≤ n / 64
      · by_cases hw : l.getD ((numAt l 8 + 81) / 64 * 64 - 1) 0 = 1
        · by_cases hs : (numAt l (13 + numAt l 8) : Int) = sumF ((l.drop 4).take (numAt l 8 + 9))
          · have hz : recAt l = some (((numAt l 4 : Int), l.getD 12 0, (l.drop 13).take (numAt l 8)), (numAt l 8 + 81) / 64) := by
              unfold recAt; rw [if_pos]; exact ⟨by omega, hm, by rw [← hn]; exact hk, hw, hs⟩
            simp only [NextIs, hz]
            exact next_ok b off n c l hn (by omega) hmax hc h8 w hlt hcell hm hk hw hs
          · have hz : recAt l = none := by unfold recAt; rw [if_neg]; rintro ⟨_, _, _, _, h⟩; exact hs h
            simp only [NextIs, hz]
            exact next_sum b off n c l hn (by omega) hmax hc h8 w hlt hcell hm hk hw hs
        · have hz : recAt l = none := by unfold recAt; rw [if_neg]; rintro ⟨_, _, _, h, _⟩; exact hw h
          simp only [NextIs, hz]
          exact next_open b off n c l hn (by omega) hmax hc h8 w hlt hcell hm hk hw
      · have hz : recAt l = none := by unfold recAt; rw [if_neg]; rintro ⟨_, _, h, _, _⟩; rw [← hn] at h; exact hk h
        simp only [NextIs, hz]
        exact next_far b off n c l hn (by omega) hmax hc h8 w hlt hcell hm (by omega)
    · have hz : recAt l = none := by unfold recAt; rw [if_neg]; rintro ⟨_, h, _⟩; exact hm h
      simp only [NextIs, hz]
      exact next_magic b off n c l hn (by omega) hc h8 w hlt hcell hm
theorem recAt_bd {l : List Int} (h8 : Bytes8 l) {q k : Int} {d : List Int} {K : Nat} (h : recAt l = some ((q, k, d), K)) : 0 ≤ q ∧ q ≤ 4294967295 ∧ 1 ≤ K ∧ 64 * K ≤ l.length ∧ d.length + 18 ≤ 64 * K := by
  unfold recAt at h
  split at h
  · rename_i hh
    obtain ⟨_, _, hk, _, _⟩ := hh
    simp only [Option.some.injEq, Prod.mk.injEq] at h
    obtain ⟨⟨rfl, rfl, rfl⟩, rfl⟩ := h
    have := (numAt_eq h8 4).2
    simp only [List.length_take, List.length_drop]
    omega
  · cases h
end Go.Proofs.Ythdeecnppmheoaa
