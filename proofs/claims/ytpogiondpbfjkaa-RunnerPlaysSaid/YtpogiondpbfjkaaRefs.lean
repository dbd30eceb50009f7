/- The reference's Outcome, Stage, Done. -/
import Derived.Test.YtpogiondpbfjkaaRef
namespace Go.Proofs.Ytpogiondpbfjkaa
open Go.RowKit Go.Conc
set_option maxHeartbeats 1000000 in
theorem rstage_any {B : RefB} {r : Rn} (w : World) (h : RefAt w B r) (h0 : r.Ok0) :
    Calls Try.prog 22 #[.pointer (some ⟨B.Q, 0, none⟩)] w fun e w' => e = .returned (.int .i64 r.stage) ∧ w' = w := by
  obtain ⟨c0, z0⟩ := blk_cells h.top
  rcases hs : r.started with _ | _
  · have hat : r.at = -1 := by simp [Rn.at, hs]
    rw [hat] at c0
    rw [h0 hs]
    clear h h0 hs hat
    go_enter Try.func22, Try.ntmps22
    go_wp2_with fail
    go_ret
    exact ⟨by first | rfl | simp, rfl⟩
  · have hat : r.at = (r.stage : Int) := by simp [Rn.at, hs]
    rw [hat] at c0
    clear h h0 hs hat
    go_enter Try.func22, Try.ntmps22
    go_wp2_with fail
    all_goals
      go_ret
      exact ⟨by first | rfl | (simp; omega), rfl⟩
set_option maxHeartbeats 1000000 in
theorem rdone_any {B : RefB} {r : Rn} (w : World) (h : RefAt w B r) :
    Calls Try.prog 23 #[.pointer (some ⟨B.Q, 0, none⟩)] w fun e w' => e = .returned (.bool r.done) ∧ ∃ n, w' = w.drewN n := by
  obtain ⟨c0, z0⟩ := blk_cells h.top
  rcases hs : r.started with _ | _
  · have hat : r.at = -1 := by simp [Rn.at, hs]
    have hd : r.done = false := by simp [Rn.done, hs]
    rw [hat] at c0
    rw [hd]
    have hdd : decide ((r.sizes.length : Int) ≤ -1) = false := decide_eq_false (by omega)
    clear h hs hat hd
    go_enter Try.func23, Try.ntmps23
    go_wp2_with (go_quiet (fail))
    go_ret
    exact ⟨by first | rfl | simp, _, rfl⟩
  · have hat : r.at = (r.stage : Int) := by simp [Rn.at, hs]
    have hd : r.done = decide (r.sizes.length ≤ r.stage) := by simp [Rn.done, hs]
    rw [hat] at c0
    rw [hd]
    clear h hs hat hd
    go_enter Try.func23, Try.ntmps23
    go_wp2_with (go_quiet (fail))
    go_ret
    exact ⟨by first | rfl | simp, _, rfl⟩
set_option maxHeartbeats 1000000 in
theorem routcome_any {B : RefB} {r : Rn} (w : World) (no : Int) (h : RefAt w B r) :
    Calls Try.prog 24 #[.pointer (some ⟨B.Q, 0, none⟩), .int .i64 no] w fun e w' => e = .returned (.int .i64 (r.outcome no)) ∧ w' = w := by
  obtain ⟨c0, z0⟩ := blk_cells h.top
  by_cases h1 : no < 0
  · have hd : r.outcome no = 0 := by unfold Rn.outcome; rw [if_pos h1]
    rw [hd]
    have hdd : decide (no < 0) = true := decide_eq_true h1
    clear h hd h1
    go_enter Try.func24, Try.ntmps24
    go_wp2_with fail
    go_ret
    exact ⟨rfl, rfl⟩
  · have hdd : decide (no < 0) = false := decide_eq_false h1
    by_cases h2 : (r.l.length : Int) ≤ no
    · have hd : r.outcome no = 0 := by unfold Rn.outcome; rw [if_neg h1, if_pos h2]
      rw [hd]
      have hd2 : decide ((r.l.length : Int) ≤ no) = true := decide_eq_true h2
      clear h hd h1 h2
      go_enter Try.func24, Try.ntmps24
      go_wp2_with fail
      go_ret
      exact ⟨rfl, rfl⟩
    · have hd2 : decide ((r.l.length : Int) ≤ no) = false := decide_eq_false h2
      have hd : r.outcome no = (r.rq no.toNat).out := by unfold Rn.outcome; rw [if_neg h1, if_neg h2]
      rw [hd]
      obtain ⟨k, rfl⟩ : ∃ k : Nat, no = (k : Int) := ⟨no.toNat, by omega⟩
      have hcell := h.orow.cell (i := k) (by omega)
      rw [Int.toNat_natCast]
      have hk : (k : Int) < (r.l.length : Int) := by omega
      have hkn : decide (r.l.length ≤ k) = false := decide_eq_false (by omega)
      generalize (r.rq k).out = o at *
      clear h hd h1 h2
      go_enter Try.func24, Try.ntmps24
      go_wp2_with fail
      go_ret
      exact ⟨rfl, rfl⟩
end Go.Proofs.Ytpogiondpbfjkaa
