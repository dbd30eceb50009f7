/- Start, Stage, Done, Outcome; the runner that is nil. -/
import Derived.Test.YtpogiondpbfjkaaAfter
namespace Go.Proofs.Ytpogiondpbfjkaa
open Go.RowKit Go.Conc
/-- Start. -/
def Rn.start (r : Rn) : Rn × List (Int × Int) := if r.started then (r, []) else Rn.begin { r with started := true }
theorem Rn.Ok.on {r : Rn} (h : r.Ok) : ({ r with started := true } : Rn).Ok := ⟨h.first, h.all, h.few, h.stages, h.stage⟩
theorem Rn.Ok.start {r : Rn} (h : r.Ok) : r.start.1.Ok := by
  unfold Rn.start; split
  · exact h
  · exact h.on.begin
set_option maxHeartbeats 1000000 in
theorem start_any {R G : Nat} {A S : Option Addr} {c sc : Nat} {r : Rn} (w : World) (h : RunAt w R G A c S sc r) (hok : r.Ok) :
    Calls Try.prog 11 #[.pointer (some ⟨R, 0, none⟩)] w (Gives w R G A c S sc r.start) := by
  have HR := Lib.hid h
  have HOK := Lib.hid hok
  obtain ⟨t, ht⟩ := h.top
  have hRl := blk_lt ht
  obtain ⟨c0, z0⟩ := blk_cells ht
  clear h hok ht
  rcases hs : r.started with _ | _
  · have HS := Lib.hid (show r.start = Rn.begin { r with started := true } by unfold Rn.start; rw [if_neg (by simp [hs])])
    rw [hs] at c0
    clear hs
    go_enter Try.func11, Try.ntmps11
    go_wp2_with fail
    have HRx : RunAt (w.setCell ⟨R, 4, none⟩ (.bool true)) R G A c S sc { r with started := true } := by
      refine HR.out.top' rfl rfl (fun k hk hkR => ?_) (fun t ht => ?_)
      · rw [Below.heap_setCell _ ⟨R, _, none⟩ _ k hkR]
      · exact heap_setCell_same _ _ _ _ _ _ ht
    have HMx := Lib.hid (show Moved w (w.setCell ⟨R, 4, none⟩ (.bool true)) R G from (Moved.same _ _ _).setD)
    clear c0 z0
    generalize w.setCell ⟨R, 4, none⟩ (.bool true) = wx at *
    refine (begin_any wx HRx HOK.out.on).mono ?_
    rintro e w9 ⟨v, rfl, hr9, ho9, hs9, hm9⟩
    have HG9 := Lib.hid (And.intro hr9 (And.intro ho9 (And.intro hs9 hm9)))
    clear hr9 ho9 hs9 hm9
    go_wp2_with fail
    go_ret
    obtain ⟨h1, h2, h3, h4⟩ := HG9.out
    exact ⟨v, rfl, by rw [HS.out]; exact h1, by rw [HS.out]; exact h2, by rw [HS.out]; exact h3.mono HMx.out.size, HMx.out.trans h4⟩
  · have HS := Lib.hid (show r.start = (r, []) by unfold Rn.start; rw [if_pos hs])
    rw [hs] at c0
    clear hs
    go_enter Try.func11, Try.ntmps11
    go_wp2_with fail
    go_ret
    rw [HS.out]
    exact ⟨_, rfl, HR.out, HOK.out, OwnS.nil _ _, Moved.same _ _ _⟩
theorem start_nil (w : World) : Calls Try.prog 11 #[.pointer none] w fun e w' => e = .returned (.slice none 0 0) ∧ w' = w := by
  go_enter Try.func11, Try.ntmps11
  go_wp2_with fail
  go_ret
  exact ⟨rfl, rfl⟩
theorem stage_any {R G : Nat} {A S : Option Addr} {c sc : Nat} {r : Rn} (w : World) (h : RunAt w R G A c S sc r) :
    Calls Try.prog 14 #[.pointer (some ⟨R, 0, none⟩)] w fun e w' => e = .returned (.int .i64 r.stage) ∧ w' = w := by
  obtain ⟨t, ht⟩ := h.top
  obtain ⟨c0, z0⟩ := blk_cells ht
  clear h ht
  go_enter Try.func14, Try.ntmps14
  go_wp2_with fail
  go_ret
  exact ⟨rfl, rfl⟩
theorem stage_nil (w : World) : Calls Try.prog 14 #[.pointer none] w fun e w' => e = .returned (.int .i64 0) ∧ w' = w := by
  go_enter Try.func14, Try.ntmps14
  go_wp2_with fail
  go_ret
  exact ⟨rfl, rfl⟩
/-- Is it done? -/
def Rn.done (r : Rn) : Bool := r.started && decide (r.sizes.length ≤ r.stage)
set_option maxHeartbeats 1000000 in
theorem done_any {R G : Nat} {A S : Option Addr} {c sc : Nat} {r : Rn} (w : World) (h : RunAt w R G A c S sc r) :
    Calls Try.prog 16 #[.pointer (some ⟨R, 0, none⟩)] w fun e w' => e = .returned (.bool r.done) ∧ ∃ n, w' = w.drewN n := by
  obtain ⟨t, ht⟩ := h.top
  obtain ⟨c0, z0⟩ := blk_cells ht
  clear h ht
  rcases hs : r.started with _ | _
  · have hd : r.done = false := by simp [Rn.done, hs]
    rw [hd]
    rw [hs] at c0
    clear hd hs
    go_enter Try.func16, Try.ntmps16
    go_wp2_with (go_quiet (fail))
    go_ret
    exact ⟨rfl, _, rfl⟩
  · have hd : r.done = decide (r.sizes.length ≤ r.stage) := by simp [Rn.done, hs]
    rw [hd]
    rw [hs] at c0
    clear hd hs
    go_enter Try.func16, Try.ntmps16
    go_wp2_with (go_quiet (fail))
    go_ret
    exact ⟨by simp, _, rfl⟩
set_option maxHeartbeats 1000000 in
theorem done_nil (w : World) : Calls Try.prog 16 #[.pointer none] w fun e w' => e = .returned (.bool false) ∧ ∃ n, w' = w.drewN n := by
  go_enter Try.func16, Try.ntmps16
  go_wp2_with (go_quiet (fail))
  go_ret
  exact ⟨rfl, _, rfl⟩
/-- What came of it. -/
def Rn.outcome (r : Rn) (no : Int) : Int := if no < 0 then 0 else if (r.l.length : Int) ≤ no then 0 else (r.rq no.toNat).out
set_option maxHeartbeats 1000000 in
theorem outcome_any {R G : Nat} {A S : Option Addr} {c sc : Nat} {r : Rn} (w : World) (no : Int) (h : RunAt w R G A c S sc r) :
    Calls Try.prog 13 #[.pointer (some ⟨R, 0, none⟩), .int .i64 no] w fun e w' => e = .returned (.int .i64 (r.outcome no)) ∧ w' = w := by
  obtain ⟨t, ht⟩ := h.top
  obtain ⟨c0, z0⟩ := blk_cells ht
  by_cases h1 : no < 0
  · have hd : r.outcome no = 0 := by unfold Rn.outcome; rw [if_pos h1]
    rw [hd]
    have hdd : decide (no < 0) = true := decide_eq_true h1
    clear h ht hd h1
    go_enter Try.func13, Try.ntmps13
    go_wp2_with fail
    go_ret
    exact ⟨rfl, rfl⟩
  · have hdd : decide (no < 0) = false := decide_eq_false h1
    by_cases h2 : (r.l.length : Int) ≤ no
    · have hd : r.outcome no = 0 := by unfold Rn.outcome; rw [if_neg h1, if_pos h2]
      rw [hd]
      have hd2 : decide ((r.l.length : Int) ≤ no) = true := decide_eq_true h2
      clear h ht hd h1 h2
      go_enter Try.func13, Try.ntmps13
      go_wp2_with fail
      go_ret
      exact ⟨rfl, rfl⟩
    · have hd2 : decide ((r.l.length : Int) ≤ no) = false := decide_eq_false h2
      have hd : r.outcome no = (r.rq no.toNat).out := by unfold Rn.outcome; rw [if_neg h1, if_neg h2]
      rw [hd]
      obtain ⟨k, rfl⟩ : ∃ k : Nat, no = (k : Int) := ⟨no.toNat, by omega⟩
      obtain ⟨hG, hA, q0, q1, q2, qz⟩ := h.req_at (i := k) (by omega)
      subst hA
      rw [Int.toNat_natCast]
      have hk : (k : Int) < (r.l.length : Int) := by omega
      generalize (r.rq k).out = o at *
      clear h ht hd h1 h2 q0 q1
      go_enter Try.func13, Try.ntmps13
      go_wp2_with fail
      go_ret
      exact ⟨rfl, rfl⟩
theorem outcome_nil (w : World) (no : Int) : Calls Try.prog 13 #[.pointer none, .int .i64 no] w fun e w' => e = .returned (.int .i64 0) ∧ w' = w := by
  go_enter Try.func13, Try.ntmps13
  go_wp2_with fail
  go_ret
  exact ⟨rfl, rfl⟩
end Go.Proofs.Ytpogiondpbfjkaa
