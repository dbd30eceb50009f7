/- The reference's next, as what the program's begin and after do. -/
import Derived.Test.YtpogiondpbfjkaaRefs
import Derived.Test.YtpogiondpbfjkaaEnp
namespace Go.Proofs.Ytpogiondpbfjkaa
open Go.RowKit Go.Conc
/-- The next stage, or the first. -/
def Rn.up (r : Rn) : Rn := if r.started then r.adv else { r with started := true }
/-- What next gives. -/
def Rn.nx (r : Rn) : Rn × List (Int × Int) := if r.started then r.after else r.up.begin
/-- Nothing behind the stage that is under way was touched. -/
def Fresh (r : Rn) : Prop := ∀ i, r.rfin ≤ i → i < r.l.length → r.rq i = ⟨0, 0, 0⟩
/-- What is always so of a runner that plays. -/
structure Rn.Fine (r : Rn) : Prop where
  ok : r.Ok
  ok0 : r.Ok0
  fresh : Fresh r
theorem up_started (r : Rn) : r.up.started = true := by
  unfold Rn.up; rcases h : r.started with _ | _
  · rfl
  · show r.started = true; exact h
theorem up_sizes (r : Rn) : r.up.sizes = r.sizes := by unfold Rn.up; split <;> rfl
theorem up_l (r : Rn) : r.up.l = r.l := by unfold Rn.up; split <;> rfl
theorem up_rq (r : Rn) (i : Nat) : r.up.rq i = r.rq i := by unfold Rn.rq; rw [up_l]
theorem up_now (r : Rn) : r.up.now = r.now := by unfold Rn.up; split <;> rfl
theorem up_first (r : Rn) : r.up.first = r.rfin := by
  unfold Rn.up Rn.rfin
  split
  · rfl
  · rfl
theorem up_at (r : Rn) (h0 : r.Ok0) : (r.up.stage : Int) = r.at + 1 := by
  unfold Rn.up Rn.at
  rcases h : r.started with _ | _
  · have := h0 h
    simp [this]
  · simp [Rn.adv]
theorem up_ok {r : Rn} (h : r.Ok) (hs : r.started = true → r.stage < r.sizes.length) : r.up.Ok := by
  unfold Rn.up
  rcases hb : r.started with _ | _
  · exact h.on
  · exact h.adv (hs hb)
theorem fin_at (r : Rn) (h : r.sizes.length ≤ r.stage) : r.fin = r.first := by unfold Rn.fin; rw [if_pos h]
/-- What next sends of one stage. -/
def Rn.lot (r : Rn) : Rn × List (Int × Int) := sendAll r (List.range' r.first (r.fin - r.first))
theorem lot_bd {r : Rn} (h : r.Ok) : ∀ no ∈ List.range' r.first (r.fin - r.first), no < r.l.length := fun no hn => by
  rw [List.mem_range'_1] at hn
  have := h.fin_le; omega
theorem lot_alike (r : Rn) : Alike r r.lot.1 := sendAll_alike r _
theorem lot_rq {r : Rn} (h : r.Ok) (i : Nat) : r.lot.1.rq i = if r.first ≤ i ∧ i < r.fin then r.next1 (r.rq i) else r.rq i := by
  unfold Rn.lot
  rw [sendAll_rq r _ List.nodup_range' (lot_bd h)]
  have : (i ∈ List.range' r.first (r.fin - r.first)) ↔ (r.first ≤ i ∧ i < r.fin) := by rw [List.mem_range'_1]; omega
  simp only [this]
/-- A round of next. -/
theorem nx_step {r : Rn} (h : r.Fine) (hs : r.started = true → r.stage < r.sizes.length ∧ r.opens = []) :
    r.nx.1 = r.up.lot.1.nx.1 ∧ r.nx.2 = r.up.lot.2 ++ r.up.lot.1.nx.2 ∧ r.up.lot.1.Fine ∧ r.up.lot.1.started = true ∧ r.up.lot.1.stage = r.up.stage ∧ r.up.lot.1.sizes = r.sizes ∧ r.up.lot.1.rfin = r.up.fin := by
  have hok := up_ok h.ok (fun e => (hs e).1)
  have hnx : r.nx = r.up.begin := by
    unfold Rn.nx
    rcases hb : r.started with _ | _
    · rfl
    · obtain ⟨h1, h2⟩ := hs hb
      show r.after = _
      unfold Rn.after
      rw [if_neg (by omega), if_pos h2]
      unfold Rn.up
      rw [if_pos hb]
  have hal := lot_alike r.up
  have hst : r.up.lot.1.started = true := by rw [hal.started]; exact up_started r
  have hnxl : r.up.lot.1.nx = r.up.lot.1.after := by unfold Rn.nx; rw [if_pos hst]
  have hfr : ∀ i, r.up.first ≤ i → i < r.up.l.length → r.up.rq i = ⟨0, 0, 0⟩ := fun i h1 h2 => by
    rw [up_rq]; exact h.fresh i (by rw [← up_first]; exact h1) (by rw [← up_l]; exact h2)
  have hrf : r.up.lot.1.rfin = r.up.fin := by unfold Rn.rfin; rw [if_pos hst]; exact hal.fin
  have hfl := hok.fin_le
  have hfine : r.up.lot.1.Fine := ⟨sendAll_ok _ _ hok, fun e => (by rw [hst] at e; cases e), fun i h1 h2 => by
    rw [hrf] at h1
    rw [hal.len] at h2
    rw [lot_rq hok, if_neg (by omega)]
    exact hfr i (by omega) h2⟩
  refine ⟨?_, ?_, hfine, hst, hal.stage, by rw [hal.sizes, up_sizes], hrf⟩
  all_goals
    rw [hnx, hnxl]
    by_cases he : r.up.first < r.up.fin
    · have hlt : r.up.stage < r.up.sizes.length := by
        apply Classical.byContradiction
        intro hh
        have := fin_at r.up (by omega)
        omega
      have hop : r.up.opens = List.range' r.up.first (r.up.fin - r.up.first) := those_full fun i h1 h2 => by rw [hfr i h1 (by omega)]; rfl
      have hne : r.up.opens ≠ [] := by rw [hop]; intro e; have := congrArg List.length e; simp at this; omega
      have hbg : r.up.begin = r.up.lot := by
        unfold Rn.begin
        obtain ⟨f, hf⟩ : ∃ f, r.up.sizes.length - r.up.stage = f + 1 := ⟨r.up.sizes.length - r.up.stage - 1, by omega⟩
        rw [hf, beginF, if_neg hne, hop]; rfl
      have hop2 : r.up.lot.1.opens ≠ [] := fun e => by
        have := opens_empty.1 e r.up.first (by rw [hal.first]; omega) (by rw [hal.fin]; exact he)
        rw [lot_rq hok, if_pos ⟨Nat.le_refl _, he⟩, hfr _ (Nat.le_refl _) (by omega)] at this
        exact this rfl
      have haf : r.up.lot.1.after = (r.up.lot.1, []) := by
        unfold Rn.after
        rw [if_neg (by rw [hal.sizes, hal.stage]; omega), if_neg hop2]
      rw [hbg, haf]
      try simp
    · have he' : r.up.fin = r.up.first := by omega
      have hlot : r.up.lot = (r.up, []) := by unfold Rn.lot; rw [he', Nat.sub_self]; rfl
      have hop : r.up.opens = [] := opens_empty.2 fun i h1 h2 => by omega
      have hbg : r.up.begin = r.up.after := by
        unfold Rn.begin Rn.after
        by_cases hge : r.up.sizes.length ≤ r.up.stage
        · rw [if_pos hge, Nat.sub_eq_zero_of_le hge]; rfl
        · obtain ⟨f, hf⟩ : ∃ f, r.up.sizes.length - r.up.stage = f + 1 := ⟨r.up.sizes.length - r.up.stage - 1, by omega⟩
          rw [if_neg hge, if_pos hop, hf, beginF, if_pos hop]
          unfold Rn.begin
          have : r.up.adv.sizes.length - r.up.adv.stage = f := by show r.up.sizes.length - (r.up.stage + 1) = f; omega
          rw [this]
      rw [hbg, hlot]
      try rfl
theorem nx_stop {r : Rn} (hs : r.started = true) (h : r.sizes.length ≤ r.stage ∨ r.opens ≠ []) : r.nx = (r, []) := by
  unfold Rn.nx
  rw [if_pos hs]
  unfold Rn.after
  by_cases hge : r.sizes.length ≤ r.stage
  · rw [if_pos hge]
  · rw [if_neg hge, if_neg (by rcases h with h | h; exact absurd h hge; exact h)]
theorem lot_step {r : Rn} {i : Nat} (h : i < r.fin) : List.range' i (r.fin - i) = i :: List.range' (i + 1) (r.fin - (i + 1)) := by
  obtain ⟨m, hm⟩ : ∃ m, r.fin - i = m + 1 := ⟨r.fin - i - 1, by omega⟩
  rw [hm, List.range'_succ, show r.fin - (i + 1) = m by omega]
end Go.Proofs.Ytpogiondpbfjkaa
