/- What holds round by round of a runner that nobody answers. -/
import Derived.Test.YtpogiondpbfjkaaAlp
import Derived.Test.YtpogiondpbfjkaaNew
import Derived.Test.YtpogiondpbfjkaaReply
namespace Go.Proofs.Ytpogiondpbfjkaa
open Go.RowKit Go.Conc
theorem stageL_length (r : Rn) (t : Int) : (r.stageL t).length = r.fin - r.first := by simp [Rn.stageL]
theorem stageL_get (r : Rn) (t : Int) (j : Nat) (h : j < r.fin - r.first) : (r.stageL t)[j]? = some (((r.first + j : Nat) : Int), t) := by
  simp [Rn.stageL, h]
theorem al_done {r : Rn} {t : Int} (h : Al r t) : r.done = false := by
  unfold Rn.done; rw [decide_eq_false (by have := h.stage; omega), Bool.and_false]
theorem dn_done {r : Rn} (h : Dn r) : r.done = true := by
  unfold Rn.done; rw [h.started, decide_eq_true (by have := h.stage; omega)]; rfl
theorem start_on {r : Rn} (h : r.started = true) : r.start = (r, []) := by unfold Rn.start; rw [if_pos h]
theorem reply_past {r : Rn} (h : r.sizes.length ≤ r.stage) (no k : Int) : r.reply no k = (r, []) := reply_no (by
  intro hh
  have hf : r.fin = r.first := by unfold Rn.fin; rw [if_pos h]
  have h1 := hh.2.1
  have h2 := hh.2.2.1
  rw [hf] at h2; omega)
theorem reply_dn {r : Rn} (h : Dn r) (no k : Int) : r.reply no k = (r, []) := reply_past (by have := h.stage; omega) no k
theorem outcome_dn {r : Rn} (h : Dn r) (k : Nat) (hk : k < r.l.length) : r.outcome k = 3 := by
  unfold Rn.outcome
  rw [if_neg (by omega), if_neg (by omega), Int.toNat_natCast]
  exact h.past k hk
theorem new_tick (L : List Nat) (n : Int) : (Rn.new L).tick n = (Rn.new L, []) := by unfold Rn.tick; rw [if_pos (.inl rfl)]
theorem new_reply (L : List Nat) (no k : Int) : (Rn.new L).reply no k = (Rn.new L, []) := reply_no (by intro hh; have := hh.1; simp [Rn.new] at this)
theorem new_done (L : List Nat) : (Rn.new L).done = false := rfl
theorem new_rq (L : List Nat) (i : Nat) (h : i < L.sum) : (Rn.new L).rq i = ⟨0, 0, 0⟩ := by
  simp [Rn.rq, Rn.new, List.getD_eq_getElem?_getD, h]
/-- What holds ahead of a round. -/
def AInv (L : List Nat) (N : Nat) (r : Rn) (X : List (Int × Int)) (T : Nat → Int) (i : Nat) : Prop :=
  r.sizes = L ∧ r.l.length = N ∧ r.now ≤ 30 * i ∧
    ((∃ t, Al r t ∧ X = r.stageL t ∧ (i : Int) ≤ 4 * (r.stage : Int) + (t - 1) ∧ ∀ x, x < N → T x = if x < r.first then 4 else if x < r.fin then t - 1 else 0) ∨
      (Dn r ∧ X = [] ∧ (i : Int) ≤ 4 * (r.stage : Int) ∧ ∀ x, x < N → T x = 4))
theorem ainv_start (L : List Nat) (h1 : L.sum ≤ 1000) (h2 : L.length ≤ 1000) : AInv L L.sum (Rn.new L).start.1 (Rn.new L).start.2 (fun _ => 0) 0 := by
  have hs : (Rn.new L).start = Rn.begin { Rn.new L with started := true } := by unfold Rn.start; rw [if_neg (by simp [Rn.new])]
  rw [hs]
  obtain ⟨b1, b2, b3, b4, b5, b6⟩ := begin_al { Rn.new L with started := true } (Rn.Ok.new h1 h2).on rfl (fun i hi => by simp [Rn.new] at hi) (fun i _ hl => by
    have : i < L.sum := by simpa [Rn.new] using hl
    exact new_rq L i this) (by simp [Rn.new]) (by simp [Rn.new])
  have e1 : ({ Rn.new L with started := true } : Rn).l.length = L.sum := by simp [Rn.new]
  have e2 : ({ Rn.new L with started := true } : Rn).first = 0 := rfl
  have e3 : ({ Rn.new L with started := true } : Rn).now = 0 := rfl
  rw [e1] at b1
  rw [e2] at b4
  rw [e3] at b3
  refine ⟨b2, b1, by rw [b3]; simp, ?_⟩
  rcases b6 with ⟨a1, a2⟩ | ⟨a1, a2, a3⟩
  · refine .inl ⟨1, a1, a2, by omega, fun x hx => ?_⟩
    rw [b4, if_neg (by omega)]
    split <;> rfl
  · rw [e1, e2] at a3
    exact .inr ⟨a1, a2, by omega, fun x hx => by omega⟩
theorem ainv_step {L : List Nat} {N : Nat} {r : Rn} {t : Int} {i : Nat} (hL : r.sizes = L) (hN : r.l.length = N) (hn : r.now ≤ 30 * i) (h : Al r t) (hi : (i : Int) ≤ 4 * (r.stage : Int) + (t - 1)) (hi2 : i ≤ 1000) (W : Int) (h10 : 10 ≤ W) (hW : W ≤ 29) :
    AInv L N (r.tick W).1 (r.tick W).2 (fun x => if x < r.first then 4 else if x < r.fin then t else 0) (i + 1) := by
  by_cases ht : t < 4
  · obtain ⟨a1, a2, a3, a4, a5, a6, a7, a8⟩ := al_send h W h10 (by omega) (by omega) ht
    refine ⟨by rw [a5]; exact hL, by rw [a4]; exact hN, by rw [a3]; omega, .inl ⟨t + 1, a1, a2, by rw [a6]; omega, fun x hx => ?_⟩⟩
    rw [a7, a8, Int.add_sub_cancel]
  · have h4 : t = 4 := by have := h.t4; omega
    subst h4
    obtain ⟨b1, b2, b3, b4, b5, b6⟩ := al_lose h W h10 (by omega) (by omega)
    have hs := h.some
    refine ⟨by rw [b2]; exact hL, by rw [b1]; exact hN, by rw [b3]; omega, ?_⟩
    rcases b6 with ⟨c1, c2⟩ | ⟨c1, c2, c3⟩
    · refine .inl ⟨1, c1, c2, by omega, fun x hx => ?_⟩
      rw [b4]
      show (if x < r.first then (4 : Int) else if x < r.fin then 4 else 0) = if x < r.fin then 4 else if x < (r.tick W).1.fin then 1 - 1 else 0
      by_cases x1 : x < r.fin
      · by_cases x2 : x < r.first
        · simp [x1, x2]
        · simp [x1, x2]
      · have x2 : ¬ x < r.first := by omega
        simp [x1, x2]
    · refine .inr ⟨c1, c2, by omega, fun x hx => ?_⟩
      show (if x < r.first then (4 : Int) else if x < r.fin then 4 else 0) = 4
      have x1 : x < r.fin := by omega
      by_cases x2 : x < r.first
      · simp [x2]
      · simp [x1, x2]
end Go.Proofs.Ytpogiondpbfjkaa
