/- A runner of one stage, all its requests alike: what its ticks do. -/
import Derived.Test.YtpogiondpbfjkaaAw
namespace Go.Proofs.Ytpogiondpbfjkaa
open Go.RowKit Go.Conc
/-- All sent so often, due then. -/
def tm (n : Nat) (now due try_ : Int) : Rn := ⟨List.replicate n ⟨try_, due, 0⟩, [n], 0, 0, true, now⟩
/-- All given up. -/
def td (n : Nat) (now due : Int) : Rn := ⟨List.replicate n ⟨4, due, 3⟩, [n], 1, n, true, now⟩
/-- All sent at once. -/
def sentsL (n : Nat) (t : Int) : List (Int × Int) := (List.range n).map fun (j : Nat) => ((j : Int), t)
theorem sentsL_length (n : Nat) (t : Int) : (sentsL n t).length = n := by simp [sentsL]
theorem sentsL_get (n : Nat) (t : Int) (j : Nat) (h : j < n) : (sentsL n t)[j]? = some ((j : Int), t) := by simp [sentsL, h]
theorem four {n : Nat} (h1 : 1 ≤ n) (h4 : n ≤ 4) : n = 1 ∨ n = 2 ∨ n = 3 ∨ n = 4 := by omega
theorem tm_start (n : Nat) (h1 : 1 ≤ n) (h4 : n ≤ 4) : (Rn.new [n]).start = (tm n 0 10 1, sentsL n 1) := by
  rcases four h1 h4 with rfl | rfl | rfl | rfl
  all_goals kernel_rfl
theorem tm_done (n : Nat) (now due t : Int) : (tm n now due t).done = false := by rfl
theorem td_done (n : Nat) (now due : Int) : (td n now due).done = true := by rfl
theorem td_outcome (n : Nat) (now due : Int) (h1 : 1 ≤ n) : (td n now due).outcome 0 = 3 := by
  obtain ⟨m, rfl⟩ : ∃ m, n = m + 1 := ⟨n - 1, by omega⟩
  unfold Rn.outcome td Rn.rq
  simp [List.replicate_succ]
theorem tick_neg (r : Rn) (n : Int) (h : n < 0) : r.tick n = (r, []) := by unfold Rn.tick; rw [if_pos (.inr (.inl h))]
theorem those_all {r : Rn} {n : Nat} {q : Rq} (so : Rq → Bool) (hl : r.l = List.replicate n q) (hf : r.fin = n) : r.those so 0 = if so q then List.range n else [] := by
  unfold Rn.those
  rw [hf, Nat.sub_zero, ← List.range_eq_range']
  have : ∀ i ∈ List.range n, so (r.rq i) = so q := fun i hi => by
    have hi := List.mem_range.1 hi
    unfold Rn.rq; rw [hl, List.getD_eq_getElem?_getD, List.getElem?_replicate, if_pos hi]; rfl
  rw [List.filter_congr this]
  split
  · rename_i h; rw [List.filter_eq_self]; intro a _; exact h
  · rename_i h; rw [List.filter_eq_nil_iff]; intro a _; exact h
theorem tm_fin (n : Nat) (now due t : Int) : (tm n now due t).fin = n := by simp [Rn.fin, tm]
theorem tm_later (n : Nat) (now due t k : Int) (h0 : 0 ≤ now + k) (h1 : now + k ≤ 100000) : (tm n now due t).later k = tm n (now + k) due t := by
  unfold Rn.later tm
  show Rn.mk _ _ _ _ _ (wrap64 (now + k)) = _
  rw [IntWalk.wrap64_in _ (by omega)]
theorem tm_dues (n : Nat) (now due t : Int) : (tm n now due t).dues = if due ≤ now then List.range n else [] := by
  have := those_all (r := tm n now due t) (q := ⟨t, due, 0⟩) (dueF now) rfl (tm_fin n now due t)
  unfold Rn.dues
  show Rn.those _ (dueF now) 0 = _
  rw [this]
  simp [dueF]
theorem tm_opens (n : Nat) (now due t : Int) (h1 : 1 ≤ n) : (tm n now due t).opens ≠ [] := by
  have := those_all (r := tm n now due t) (q := ⟨t, due, 0⟩) (fun q => q.out == 0) rfl (tm_fin n now due t)
  unfold Rn.opens
  show Rn.those _ (fun q => q.out == 0) 0 ≠ _
  rw [this]
  simp; omega
theorem tm_after (n : Nat) (now due t : Int) (h1 : 1 ≤ n) : (tm n now due t).after = (tm n now due t, []) := by
  unfold Rn.after
  rw [if_neg (by simp [tm]), if_neg (tm_opens n now due t h1)]
theorem tick_go (r : Rn) (k : Int) (hs : r.started = true) (h0 : 0 ≤ k) (h1 : k ≤ 1073741824) : r.tick k = ((r.later k).ticked.1.after.1, (r.later k).ticked.2 ++ (r.later k).ticked.1.after.2) := by
  unfold Rn.tick; rw [if_neg (by rw [hs]; simp; omega)]
theorem tm_early (n : Nat) (now due t k : Int) (h1 : 1 ≤ n) (h0 : 0 ≤ now) (hk : 0 ≤ k) (hk2 : k ≤ 1000) (hb : now ≤ 10000) (h : now + k < due) : (tm n now due t).tick k = (tm n (now + k) due t, []) := by
  rw [tick_go _ _ rfl hk (by omega), tm_later _ _ _ _ _ (by omega) (by omega)]
  unfold Rn.ticked
  rw [tm_dues, if_neg (by omega)]
  show ((tm n (now + k) due t).after.1, [] ++ (tm n (now + k) due t).after.2) = _
  rw [tm_after _ _ _ _ h1]; rfl
theorem tm_sendAll (n : Nat) (now due t : Int) (h1 : 1 ≤ n) (h4 : n ≤ 4) (ht : t < 4) (ht0 : 0 ≤ t) (h0 : 0 ≤ now) (hb : now ≤ 100000) : tickAll (tm n now due t) (List.range n) = (tm n now (now + 10) (t + 1), sentsL n (t + 1)) := by
  have w1 : wrap64 (t + 1) = t + 1 := IntWalk.wrap64_in _ (by omega)
  have w2 : wrap64 (now + 10) = now + 10 := IntWalk.wrap64_in _ (by omega)
  rcases four h1 h4 with rfl | rfl | rfl | rfl
  all_goals
    simp [tickAll, tm, Rn.sent, Rn.put, Rn.rq, List.range, List.range.loop, List.replicate, ht, w1, w2, sentsL]
theorem tm_loseAll (n : Nat) (now due : Int) (h1 : 1 ≤ n) (h4 : n ≤ 4) : tickAll (tm n now due 4) (List.range n) = (⟨List.replicate n ⟨4, due, 3⟩, [n], 0, 0, true, now⟩, []) := by
  rcases four h1 h4 with rfl | rfl | rfl | rfl
  all_goals
    simp [tickAll, tm, Rn.lose, Rn.put, Rn.rq, List.range, List.range.loop, List.replicate]
theorem tl_after (n : Nat) (now due : Int) : Rn.after ⟨List.replicate n ⟨4, due, 3⟩, [n], 0, 0, true, now⟩ = (td n now due, []) := by
  have hf : Rn.fin ⟨List.replicate n ⟨4, due, 3⟩, [n], 0, 0, true, now⟩ = n := by simp [Rn.fin]
  have ho : Rn.opens ⟨List.replicate n ⟨4, due, 3⟩, [n], 0, 0, true, now⟩ = [] := by
    have := those_all (r := ⟨List.replicate n ⟨4, due, 3⟩, [n], 0, 0, true, now⟩) (q := ⟨4, due, 3⟩) (fun q => q.out == 0) rfl hf
    unfold Rn.opens
    show Rn.those _ (fun q => q.out == 0) 0 = _
    rw [this]; rfl
  unfold Rn.after
  rw [if_neg (by simp), if_pos ho]
  have ha : Rn.adv ⟨List.replicate n ⟨4, due, 3⟩, [n], 0, 0, true, now⟩ = td n now due := by unfold Rn.adv; rw [hf]; rfl
  rw [ha]; rfl
theorem tm_send (n : Nat) (now due t k : Int) (h1 : 1 ≤ n) (h4 : n ≤ 4) (h0 : 0 ≤ now) (hk : 0 ≤ k) (hk2 : k ≤ 1000) (hb : now ≤ 10000) (h : due ≤ now + k) (ht0 : 0 ≤ t) (ht : t < 4) :
    (tm n now due t).tick k = (tm n (now + k) (now + k + 10) (t + 1), sentsL n (t + 1)) := by
  rw [tick_go _ _ rfl hk (by omega), tm_later _ _ _ _ _ (by omega) (by omega)]
  unfold Rn.ticked
  rw [tm_dues, if_pos h, tm_sendAll _ _ _ _ h1 h4 ht ht0 (by omega) (by omega)]
  show ((tm n (now + k) (now + k + 10) (t + 1)).after.1, sentsL n (t + 1) ++ (tm n (now + k) (now + k + 10) (t + 1)).after.2) = _
  rw [tm_after _ _ _ _ h1, List.append_nil]
theorem tm_lose (n : Nat) (now due k : Int) (h1 : 1 ≤ n) (h4 : n ≤ 4) (h0 : 0 ≤ now) (hk : 0 ≤ k) (hk2 : k ≤ 1000) (hb : now ≤ 10000) (h : due ≤ now + k) :
    (tm n now due 4).tick k = (td n (now + k) due, []) := by
  rw [tick_go _ _ rfl hk (by omega), tm_later _ _ _ _ _ (by omega) (by omega)]
  unfold Rn.ticked
  rw [tm_dues, if_pos h, tm_loseAll _ _ _ h1 h4]
  show ((Rn.after ⟨List.replicate n ⟨4, due, 3⟩, [n], 0, 0, true, now + k⟩).1, [] ++ (Rn.after ⟨List.replicate n ⟨4, due, 3⟩, [n], 0, 0, true, now + k⟩).2) = _
  rw [tl_after]; rfl
end Go.Proofs.Ytpogiondpbfjkaa
