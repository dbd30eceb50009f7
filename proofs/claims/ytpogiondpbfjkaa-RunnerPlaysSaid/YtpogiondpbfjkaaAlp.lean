/- A runner that nobody answers. -/
import Derived.Test.YtpogiondpbfjkaaPure
namespace Go.Proofs.Ytpogiondpbfjkaa
open Go.RowKit Go.Conc
/-- The stage that is under way was sent so often; those ahead of it are given up, those behind it untouched. -/
structure Al (r : Rn) (t : Int) : Prop where
  ok : r.Ok
  started : r.started = true
  stage : r.stage < r.sizes.length
  some : r.first < r.fin
  past : ∀ i, i < r.first → (r.rq i).out = 3
  cur : ∀ i, r.first ≤ i → i < r.fin → (r.rq i).tries = t ∧ (r.rq i).out = 0 ∧ (r.rq i).due ≤ r.now + 10
  new : ∀ i, r.fin ≤ i → i < r.l.length → r.rq i = ⟨0, 0, 0⟩
  t1 : 1 ≤ t
  t4 : t ≤ 4
  now0 : 0 ≤ r.now
/-- All are given up. -/
structure Dn (r : Rn) : Prop where
  ok : r.Ok
  started : r.started = true
  stage : r.stage = r.sizes.length
  past : ∀ i, i < r.l.length → (r.rq i).out = 3
theorem begin_al (r : Rn) (hok : r.Ok) (hs : r.started = true) (hpast : ∀ i, i < r.first → (r.rq i).out = 3) (hnew : ∀ i, r.first ≤ i → i < r.l.length → r.rq i = ⟨0, 0, 0⟩) (h0 : 0 ≤ r.now) (hb : r.now ≤ 1000000) :
    r.begin.1.l.length = r.l.length ∧ r.begin.1.sizes = r.sizes ∧ r.begin.1.now = r.now ∧ r.begin.1.first = r.first ∧ r.stage ≤ r.begin.1.stage ∧
      ((Al r.begin.1 1 ∧ r.begin.2 = r.begin.1.stageL 1) ∨ (Dn r.begin.1 ∧ r.begin.2 = [] ∧ r.first = r.l.length)) := by
  obtain ⟨r', h1, h2, h3, h4, h5, h6, h7, h8, h9⟩ := begin_fresh _ r rfl hok hnew
  have hw : wrap64 (r.now + 10) = r.now + 10 := IntWalk.wrap64_in _ (by omega)
  have hr : r.begin.1 = r' := h1
  rw [hr]
  refine ⟨h3, h4, h6, h7, h8, ?_⟩
  rcases h9 with ⟨a1, a2, a3, a4⟩ | ⟨a1, a2, a3, a4⟩
  · refine .inl ⟨⟨h2, by rw [h5]; exact hs, a1, a2, fun i hi => ?_, fun i hi hf => ?_, fun i hi hl => ?_, by decide, by decide, by rw [h6]; exact h0⟩, a3⟩
    · rw [a4 i, if_neg (by omega)]; exact hpast i (by omega)
    · rw [a4 i, if_pos ⟨hi, hf⟩, hw, h6]; exact ⟨rfl, rfl, Int.le_refl _⟩
    · rw [a4 i, if_neg (by omega)]; exact hnew i (by omega) (by omega)
  · refine .inr ⟨⟨h2, by rw [h5]; exact hs, a1, fun i hi => ?_⟩, a3, by omega⟩
    rw [a4 i]; exact hpast i (by omega)
theorem al_dues {r : Rn} {t : Int} (h : Al r t) (w : Int) (h10 : 10 ≤ w) (hw : w ≤ 100) (hb : r.now ≤ 100000) : (r.later w).dues = List.range' r.first (r.fin - r.first) ∧ (r.later w).now = r.now + w := by
  have h0 := h.now0
  have hn : (r.later w).now = r.now + w := IntWalk.wrap64_in _ (by omega)
  refine ⟨?_, hn⟩
  unfold Rn.dues
  rw [hn]
  exact those_full (r := r.later w) (a := r.first) fun i h1 h2 => by
    obtain ⟨c1, c2, c3⟩ := h.cur i h1 h2
    have : (r.later w).rq i = r.rq i := rfl
    rw [this]
    simp [dueF, c2]; omega
theorem al_send {r : Rn} {t : Int} (h : Al r t) (w : Int) (h10 : 10 ≤ w) (hw : w ≤ 100) (hb : r.now ≤ 100000) (ht : t < 4) :
    Al (r.tick w).1 (t + 1) ∧ (r.tick w).2 = (r.tick w).1.stageL (t + 1) ∧ (r.tick w).1.now = r.now + w ∧ (r.tick w).1.l.length = r.l.length ∧ (r.tick w).1.sizes = r.sizes ∧ (r.tick w).1.stage = r.stage ∧ (r.tick w).1.first = r.first ∧ (r.tick w).1.fin = r.fin := by
  have h0 := h.now0
  obtain ⟨hd, hn⟩ := al_dues h w h10 hw hb
  have hfl := h.ok.fin_le
  have hnd : (List.range' r.first (r.fin - r.first)).Nodup := List.nodup_range'
  have hbd : ∀ no ∈ List.range' r.first (r.fin - r.first), no < (r.later w).l.length := fun no hn => by
    rw [List.mem_range'_1] at hn
    show no < r.l.length
    omega
  have hal := tickAll_alike (r.later w) (List.range' r.first (r.fin - r.first))
  have hrq := tickAll_rq (r.later w) _ hnd hbd
  have hout := tickAll_out (r.later w) _ hnd hbd
  have htk : (r.later w).ticked = tickAll (r.later w) (List.range' r.first (r.fin - r.first)) := by unfold Rn.ticked; rw [hd]
  have hokx := tickAll_ok (r.later w) (List.range' r.first (r.fin - r.first)) (h.ok.later w)
  generalize hx : tickAll (r.later w) (List.range' r.first (r.fin - r.first)) = x at *
  have hin : ∀ i, i ∈ List.range' r.first (r.fin - r.first) ↔ r.first ≤ i ∧ i < r.fin := fun i => by rw [List.mem_range'_1]; omega
  have hxq : ∀ i, x.1.rq i = if r.first ≤ i ∧ i < r.fin then ⟨t + 1, r.now + w + 10, 0⟩ else r.rq i := fun i => by
    rw [hrq i]
    by_cases hi : r.first ≤ i ∧ i < r.fin
    · obtain ⟨c1, c2, c3⟩ := h.cur i hi.1 hi.2
      have t1 := h.t1
      rw [if_pos ((hin i).2 hi), if_pos hi]
      have hq : (r.later w).rq i = r.rq i := rfl
      rw [hq, c1, if_pos ht]
      unfold Rn.next1
      rw [c1, c2, hn, IntWalk.wrap64_in _ (by omega), IntWalk.wrap64_in _ (by omega)]
    · rw [if_neg (fun hh => hi ((hin i).1 hh)), if_neg hi]; rfl
  have hfin : x.1.fin = r.fin := hal.fin
  have hfirst : x.1.first = r.first := hal.first
  have hop : x.1.opens ≠ [] := fun e => by
    have := opens_empty.1 e r.first (by omega) (by have := h.some; omega)
    rw [hxq, if_pos ⟨Nat.le_refl _, h.some⟩] at this
    exact this rfl
  have haf : x.1.after = (x.1, []) := by
    unfold Rn.after
    rw [if_neg (by rw [hal.sizes, hal.stage]; have := h.stage; show ¬ r.sizes.length ≤ r.stage; omega), if_neg hop]
  have hti : r.tick w = (x.1, x.2) := by
    rw [show r.tick w = ((r.later w).ticked.1.after.1, (r.later w).ticked.2 ++ (r.later w).ticked.1.after.2) by unfold Rn.tick; rw [if_neg (by rw [h.started]; simp; omega)], htk, haf, List.append_nil]
  have hnow : x.1.now = r.now + w := by rw [hal.now]; exact hn
  rw [hti]
  show Al x.1 (t + 1) ∧ x.2 = x.1.stageL (t + 1) ∧ x.1.now = r.now + w ∧ x.1.l.length = r.l.length ∧ x.1.sizes = r.sizes ∧ x.1.stage = r.stage ∧ x.1.first = r.first ∧ x.1.fin = r.fin
  refine ⟨⟨hokx, by rw [hal.started]; exact h.started, by rw [hal.stage, hal.sizes]; exact h.stage, by rw [hfin, hfirst]; exact h.some, fun i hi => ?_, fun i hi hf => ?_, fun i hi hl => ?_, by have := h.t1; omega, by omega, by rw [hnow]; omega⟩, ?_, hnow, hal.len, hal.sizes, hal.stage, hfirst, hfin⟩
  · rw [hxq, if_neg (by omega)]; exact h.past i (by omega)
  · rw [hxq, if_pos (by omega), hnow]; exact ⟨rfl, rfl, Int.le_refl _⟩
  · rw [hxq, if_neg (by omega)]; exact h.new i (by omega) (by have := hal.len; have : (r.later w).l.length = r.l.length := rfl; omega)
  · rw [hout, List.filter_eq_self.2 (fun i hi => by
      obtain ⟨c1, _, _⟩ := h.cur i ((hin i).1 hi).1 ((hin i).1 hi).2
      have hq : (r.later w).rq i = r.rq i := rfl
      rw [hq, c1]; simpa using ht)]
    unfold Rn.stageL
    rw [hfin, hfirst]
    refine List.map_congr_left fun i hi => ?_
    obtain ⟨c1, _, _⟩ := h.cur i ((hin i).1 hi).1 ((hin i).1 hi).2
    have t1 := h.t1
    have hq : (r.later w).rq i = r.rq i := rfl
    rw [hq, c1, IntWalk.wrap64_in _ (by omega)]
theorem al_lose {r : Rn} (h : Al r 4) (w : Int) (h10 : 10 ≤ w) (hw : w ≤ 100) (hb : r.now ≤ 100000) :
    (r.tick w).1.l.length = r.l.length ∧ (r.tick w).1.sizes = r.sizes ∧ (r.tick w).1.now = r.now + w ∧ (r.tick w).1.first = r.fin ∧ r.stage + 1 ≤ (r.tick w).1.stage ∧
      ((Al (r.tick w).1 1 ∧ (r.tick w).2 = (r.tick w).1.stageL 1) ∨ (Dn (r.tick w).1 ∧ (r.tick w).2 = [] ∧ r.fin = r.l.length)) := by
  have h0 := h.now0
  obtain ⟨hd, hn⟩ := al_dues h w h10 hw hb
  have hfl := h.ok.fin_le
  have hnd : (List.range' r.first (r.fin - r.first)).Nodup := List.nodup_range'
  have hbd : ∀ no ∈ List.range' r.first (r.fin - r.first), no < (r.later w).l.length := fun no hn => by
    rw [List.mem_range'_1] at hn
    show no < r.l.length
    omega
  have hal := tickAll_alike (r.later w) (List.range' r.first (r.fin - r.first))
  have hrq := tickAll_rq (r.later w) _ hnd hbd
  have hout := tickAll_out (r.later w) _ hnd hbd
  have htk : (r.later w).ticked = tickAll (r.later w) (List.range' r.first (r.fin - r.first)) := by unfold Rn.ticked; rw [hd]
  have hokx := tickAll_ok (r.later w) (List.range' r.first (r.fin - r.first)) (h.ok.later w)
  generalize hx : tickAll (r.later w) (List.range' r.first (r.fin - r.first)) = x at *
  have hin : ∀ i, i ∈ List.range' r.first (r.fin - r.first) ↔ r.first ≤ i ∧ i < r.fin := fun i => by rw [List.mem_range'_1]; omega
  have hxq : ∀ i, (r.first ≤ i ∧ i < r.fin → (x.1.rq i).out = 3) ∧ (¬ (r.first ≤ i ∧ i < r.fin) → x.1.rq i = r.rq i) := fun i => by
    rw [hrq i]
    refine ⟨fun hi => ?_, fun hi => ?_⟩
    · obtain ⟨c1, c2, c3⟩ := h.cur i hi.1 hi.2
      have hq : (r.later w).rq i = r.rq i := rfl
      rw [if_pos ((hin i).2 hi), hq, c1, if_neg (by decide)]
    · rw [if_neg (fun hh => hi ((hin i).1 hh))]; rfl
  have hfin : x.1.fin = r.fin := hal.fin
  have hfirst : x.1.first = r.first := hal.first
  have hop : x.1.opens = [] := opens_empty.2 fun i h1 h2 => by
    rw [(hxq i).1 ⟨by omega, by omega⟩]; decide
  have haf : x.1.after = x.1.adv.begin := by
    unfold Rn.after
    rw [if_neg (by rw [hal.sizes, hal.stage]; have := h.stage; show ¬ r.sizes.length ≤ r.stage; omega), if_pos hop]
  have hx2 : x.2 = [] := by
    rw [hout, List.filter_eq_nil_iff.2 (fun i hi => by
      obtain ⟨c1, _, _⟩ := h.cur i ((hin i).1 hi).1 ((hin i).1 hi).2
      have hq : (r.later w).rq i = r.rq i := rfl
      rw [hq, c1]; decide)]
    rfl
  have hti : r.tick w = x.1.adv.begin := by
    rw [show r.tick w = ((r.later w).ticked.1.after.1, (r.later w).ticked.2 ++ (r.later w).ticked.1.after.2) by unfold Rn.tick; rw [if_neg (by rw [h.started]; simp; omega)], htk, haf, hx2]; rfl
  have hnow : x.1.now = r.now + w := by rw [hal.now]; exact hn
  have hlen : x.1.l.length = r.l.length := hal.len
  have af : x.1.adv.first = r.fin := hfin
  have hbg := begin_al x.1.adv (hokx.adv (by rw [hal.stage, hal.sizes]; exact h.stage)) (by show x.1.started = true; rw [hal.started]; exact h.started)
    (fun i hi => by
      show (x.1.rq i).out = 3
      rw [af] at hi
      by_cases hr : r.first ≤ i
      · exact (hxq i).1 ⟨hr, hi⟩
      · rw [(hxq i).2 (by omega)]; exact h.past i (by omega))
    (fun i hi hl => by
      show x.1.rq i = _
      rw [af] at hi
      rw [(hxq i).2 (by omega)]
      exact h.new i hi (by have : x.1.adv.l.length = x.1.l.length := rfl; omega))
    (by show 0 ≤ x.1.now; rw [hnow]; omega) (by show x.1.now ≤ _; rw [hnow]; omega)
  rw [hti]
  obtain ⟨b1, b2, b3, b4, b5, b6⟩ := hbg
  have e1 : x.1.adv.l.length = r.l.length := hlen
  have e2 : x.1.adv.sizes = r.sizes := hal.sizes
  have e3 : x.1.adv.now = r.now + w := hnow
  have e4 : x.1.adv.stage = r.stage + 1 := by show x.1.stage + 1 = _; rw [hal.stage]; rfl
  rw [e1] at b1
  rw [e2] at b2
  rw [e3] at b3
  rw [af] at b4
  rw [e4] at b5
  rw [af, e1] at b6
  exact ⟨b1, b2, b3, b4, b5, b6⟩
end Go.Proofs.Ytpogiondpbfjkaa
