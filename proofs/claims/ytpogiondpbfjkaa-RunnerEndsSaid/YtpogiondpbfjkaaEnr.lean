/- A round of a runner whose requests are answered, or lost. -/
import Derived.Test.YtpogiondpbfjkaaEnp
namespace Go.Proofs.Ytpogiondpbfjkaa
open Go.RowKit Go.Conc
theorem en_dues {r : Rn} {t : Int} (h : En r t) (hb : r.now ≤ 100000) : (r.later 10).dues = r.opens ∧ (r.later 10).now = r.now + 10 := by
  have h0 := h.now0
  have hn : (r.later 10).now = r.now + 10 := IntWalk.wrap64_in _ (by omega)
  refine ⟨?_, hn⟩
  unfold Rn.dues Rn.opens
  rw [hn]
  show Rn.those (r.later 10) (dueF (r.now + 10)) r.first = Rn.those r _ r.first
  unfold Rn.those
  have hf : (r.later 10).fin = r.fin := rfl
  rw [hf]
  refine List.filter_congr fun i hi => ?_
  rw [List.mem_range'_1] at hi
  have hq : (r.later 10).rq i = r.rq i := rfl
  rw [hq]
  unfold dueF
  by_cases ho : (r.rq i).out = 0
  · have := (h.cur i hi.1 (by omega) ho).2
    simp [ho, this]
  · simp [ho]
theorem en_bd {r : Rn} {t : Int} (h : En r t) : ∀ k ∈ r.opens, k < r.l.length := fun k hk => by
  have := (opens_mem.1 hk).2.1; have := h.ok.fin_le; omega
theorem opens_nodup (r : Rn) : r.opens.Nodup := those_nodup _ _ _
theorem en_tick_lt {r : Rn} {t : Int} (h : En r t) (ht : t < 4) (hb : r.now ≤ 100000) :
    En (r.tick 10).1 (t + 1) ∧ (r.tick 10).2 = (r.tick 10).1.openL (t + 1) ∧ (r.tick 10).1.now = r.now + 10 ∧ (r.tick 10).1.l.length = r.l.length ∧ (r.tick 10).1.sizes = r.sizes ∧ (r.tick 10).1.stage = r.stage ∧ (r.tick 10).1.first = r.first ∧ (r.tick 10).1.fin = r.fin ∧
      (r.tick 10).1.opens = r.opens ∧ ∀ i, ((r.tick 10).1.rq i).out = (r.rq i).out := by
  have h0 := h.now0
  obtain ⟨hd, hn⟩ := en_dues h hb
  have hnd := opens_nodup r
  have hbd : ∀ no ∈ r.opens, no < (r.later 10).l.length := en_bd h
  have hal := tickAll_alike (r.later 10) r.opens
  have hrq := tickAll_rq (r.later 10) _ hnd hbd
  have hout := tickAll_out (r.later 10) _ hnd hbd
  have htk : (r.later 10).ticked = tickAll (r.later 10) r.opens := by unfold Rn.ticked; rw [hd]
  have hokx := tickAll_ok (r.later 10) r.opens (h.ok.later 10)
  generalize hx : tickAll (r.later 10) r.opens = x at *
  have hq : ∀ i, (r.later 10).rq i = r.rq i := fun i => rfl
  have htr : ∀ i ∈ r.opens, (r.rq i).tries = t := fun i hi => by
    obtain ⟨a, b, c⟩ := opens_mem.1 hi
    exact (h.cur i a b c).1
  have hxq : ∀ i, (i ∈ r.opens → x.1.rq i = ⟨t + 1, r.now + 10 + 10, 0⟩) ∧ (i ∉ r.opens → x.1.rq i = r.rq i) := fun i => by
    have t1 := h.t1
    rw [hrq i]
    refine ⟨fun hi => ?_, fun hi => by rw [if_neg hi, hq]⟩
    rw [if_pos hi, hq, htr i hi, if_pos ht]
    unfold Rn.next1
    rw [htr i hi, hn, (opens_mem.1 hi).2.2, IntWalk.wrap64_in _ (by omega), IntWalk.wrap64_in _ (by omega)]
  have hxo : ∀ i, (x.1.rq i).out = (r.rq i).out := fun i => by
    by_cases hi : i ∈ r.opens
    · rw [(hxq i).1 hi, (opens_mem.1 hi).2.2]
    · rw [(hxq i).2 hi]
  have hfin : x.1.fin = r.fin := hal.fin
  have hfirst : x.1.first = r.first := hal.first
  have hopx : x.1.opens = r.opens := by
    unfold Rn.opens Rn.those
    rw [hfin, hfirst]
    exact List.filter_congr fun i _ => by show ((x.1.rq i).out == 0) = ((r.rq i).out == 0); rw [hxo i]
  have haf : x.1.after = (x.1, []) := by
    unfold Rn.after
    rw [if_neg (by rw [hal.sizes, hal.stage]; have := h.stage; show ¬ r.sizes.length ≤ r.stage; omega), if_neg (by rw [hopx]; exact h.some)]
  have hti : r.tick 10 = (x.1, x.2) := by
    rw [tick_go r 10 h.started (by decide) (by decide), htk, haf, List.append_nil]
  have hnow : x.1.now = r.now + 10 := by rw [hal.now]; exact hn
  have hlen : x.1.l.length = r.l.length := hal.len
  rw [hti]
  show En x.1 (t + 1) ∧ x.2 = x.1.openL (t + 1) ∧ x.1.now = r.now + 10 ∧ x.1.l.length = r.l.length ∧ x.1.sizes = r.sizes ∧ x.1.stage = r.stage ∧ x.1.first = r.first ∧ x.1.fin = r.fin ∧ x.1.opens = r.opens ∧ ∀ i, (x.1.rq i).out = (r.rq i).out
  refine ⟨⟨hokx, by rw [hal.started]; exact h.started, by rw [hal.stage, hal.sizes]; exact h.stage, by rw [hopx]; exact h.some, fun i hi => ?_, fun i hi hf ho => ?_, fun i hi hl => ?_, by have := h.t1; omega, by omega, by rw [hnow]; omega⟩, ?_, hnow, hlen, hal.sizes, hal.stage, hfirst, hfin, hopx, hxo⟩
  · rw [hxo]; exact h.past i (by omega)
  · rw [(hxq i).1 (opens_mem.2 ⟨by omega, by omega, by rw [← hxo]; exact ho⟩), hnow]; exact ⟨rfl, Int.le_refl _⟩
  · rw [(hxq i).2 (fun hh => by have := (opens_mem.1 hh).2.1; omega)]; exact h.new i (by omega) (by omega)
  · rw [hout, List.filter_eq_self.2 (fun i hi => by rw [hq, htr i hi]; simpa using ht)]
    unfold Rn.openL
    rw [hopx]
    refine List.map_congr_left fun i hi => ?_
    have t1 := h.t1
    rw [hq, htr i hi, IntWalk.wrap64_in _ (by omega)]
theorem en_tick_4 {r : Rn} (h : En r 4) (hb : r.now ≤ 100000) :
    ∃ x : Rn, r.tick 10 = x.adv.begin ∧ x.fin = r.fin ∧ x.l.length = r.l.length ∧ x.sizes = r.sizes ∧ x.stage = r.stage ∧ x.now = r.now + 10 ∧ (∀ i, (x.rq i).out = if i ∈ r.opens then 3 else (r.rq i).out) ∧ NextOk x (r.tick 10).1 (r.tick 10).2 := by
  have h0 := h.now0
  obtain ⟨hd, hn⟩ := en_dues h hb
  have hnd := opens_nodup r
  have hbd : ∀ no ∈ r.opens, no < (r.later 10).l.length := en_bd h
  have hal := tickAll_alike (r.later 10) r.opens
  have hrq := tickAll_rq (r.later 10) _ hnd hbd
  have hout := tickAll_out (r.later 10) _ hnd hbd
  have htk : (r.later 10).ticked = tickAll (r.later 10) r.opens := by unfold Rn.ticked; rw [hd]
  have hokx := tickAll_ok (r.later 10) r.opens (h.ok.later 10)
  generalize hx : tickAll (r.later 10) r.opens = x at *
  have hq : ∀ i, (r.later 10).rq i = r.rq i := fun i => rfl
  have htr : ∀ i ∈ r.opens, (r.rq i).tries = 4 := fun i hi => by
    obtain ⟨a, b, c⟩ := opens_mem.1 hi
    exact (h.cur i a b c).1
  have hxq : ∀ i, (i ∈ r.opens → (x.1.rq i).out = 3) ∧ (i ∉ r.opens → x.1.rq i = r.rq i) := fun i => by
    rw [hrq i]
    refine ⟨fun hi => ?_, fun hi => by rw [if_neg hi, hq]⟩
    rw [if_pos hi, hq, htr i hi, if_neg (by decide)]
  have hxo : ∀ i, (x.1.rq i).out = if i ∈ r.opens then 3 else (r.rq i).out := fun i => by
    by_cases hi : i ∈ r.opens
    · rw [(hxq i).1 hi, if_pos hi]
    · rw [(hxq i).2 hi, if_neg hi]
  have hfin : x.1.fin = r.fin := hal.fin
  have hfirst : x.1.first = r.first := hal.first
  have hlen : x.1.l.length = r.l.length := hal.len
  have hpast : ∀ i, i < x.1.fin → (x.1.rq i).out ≠ 0 := fun i hi => by
    rw [hxo]
    by_cases ho : i ∈ r.opens
    · rw [if_pos ho]; decide
    · rw [if_neg ho]
      by_cases hf : i < r.first
      · exact h.past i hf
      · exact fun e => ho (opens_mem.2 ⟨by omega, by omega, e⟩)
  have hop : x.1.opens = [] := opens_empty.2 fun i h1 h2 => hpast i h2
  have hst : x.1.stage < x.1.sizes.length := by rw [hal.stage, hal.sizes]; exact h.stage
  have haf : x.1.after = x.1.adv.begin := by
    unfold Rn.after
    rw [if_neg (by omega), if_pos hop]
  have hx2 : x.2 = [] := by
    rw [hout, List.filter_eq_nil_iff.2 (fun i hi => by rw [hq, htr i hi]; decide)]; rfl
  have hti : r.tick 10 = x.1.adv.begin := by
    rw [tick_go r 10 h.started (by decide) (by decide), htk, haf, hx2]; rfl
  have hnow : x.1.now = r.now + 10 := by rw [hal.now]; exact hn
  refine ⟨x.1, hti, hfin, hlen, hal.sizes, hal.stage, hnow, hxo, ?_⟩
  rw [hti]
  refine next_en x.1 hokx (by rw [hal.started]; exact h.started) hst hpast (fun i hi hl => ?_) (by rw [hnow]; omega) (by rw [hnow]; omega)
  rw [(hxq i).2 (fun hh => by have := (opens_mem.1 hh).2.1; omega)]
  exact h.new i (by omega) (by omega)
theorem dz_tick {r : Rn} (h : Dz r) (hb : r.now ≤ 100000) : r.tick 10 = (r.later 10, []) ∧ Dz (r.later 10) ∧ (r.later 10).now = r.now + 10 := by
  have h0 := h.now0
  have hn : (r.later 10).now = r.now + 10 := IntWalk.wrap64_in _ (by omega)
  have hst := h.stage
  have hf : r.fin = r.first := by unfold Rn.fin; rw [if_pos (by omega)]
  have hd : (r.later 10).dues = [] := by
    unfold Rn.dues Rn.those
    have : (r.later 10).fin - (r.later 10).first = 0 := by
      show r.fin - r.first = 0
      omega
    rw [this]; rfl
  have ha : (r.later 10).after = (r.later 10, []) := by
    unfold Rn.after
    rw [if_pos (show (r.later 10).sizes.length ≤ (r.later 10).stage by show r.sizes.length ≤ r.stage; omega)]
  refine ⟨?_, ⟨h.ok.later 10, h.started, h.stage, h.past, by rw [hn]; omega⟩, hn⟩
  rw [tick_go r 10 h.started (by decide) (by decide)]
  unfold Rn.ticked
  rw [hd]
  show ((r.later 10).after.1, [] ++ (r.later 10).after.2) = _
  rw [ha]; rfl
/-- What was counted. -/
def TI (r : Rn) (t : Int) (N : Nat) (T : Nat → Int) : Prop := ∀ x, x < N → ((r.rq x).out = 3 → T x = 4) ∧ (x ∈ r.opens → T x = t - 1) ∧ (r.fin ≤ x → T x = 0)
/-- What holds ahead of a round. -/
def EInv (L : List Nat) (N : Nat) (r : Rn) (X : List (Int × Int)) (T : Nat → Int) (i : Nat) : Prop :=
  r.sizes = L ∧ r.l.length = N ∧ r.now ≤ 10 * i ∧
    ((∃ t, En r t ∧ X = r.openL t ∧ (i : Int) ≤ 4 * (r.stage : Int) + (t - 1) ∧ TI r t N T) ∨ (Dz r ∧ X = [] ∧ ∀ x, x < N → (r.rq x).out = 3 → T x = 4))
theorem openL_nil {r : Rn} {t : Int} (h : En r t) : (r.openL t).length ≠ 0 := by
  unfold Rn.openL; rw [List.length_map]; intro e; exact h.some (List.length_eq_zero_iff.1 e)
/-- The next stages, behind a round. -/
theorem einv_next {L : List Nat} {N : Nat} {r x r' : Rn} {X : List (Int × Int)} {t : Int} {T : Nat → Int} {i : Nat} (h : NextOk x r' X) (hL : x.sizes = L) (hN : x.l.length = N) (hf : x.fin = r.fin) (hst : x.stage = r.stage) (hn : x.now ≤ 10 * ((i + 1 : Nat) : Int))
    (hi : (i : Int) ≤ 4 * (r.stage : Int) + (t - 1)) (ht4 : t ≤ 4) (hx : ∀ y, y < N → (x.rq y).out = 3 → (y ∈ r.opens ∧ t = 4) ∨ (y ∉ r.opens ∧ T y = 4)) (hT : ∀ y, y < N → r.fin ≤ y → T y = 0) :
    EInv L N r' X (fun y => if y ∈ r.opens then t else T y) (i + 1) := by
  obtain ⟨h1, h2, h3, h4, h5, h6, h7, h8⟩ := h
  have hno : ∀ y, r.fin ≤ y → y ∉ r.opens := fun y hy hh => by have := (opens_mem.1 hh).2.1; omega
  have hout : ∀ y, y < N → (r'.rq y).out = 3 → (if y ∈ r.opens then t else T y) = 4 := fun y hy h3 => by
    by_cases hyf : y < x.fin
    · rw [h6 y hyf] at h3
      rcases hx y hy h3 with ⟨a, b⟩ | ⟨a, b⟩
      · rw [if_pos a, b]
      · rw [if_neg a, b]
    · rw [h7 y (by omega) (by omega)] at h3; cases h3
  refine ⟨by rw [h2]; exact hL, by rw [h1]; exact hN, by rw [h3]; exact hn, ?_⟩
  rcases h8 with ⟨a, b⟩ | ⟨a, b, c⟩
  · refine .inl ⟨1, a, b, by omega, fun y hy => ⟨hout y hy, fun hyo => ?_, fun hyf => ?_⟩⟩
    · have := (opens_mem.1 hyo).1
      show (if y ∈ r.opens then t else T y) = _
      rw [if_neg (hno y (by omega)), hT y hy (by omega)]; rfl
    · have hff : r'.first ≤ r'.fin := a.ok.fin_le.1
      show (if y ∈ r.opens then t else T y) = _
      rw [if_neg (hno y (by omega)), hT y hy (by omega)]
  · exact .inr ⟨a, b, hout⟩
/-- A round: those that are not lost are answered; if nothing is sent upon that, time goes on. -/
theorem einv_round {L : List Nat} {N : Nat} {r : Rn} {t : Int} {T : Nat → Int} {i : Nat} (hL : r.sizes = L) (hN : r.l.length = N) (hn : r.now ≤ 10 * i) (h : En r t) (hi : (i : Int) ≤ 4 * (r.stage : Int) + (t - 1)) (hi2 : i ≤ 1000) (hT : TI r t N T) (lo kind : Nat → Int) (hkd : ∀ k, kind k = 1 ∨ kind k = 2) :
    if (replyAll lo kind t r r.opens).2 = [] then EInv L N ((replyAll lo kind t r r.opens).1.tick 10).1 ((replyAll lo kind t r r.opens).1.tick 10).2 (fun x => if x ∈ r.opens then t else T x) (i + 1)
    else EInv L N (replyAll lo kind t r r.opens).1 (replyAll lo kind t r r.opens).2 (fun x => if x ∈ r.opens then t else T x) (i + 1) := by
  have h0 := h.now0
  have hno3 : ∀ y, y < N → (r.rq y).out = 3 → y ∉ r.opens ∧ T y = 4 := fun y hy h3 => ⟨fun hh => (by have h4 := (opens_mem.1 hh).2.2; omega), (hT y hy).1 h3⟩
  have hT0 : ∀ y, y < N → r.fin ≤ y → T y = 0 := fun y hy hf => (hT y hy).2.2 hf
  by_cases hc : ∃ k, k ∈ r.opens ∧ t ≤ lo k
  · obtain ⟨k0, hk0, hk1⟩ := hc
    obtain ⟨a1, a2, a3, a4⟩ := replyAll_live lo kind t hkd r.opens r h.ok h.started h.stage (opens_nodup r) (fun k hk => hk) ⟨k0, hk0, .inr hk1⟩
    rw [if_pos a1]
    generalize (replyAll lo kind t r r.opens).1 = r2 at *
    have hfin : r2.fin = r.fin := a2.fin
    have hfirst : r2.first = r.first := a2.first
    have hlen : r2.l.length = r.l.length := a2.len
    have hout2 : ∀ y, (r2.rq y).out = if y ∈ r.opens ∧ lo y < t then kind y else (r.rq y).out := fun y => by
      rw [a4 y]; split <;> rfl
    have hop2 : ∀ y, y ∈ r2.opens → y ∈ r.opens ∧ t ≤ lo y := fun y hy => by
      obtain ⟨b1, b2, b3⟩ := opens_mem.1 hy
      rw [hout2] at b3
      split at b3
      · have := hkd y; omega
      · rename_i hh
        have hyo : y ∈ r.opens := opens_mem.2 ⟨by omega, by omega, b3⟩
        refine ⟨hyo, ?_⟩
        apply Classical.byContradiction
        intro hlt
        exact hh ⟨hyo, by omega⟩
    have hen : En r2 t := by
      refine ⟨a3, by rw [a2.started]; exact h.started, by rw [a2.stage, a2.sizes]; exact h.stage, fun e => ?_, fun y hy => ?_, fun y hy hf ho => ?_, fun y hy hl => ?_, h.t1, h.t4, by rw [a2.now]; exact h0⟩
      · have : k0 ∈ r2.opens := opens_mem.2 ⟨by have := (opens_mem.1 hk0).1; omega, by have := (opens_mem.1 hk0).2.1; omega, by rw [hout2, if_neg (by omega)]; exact (opens_mem.1 hk0).2.2⟩
        rw [e] at this; cases this
      · rw [hout2, if_neg (fun hh => by have := (opens_mem.1 hh.1).1; omega)]; exact h.past y (by omega)
      · have hyo := hop2 y (opens_mem.2 ⟨hy, hf, ho⟩)
        rw [a4 y, if_neg (by omega), a2.now]
        exact h.cur y (by omega) (by omega) (opens_mem.1 hyo.1).2.2
      · rw [a4 y, if_neg (fun hh => by have := (opens_mem.1 hh.1).2.1; omega)]
        exact h.new y (by omega) (by omega)
    have hx3 : ∀ y, y < N → (r2.rq y).out = 3 → y ∉ r.opens ∧ T y = 4 := fun y hy h3 => by
      rw [hout2] at h3
      split at h3
      · have := hkd y; omega
      · exact hno3 y hy h3
    have hnow2 : r2.now = r.now := a2.now
    by_cases ht : t < 4
    · obtain ⟨b1, b2, b3, b4, b5, b6, b7, b8, b9, b10⟩ := en_tick_lt hen ht (by omega)
      refine ⟨by rw [b5, a2.sizes]; exact hL, by rw [b4]; omega, by rw [b3]; omega, .inl ⟨t + 1, b1, b2, by rw [b6, a2.stage]; omega, fun y hy => ⟨fun h3 => ?_, fun hyo => ?_, fun hyf => ?_⟩⟩⟩
      · rw [b10] at h3
        obtain ⟨c1, c2⟩ := hx3 y hy h3
        show (if y ∈ r.opens then t else T y) = 4
        rw [if_neg c1, c2]
      · rw [b9] at hyo
        show (if y ∈ r.opens then t else T y) = _
        rw [if_pos (hop2 y hyo).1]; omega
      · rw [b8, hfin] at hyf
        show (if y ∈ r.opens then t else T y) = _
        rw [if_neg (fun hh => by have := (opens_mem.1 hh).2.1; omega), hT0 y hy hyf]
    · have h4 : t = 4 := by have := h.t4; omega
      subst h4
      obtain ⟨x, c1, c2, c3, c4, c5, c6, c7, c8⟩ := en_tick_4 hen (by omega)
      refine einv_next (r := r) (x := x) c8 (by rw [c4, a2.sizes]; exact hL) (by omega) (by omega) (by rw [c5, a2.stage]) (by rw [c6]; omega) hi (by decide) (fun y hy h3 => ?_) hT0
      rw [c7] at h3
      split at h3
      · rename_i hh; exact .inl ⟨(hop2 y hh).1, rfl⟩
      · exact .inr (hx3 y hy h3)
  · have hall : ∀ k, k ∈ r.opens → k ∈ r.opens ∧ lo k < t := fun k hk => ⟨hk, by
      apply Classical.byContradiction
      intro hh
      exact hc ⟨k, hk, by omega⟩⟩
    obtain ⟨x, b1, b2, b3, b4⟩ := replyAll_trig lo kind t hkd r.opens r h.ok h.started h.stage h.some (opens_nodup r) (fun k hk => hk) hall
    have hxo : ∀ y, (x.rq y).out = if y ∈ r.opens then kind y else (r.rq y).out := fun y => by rw [b4 y]; split <;> rfl
    have hfin : x.fin = r.fin := b2.fin
    have hlen : x.l.length = r.l.length := b2.len
    have hnx := next_en x b3 (by rw [b2.started]; exact h.started) (by rw [b2.stage, b2.sizes]; exact h.stage) (fun y hy => by
      rw [hxo]
      by_cases ho : y ∈ r.opens
      · rw [if_pos ho]; have := hkd y; omega
      · rw [if_neg ho]
        by_cases hf : y < r.first
        · exact h.past y hf
        · exact fun e => ho (opens_mem.2 ⟨by omega, by omega, e⟩)) (fun y hy hl => by
      rw [b4 y, if_neg (fun hh => by have := (opens_mem.1 hh).2.1; omega)]; exact h.new y (by omega) (by omega)) (by rw [b2.now]; exact h0) (by rw [b2.now]; omega)
    rw [b1]
    have hnow : x.now = r.now := b2.now
    have hE := einv_next (L := L) (N := N) (r := r) (x := x) (t := t) (T := T) (i := i) hnx (by rw [b2.sizes]; exact hL) (by omega) hfin b2.stage (by rw [hnow]; omega) hi h.t4 (fun y hy h3 => by
      rw [hxo] at h3
      split at h3
      · have := hkd y; omega
      · exact .inr (hno3 y hy h3)) hT0
    split
    · rename_i he
      obtain ⟨e1, e2, e3, e4⟩ := hE
      rcases e4 with ⟨t', f1, f2, _⟩ | ⟨f1, f2, f3⟩
      · rw [he] at f2
        have := openL_nil f1
        rw [← f2] at this; exact absurd rfl this
      · have hn' : x.adv.begin.1.now = x.now := hnx.2.2.1
        obtain ⟨g1, g2, g3⟩ := dz_tick f1 (by rw [hn', hnow]; omega)
        rw [g1]
        exact ⟨e1, e2, by show (Rn.later _ 10).now ≤ _; rw [g3, hn', hnow]; omega, .inr ⟨g2, rfl, f3⟩⟩
    · exact hE
end Go.Proofs.Ytpogiondpbfjkaa
