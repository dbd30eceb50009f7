/- A runner whose requests are answered, or lost: what a round does. -/
import Derived.Test.YtpogiondpbfjkaaAli
import Derived.Test.YtpogiondpbfjkaaTm
namespace Go.Proofs.Ytpogiondpbfjkaa
open Go.RowKit Go.Conc
/-- Those that are open, sent so often. -/
def Rn.openL (r : Rn) (t : Int) : List (Int × Int) := r.opens.map fun (i : Nat) => ((i : Int), t)
theorem opens_mem {r : Rn} {i : Nat} : i ∈ r.opens ↔ r.first ≤ i ∧ i < r.fin ∧ (r.rq i).out = 0 := by
  unfold Rn.opens; rw [those_mem]; simp
/-- A stage is under way: those of it that are open were sent so often; those ahead of it are settled, those behind it untouched. -/
structure En (r : Rn) (t : Int) : Prop where
  ok : r.Ok
  started : r.started = true
  stage : r.stage < r.sizes.length
  some : r.opens ≠ []
  past : ∀ i, i < r.first → (r.rq i).out ≠ 0
  cur : ∀ i, r.first ≤ i → i < r.fin → (r.rq i).out = 0 → (r.rq i).tries = t ∧ (r.rq i).due ≤ r.now + 10
  new : ∀ i, r.fin ≤ i → i < r.l.length → r.rq i = ⟨0, 0, 0⟩
  t1 : 1 ≤ t
  t4 : t ≤ 4
  now0 : 0 ≤ r.now
/-- All are settled. -/
structure Dz (r : Rn) : Prop where
  ok : r.Ok
  started : r.started = true
  stage : r.stage = r.sizes.length
  past : ∀ i, i < r.l.length → (r.rq i).out ≠ 0
  now0 : 0 ≤ r.now
/-- What the next stages give: a stage under way, or all settled. -/
def NextOk (r r' : Rn) (X : List (Int × Int)) : Prop :=
  r'.l.length = r.l.length ∧ r'.sizes = r.sizes ∧ r'.now = r.now ∧ r'.first = r.fin ∧ r.stage + 1 ≤ r'.stage ∧ (∀ i, i < r.fin → r'.rq i = r.rq i) ∧ (∀ i, r.fin ≤ i → i < r.l.length → (r'.rq i).out = 0) ∧
    ((En r' 1 ∧ X = r'.openL 1) ∨ (Dz r' ∧ X = [] ∧ r.fin = r.l.length))
theorem next_en (r : Rn) (hok : r.Ok) (hs : r.started = true) (hst : r.stage < r.sizes.length) (hpast : ∀ i, i < r.fin → (r.rq i).out ≠ 0) (hnew : ∀ i, r.fin ≤ i → i < r.l.length → r.rq i = ⟨0, 0, 0⟩) (h0 : 0 ≤ r.now) (hb : r.now ≤ 1000000) :
    NextOk r r.adv.begin.1 r.adv.begin.2 := by
  have ef : r.adv.first = r.fin := rfl
  obtain ⟨r', h1, h2, h3, h4, h5, h6, h7, h8, h9⟩ := begin_fresh _ r.adv rfl (hok.adv hst) (fun i hi hl => hnew i hi hl)
  have hw : wrap64 (r.adv.now + 10) = r.now + 10 := IntWalk.wrap64_in _ (by show _ ≤ r.now + 10 ∧ r.now + 10 ≤ _; omega)
  have hr : r.adv.begin.1 = r' := h1
  rw [hr]
  refine ⟨h3, h4, h6, h7, h8, ?_, ?_, ?_⟩
  · intro i hi
    rcases h9 with ⟨a1, a2, a3, a4⟩ | ⟨a1, a2, a3, a4⟩
    · rw [a4 i, if_neg (by omega)]; rfl
    · rw [a4 i]; rfl
  · intro i hi hl
    rcases h9 with ⟨a1, a2, a3, a4⟩ | ⟨a1, a2, a3, a4⟩
    · rw [a4 i]
      split
      · rfl
      · show (r.rq i).out = 0
        rw [hnew i hi hl]
    · rw [a4 i]
      show (r.rq i).out = 0
      rw [hnew i hi hl]
  · rcases h9 with ⟨a1, a2, a3, a4⟩ | ⟨a1, a2, a3, a4⟩
    · have hcur : ∀ i, r'.first ≤ i → i < r'.fin → r'.rq i = ⟨1, r.now + 10, 0⟩ := fun i hi hf => by rw [a4 i, if_pos ⟨hi, hf⟩, hw]
      have hop : r'.opens = List.range' r'.first (r'.fin - r'.first) := those_full fun i hi hf => by rw [hcur i hi hf]; rfl
      refine .inl ⟨⟨h2, by rw [h5]; exact hs, a1, fun e => ?_, fun i hi => ?_, fun i hi hf _ => ?_, fun i hi hl => ?_, by decide, by decide, by rw [h6]; exact h0⟩, ?_⟩
      · rw [hop] at e
        have := congrArg List.length e
        simp at this; omega
      · rw [a4 i, if_neg (by omega)]; exact hpast i (by omega)
      · rw [hcur i hi hf, h6]; exact ⟨rfl, Int.le_refl _⟩
      · rw [a4 i, if_neg (by omega)]
        exact hnew i (by have : r'.first ≤ r'.fin := by omega
                         omega) (by have : r.adv.l.length = r.l.length := rfl; omega)
      · rw [show (beginF (r.adv.sizes.length - r.adv.stage) r.adv).2 = r.adv.begin.2 from rfl] at a3
        rw [a3]; unfold Rn.stageL Rn.openL; rw [hop]
    · refine .inr ⟨⟨h2, by rw [h5]; exact hs, a1, fun i hi => ?_, by rw [h6]; exact h0⟩, a3, ?_⟩
      · rw [a4 i]
        exact hpast i (by omega)
      · have : r'.l.length = r.l.length := h3
        omega
/-- The answers to these, one by one. -/
def replyAll (lo kind : Nat → Int) (t : Int) (r : Rn) : List Nat → Rn × List (Int × Int)
  | [] => (r, [])
  | k :: rest => if t ≤ lo k then replyAll lo kind t r rest else ((replyAll lo kind t (r.reply k (kind k)).1 rest).1, (r.reply k (kind k)).2 ++ (replyAll lo kind t (r.reply k (kind k)).1 rest).2)
/-- One is answered. -/
def Rn.answered (r : Rn) (k : Nat) (kd : Int) : Rn := r.put k ⟨(r.rq k).tries, (r.rq k).due, kd⟩
theorem reply_go {r : Rn} {k : Nat} {kd : Int} (hs : r.started = true) (hk : k ∈ r.opens) (hkd : kd = 1 ∨ kd = 2) : r.reply k kd = (r.answered k kd).after := by
  obtain ⟨h1, h2, h3⟩ := opens_mem.1 hk
  unfold Rn.reply
  rw [if_pos ⟨hs, by omega, by omega, by rw [Int.toNat_natCast]; exact h3, hkd⟩, Int.toNat_natCast]; rfl
theorem answered_rq {r : Rn} {k : Nat} {kd : Int} (hk : k < r.l.length) (i : Nat) : (r.answered k kd).rq i = if i = k then ⟨(r.rq k).tries, (r.rq k).due, kd⟩ else r.rq i := put_rq r k i _ hk
theorem answered_opens {r : Rn} {k : Nat} {kd : Int} (hk : k < r.l.length) (hkd : kd = 1 ∨ kd = 2) (i : Nat) : i ∈ (r.answered k kd).opens ↔ i ∈ r.opens ∧ i ≠ k := by
  have hal : Alike r (r.answered k kd) := Alike.put r k _
  rw [opens_mem, opens_mem, hal.fin, hal.first, answered_rq hk]
  by_cases h : i = k
  · subst h; rw [if_pos rfl]
    constructor
    · rintro ⟨_, _, h3⟩; simp only at h3; omega
    · rintro ⟨_, h⟩; exact absurd rfl h
  · rw [if_neg h]; simp [h]
/-- What the answers leave while one stays open. -/
theorem replyAll_live (lo kind : Nat → Int) (t : Int) (hkd : ∀ k, kind k = 1 ∨ kind k = 2) (rest : List Nat) (r : Rn) (hok : r.Ok) (hs : r.started = true) (hst : r.stage < r.sizes.length) (hnd : rest.Nodup) (hsub : ∀ k ∈ rest, k ∈ r.opens)
    (hleft : ∃ i, i ∈ r.opens ∧ (i ∉ rest ∨ t ≤ lo i)) :
    (replyAll lo kind t r rest).2 = [] ∧ Alike r (replyAll lo kind t r rest).1 ∧ (replyAll lo kind t r rest).1.Ok ∧ ∀ i, (replyAll lo kind t r rest).1.rq i = if i ∈ rest ∧ lo i < t then ⟨(r.rq i).tries, (r.rq i).due, kind i⟩ else r.rq i := by
  induction rest generalizing r with
  | nil => exact ⟨rfl, Alike.refl r, hok, fun i => by simp [replyAll]⟩
  | cons k rest ih =>
    obtain ⟨hk1, hk2⟩ := List.nodup_cons.1 hnd
    have hko := hsub k (by simp)
    have hkl : k < r.l.length := by have := (opens_mem.1 hko).2.1; have := hok.fin_le; omega
    unfold replyAll
    by_cases hlo : t ≤ lo k
    · rw [if_pos hlo]
      obtain ⟨a1, a2, a3, a4⟩ := ih r hok hs hst hk2 (fun x hx => hsub x (by simp [hx])) ⟨k, hko, .inl hk1⟩
      refine ⟨a1, a2, a3, fun i => ?_⟩
      rw [a4 i]
      by_cases hik : i = k
      · subst hik
        rw [if_neg (by simp [hk1]), if_neg (by omega)]
      · have : (i ∈ k :: rest) ↔ i ∈ rest := by simp [hik]
        simp only [this]
    · rw [if_neg hlo]
      obtain ⟨i0, hi0, hi1⟩ := hleft
      have hne : i0 ≠ k := fun e => by
        subst e
        rcases hi1 with h | h
        · exact h (by simp)
        · exact hlo h
      have hal : Alike r (r.answered k (kind k)) := Alike.put r k _
      have hop : (r.answered k (kind k)).opens ≠ [] := fun e => by
        have := (answered_opens hkl (hkd k) i0).2 ⟨hi0, hne⟩
        rw [e] at this; cases this
      have hrep : r.reply k (kind k) = (r.answered k (kind k), []) := by
        rw [reply_go hs hko (hkd k)]
        unfold Rn.after
        rw [if_neg (by rw [hal.sizes, hal.stage]; omega), if_neg hop]
      rw [hrep]
      obtain ⟨a1, a2, a3, a4⟩ := ih (r.answered k (kind k)) (hok.put _ _) (by rw [hal.started]; exact hs) (by rw [hal.stage, hal.sizes]; exact hst) hk2
        (fun x hx => (answered_opens hkl (hkd k) x).2 ⟨hsub x (by simp [hx]), fun e => hk1 (e ▸ hx)⟩)
        ⟨i0, (answered_opens hkl (hkd k) i0).2 ⟨hi0, hne⟩, by
          rcases hi1 with h | h
          · exact .inl (fun hh => h (by simp [hh]))
          · exact .inr h⟩
      refine ⟨by simpa using a1, hal.trans a2, a3, fun i => ?_⟩
      rw [a4 i, answered_rq hkl]
      by_cases hik : i = k
      · subst hik
        rw [if_neg (by simp [hk1]), if_pos rfl, if_pos ⟨by simp, by omega⟩]
      · have : (i ∈ k :: rest) ↔ i ∈ rest := by simp [hik]
        rw [if_neg hik]
        simp only [this]
/-- What they leave when all are answered. -/
theorem replyAll_trig (lo kind : Nat → Int) (t : Int) (hkd : ∀ k, kind k = 1 ∨ kind k = 2) (rest : List Nat) (r : Rn) (hok : r.Ok) (hs : r.started = true) (hst : r.stage < r.sizes.length) (hne : rest ≠ []) (hnd : rest.Nodup) (hsub : ∀ k ∈ rest, k ∈ r.opens)
    (hall : ∀ i, i ∈ r.opens → i ∈ rest ∧ lo i < t) :
    ∃ x : Rn, replyAll lo kind t r rest = x.adv.begin ∧ Alike r x ∧ x.Ok ∧ ∀ i, x.rq i = if i ∈ rest then ⟨(r.rq i).tries, (r.rq i).due, kind i⟩ else r.rq i := by
  induction rest generalizing r with
  | nil => exact absurd rfl hne
  | cons k rest ih =>
    obtain ⟨hk1, hk2⟩ := List.nodup_cons.1 hnd
    have hko := hsub k (by simp)
    have hkl : k < r.l.length := by have := (opens_mem.1 hko).2.1; have := hok.fin_le; omega
    have hlo : ¬ t ≤ lo k := by have := (hall k hko).2; omega
    have hal : Alike r (r.answered k (kind k)) := Alike.put r k _
    unfold replyAll
    rw [if_neg hlo]
    rcases rest with _ | ⟨k2, rest⟩
    · have hop : (r.answered k (kind k)).opens = [] := by
        rw [List.eq_nil_iff_forall_not_mem]
        intro i hi
        obtain ⟨h1, h2⟩ := (answered_opens hkl (hkd k) i).1 hi
        have := (hall i h1).1
        simp at this; exact h2 this
      have hrep : r.reply k (kind k) = (r.answered k (kind k)).adv.begin := by
        rw [reply_go hs hko (hkd k)]
        unfold Rn.after
        rw [if_neg (by rw [hal.sizes, hal.stage]; omega), if_pos hop]
      refine ⟨r.answered k (kind k), by rw [hrep]; simp [replyAll], hal, hok.put _ _, fun i => ?_⟩
      rw [answered_rq hkl]
      by_cases hik : i = k
      · subst hik; simp
      · simp [hik]
    · have hk2o := hsub k2 (by simp)
      have hne2 : k2 ≠ k := fun e => hk1 (by simp [e])
      have hop : (r.answered k (kind k)).opens ≠ [] := fun e => by
        have := (answered_opens hkl (hkd k) k2).2 ⟨hk2o, hne2⟩
        rw [e] at this; cases this
      have hrep : r.reply k (kind k) = (r.answered k (kind k), []) := by
        rw [reply_go hs hko (hkd k)]
        unfold Rn.after
        rw [if_neg (by rw [hal.sizes, hal.stage]; omega), if_neg hop]
      rw [hrep]
      obtain ⟨x, h1, h2, h3, h4⟩ := ih (r.answered k (kind k)) (hok.put _ _) (by rw [hal.started]; exact hs) (by rw [hal.stage, hal.sizes]; exact hst) (by simp) hk2
        (fun x hx => (answered_opens hkl (hkd k) x).2 ⟨hsub x (List.mem_cons_of_mem _ hx), fun e => hk1 (e ▸ hx)⟩)
        (fun i hi => by
          obtain ⟨g1, g2⟩ := (answered_opens hkl (hkd k) i).1 hi
          obtain ⟨g3, g4⟩ := hall i g1
          refine ⟨?_, g4⟩
          rcases List.mem_cons.1 g3 with h | h
          · exact absurd h g2
          · exact h)
      refine ⟨x, by rw [h1]; simp, hal.trans h2, h3, fun i => ?_⟩
      rw [h4 i, answered_rq hkl]
      by_cases hik : i = k
      · subst hik
        rw [if_neg hk1, if_pos rfl, if_pos (by simp)]
      · have : (i ∈ k :: k2 :: rest) ↔ i ∈ k2 :: rest := by simp [hik]
        rw [if_neg hik]
        simp only [this]
end Go.Proofs.Ytpogiondpbfjkaa
