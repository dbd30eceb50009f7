/- What is sent, request by request. -/
import Derived.Test.YtpogiondpbfjkaaTick
namespace Go.Proofs.Ytpogiondpbfjkaa
open Go.RowKit Go.Conc
/-- One that is sent once more. -/
def Rn.next1 (r : Rn) (q : Rq) : Rq := ⟨wrap64 (q.tries + 1), wrap64 (r.now + 10), q.out⟩
theorem sent_rq (r : Rn) (no i : Nat) (h : no < r.l.length) : (r.sent no).rq i = if i = no then r.next1 (r.rq no) else r.rq i := put_rq r no i _ h
theorem lose_rq (r : Rn) (no i : Nat) (h : no < r.l.length) : (r.lose no).rq i = if i = no then ⟨(r.rq no).tries, (r.rq no).due, 3⟩ else r.rq i := put_rq r no i _ h
/-- But for its requests a runner is as it was. -/
structure Alike (r r' : Rn) : Prop where
  len : r'.l.length = r.l.length
  sizes : r'.sizes = r.sizes
  stage : r'.stage = r.stage
  first : r'.first = r.first
  started : r'.started = r.started
  now : r'.now = r.now
theorem Alike.refl (r : Rn) : Alike r r := ⟨rfl, rfl, rfl, rfl, rfl, rfl⟩
theorem Alike.trans {a b c : Rn} (h : Alike a b) (k : Alike b c) : Alike a c := ⟨k.len.trans h.len, k.sizes.trans h.sizes, k.stage.trans h.stage, k.first.trans h.first, k.started.trans h.started, k.now.trans h.now⟩
theorem Alike.fin {r r' : Rn} (h : Alike r r') : r'.fin = r.fin := by unfold Rn.fin; rw [h.sizes, h.stage, h.first]
theorem Alike.put (r : Rn) (i : Nat) (q : Rq) : Alike r (r.put i q) := ⟨by simp [Rn.put], rfl, rfl, rfl, rfl, rfl⟩
theorem sendAll_alike (r : Rn) (L : List Nat) : Alike r (sendAll r L).1 := by
  induction L generalizing r with
  | nil => exact Alike.refl r
  | cons a t ih => exact (Alike.put r a _).trans (ih _)
theorem tickAll_alike (r : Rn) (L : List Nat) : Alike r (tickAll r L).1 := by
  induction L generalizing r with
  | nil => exact Alike.refl r
  | cons a t ih =>
    unfold tickAll
    split
    · exact (Alike.put r a _).trans (ih _)
    · exact (Alike.put r a _).trans (ih _)
theorem sendAll_rq (r : Rn) (L : List Nat) (hd : L.Nodup) (hb : ∀ no ∈ L, no < r.l.length) (i : Nat) : (sendAll r L).1.rq i = if i ∈ L then r.next1 (r.rq i) else r.rq i := by
  induction L generalizing r with
  | nil => rfl
  | cons a t ih =>
    obtain ⟨h1, h2⟩ := List.nodup_cons.1 hd
    have ha := hb a (by simp)
    show (sendAll (r.sent a) t).1.rq i = _
    rw [ih (r.sent a) h2 (fun no hn => by rw [Rn.sent_len]; exact hb no (by simp [hn])), sent_rq r a i ha]
    by_cases hi : i = a
    · subst hi; rw [if_neg h1, if_pos rfl, if_pos (by simp)]
    · rw [if_neg hi]
      by_cases ht : i ∈ t
      · rw [if_pos ht, if_pos (show i ∈ a :: t from List.mem_cons_of_mem _ ht)]; rfl
      · rw [if_neg ht, if_neg (show ¬ i ∈ a :: t by simp [hi, ht])]
theorem sendAll_out (r : Rn) (L : List Nat) (hd : L.Nodup) (hb : ∀ no ∈ L, no < r.l.length) : (sendAll r L).2 = L.map fun (no : Nat) => ((no : Int), wrap64 ((r.rq no).tries + 1)) := by
  induction L generalizing r with
  | nil => rfl
  | cons a t ih =>
    obtain ⟨h1, h2⟩ := List.nodup_cons.1 hd
    have ha := hb a (by simp)
    show _ :: (sendAll (r.sent a) t).2 = _
    rw [ih (r.sent a) h2 (fun no hn => by rw [Rn.sent_len]; exact hb no (by simp [hn])), List.map_cons]
    congr 1
    refine List.map_congr_left fun no hn => ?_
    rw [sent_rq r a no ha, if_neg (show ¬ no = a from fun e => h1 (e ▸ hn))]
theorem tickAll_rq (r : Rn) (L : List Nat) (hd : L.Nodup) (hb : ∀ no ∈ L, no < r.l.length) (i : Nat) :
    (tickAll r L).1.rq i = if i ∈ L then (if (r.rq i).tries < 4 then r.next1 (r.rq i) else ⟨(r.rq i).tries, (r.rq i).due, 3⟩) else r.rq i := by
  induction L generalizing r with
  | nil => rfl
  | cons a t ih =>
    obtain ⟨h1, h2⟩ := List.nodup_cons.1 hd
    have ha := hb a (by simp)
    unfold tickAll
    split
    · rename_i h4
      show (tickAll (r.sent a) t).1.rq i = _
      rw [ih (r.sent a) h2 (fun no hn => by rw [Rn.sent_len]; exact hb no (by simp [hn])), sent_rq r a i ha]
      by_cases hi : i = a
      · subst hi; rw [if_neg h1, if_pos rfl, if_pos (show i ∈ i :: t by simp), if_pos h4]
      · rw [if_neg hi]
        by_cases ht : i ∈ t
        · rw [if_pos ht, if_pos (show i ∈ a :: t from List.mem_cons_of_mem _ ht)]; rfl
        · rw [if_neg ht, if_neg (show ¬ i ∈ a :: t by simp [hi, ht])]
    · rename_i h4
      rw [ih (r.lose a) h2 (fun no hn => by rw [Rn.lose_len]; exact hb no (by simp [hn])), lose_rq r a i ha]
      by_cases hi : i = a
      · subst hi; rw [if_neg h1, if_pos rfl, if_pos (show i ∈ i :: t by simp), if_neg h4]
      · rw [if_neg hi]
        by_cases ht : i ∈ t
        · rw [if_pos ht, if_pos (show i ∈ a :: t from List.mem_cons_of_mem _ ht)]; rfl
        · rw [if_neg ht, if_neg (show ¬ i ∈ a :: t by simp [hi, ht])]
theorem tickAll_out (r : Rn) (L : List Nat) (hd : L.Nodup) (hb : ∀ no ∈ L, no < r.l.length) :
    (tickAll r L).2 = (L.filter fun no => decide ((r.rq no).tries < 4)).map fun (no : Nat) => ((no : Int), wrap64 ((r.rq no).tries + 1)) := by
  induction L generalizing r with
  | nil => rfl
  | cons a t ih =>
    obtain ⟨h1, h2⟩ := List.nodup_cons.1 hd
    have ha := hb a (by simp)
    unfold tickAll
    split
    · rename_i h4
      rw [List.filter_cons, if_pos (by simpa using h4), List.map_cons]
      show _ :: (tickAll (r.sent a) t).2 = _
      rw [ih (r.sent a) h2 (fun no hn => by rw [Rn.sent_len]; exact hb no (by simp [hn]))]
      have hq : ∀ no ∈ t, (r.sent a).rq no = r.rq no := fun no hn => by rw [sent_rq r a no ha, if_neg (show ¬ no = a from fun e => h1 (e ▸ hn))]
      rw [List.filter_congr (fun no hn => by rw [hq no hn])]
      congr 1
      refine List.map_congr_left fun no hn => ?_
      rw [hq no (List.mem_filter.1 hn).1]
    · rename_i h4
      rw [List.filter_cons, if_neg (by simpa using h4)]
      rw [ih (r.lose a) h2 (fun no hn => by rw [Rn.lose_len]; exact hb no (by simp [hn]))]
      have hq : ∀ no ∈ t, (r.lose a).rq no = r.rq no := fun no hn => by rw [lose_rq r a no ha, if_neg (show ¬ no = a from fun e => h1 (e ▸ hn))]
      rw [List.filter_congr (fun no hn => by rw [hq no hn])]
      refine List.map_congr_left fun no hn => ?_
      rw [hq no (List.mem_filter.1 hn).1]
theorem those_mem {r : Rn} {so : Rq → Bool} {a i : Nat} : i ∈ r.those so a ↔ a ≤ i ∧ i < r.fin ∧ so (r.rq i) = true := by
  unfold Rn.those
  rw [List.mem_filter, List.mem_range'_1]
  constructor
  · rintro ⟨⟨h1, h2⟩, h3⟩; exact ⟨h1, by omega, h3⟩
  · rintro ⟨h1, h2, h3⟩; exact ⟨⟨h1, by omega⟩, h3⟩
theorem those_nodup (r : Rn) (so : Rq → Bool) (a : Nat) : (r.those so a).Nodup := (List.nodup_range' (s := a) (n := r.fin - a)).filter _
theorem those_full {r : Rn} {so : Rq → Bool} {a : Nat} (h : ∀ i, a ≤ i → i < r.fin → so (r.rq i) = true) : r.those so a = List.range' a (r.fin - a) := by
  unfold Rn.those
  rw [List.filter_eq_self]
  intro i hi
  rw [List.mem_range'_1] at hi
  exact h i hi.1 (by omega)
theorem those_empty {r : Rn} {so : Rq → Bool} {a : Nat} : r.those so a = [] ↔ ∀ i, a ≤ i → i < r.fin → so (r.rq i) = false := by
  constructor
  · intro h i h1 h2
    rcases hs : so (r.rq i) with _ | _
    · rfl
    · have := those_mem.2 ⟨h1, h2, hs⟩
      rw [h] at this; cases this
  · intro h
    rw [List.eq_nil_iff_forall_not_mem]
    intro i hi
    obtain ⟨h1, h2, h3⟩ := those_mem.1 hi
    rw [h i h1 h2] at h3; cases h3
theorem opens_empty {r : Rn} : r.opens = [] ↔ ∀ i, r.first ≤ i → i < r.fin → (r.rq i).out ≠ 0 := by
  unfold Rn.opens
  rw [those_empty]
  simp
/-- All of the stage that is under way, sent so often. -/
def Rn.stageL (r : Rn) (t : Int) : List (Int × Int) := (List.range' r.first (r.fin - r.first)).map fun (i : Nat) => ((i : Int), t)
theorem wrap_one : wrap64 ((0 : Int) + 1) = 1 := by rw [IntWalk.wrap64_in _ (by omega)]; rfl
/-- A runner whose coming stages are untouched begins. -/
theorem begin_fresh (f : Nat) (r : Rn) (hf : f = r.sizes.length - r.stage) (hok : r.Ok) (hnew : ∀ i, r.first ≤ i → i < r.l.length → r.rq i = ⟨0, 0, 0⟩) :
    ∃ r' : Rn, (beginF f r).1 = r' ∧ r'.Ok ∧ r'.l.length = r.l.length ∧ r'.sizes = r.sizes ∧ r'.started = r.started ∧ r'.now = r.now ∧ r'.first = r.first ∧ r.stage ≤ r'.stage ∧
      ((r'.stage < r'.sizes.length ∧ r'.first < r'.fin ∧ (beginF f r).2 = r'.stageL 1 ∧ ∀ i, r'.rq i = if r'.first ≤ i ∧ i < r'.fin then ⟨1, wrap64 (r.now + 10), 0⟩ else r.rq i) ∨
       (r'.stage = r'.sizes.length ∧ r'.first = r'.l.length ∧ (beginF f r).2 = [] ∧ ∀ i, r'.rq i = r.rq i)) := by
  induction f generalizing r with
  | zero =>
    have h1 := hok.stage
    have h2 : r.stage = r.sizes.length := by omega
    refine ⟨r, rfl, hok, rfl, rfl, rfl, rfl, rfl, Nat.le_refl _, .inr ⟨h2, ?_, rfl, fun _ => rfl⟩⟩
    rw [hok.first, h2, List.take_length, hok.all]
  | succ f ih =>
    have hlt : r.stage < r.sizes.length := by omega
    have hfl := hok.fin_le
    by_cases he : r.first < r.fin
    · have hop : r.opens = List.range' r.first (r.fin - r.first) := those_full fun i h1 h2 => by rw [hnew i h1 (by omega)]; rfl
      have hne : r.opens ≠ [] := by rw [hop]; intro h; have := congrArg List.length h; simp at this; omega
      have hb : beginF (f + 1) r = sendAll r r.opens := by rw [beginF, if_neg hne]
      have hal := sendAll_alike r r.opens
      have hnd : r.opens.Nodup := those_nodup _ _ _
      have hbd : ∀ no ∈ r.opens, no < r.l.length := those_bd _ hok
      refine ⟨_, by rw [hb], sendAll_ok _ _ hok, hal.len, hal.sizes, hal.started, hal.now, hal.first, Nat.le_of_eq hal.stage.symm, .inl ⟨by rw [hal.stage, hal.sizes]; exact hlt, by rw [hal.fin, hal.first]; exact he, ?_, fun i => ?_⟩⟩
      · rw [hb, sendAll_out r _ hnd hbd]
        unfold Rn.stageL
        rw [hal.fin, hal.first, hop]
        refine List.map_congr_left fun no hn => ?_
        rw [List.mem_range'_1] at hn
        rw [hnew no hn.1 (by omega)]
        show ((no : Int), wrap64 ((0 : Int) + 1)) = _
        rw [wrap_one]
      · rw [sendAll_rq r _ hnd hbd, hal.fin, hal.first, hop]
        by_cases hi : r.first ≤ i ∧ i < r.fin
        · rw [if_pos (by rw [List.mem_range'_1]; omega), if_pos hi, hnew i hi.1 (by omega)]
          show Rq.mk (wrap64 ((0 : Int) + 1)) _ _ = _
          rw [wrap_one]
        · rw [if_neg (by rw [List.mem_range'_1]; omega), if_neg hi]
    · have hef : r.fin = r.first := by omega
      have hop : r.opens = [] := opens_empty.2 fun i h1 h2 => by omega
      have hb : beginF (f + 1) r = beginF f r.adv := by rw [beginF, if_pos hop]
      obtain ⟨r', h1, h2, h3, h4, h5, h6, h7, h8, h9⟩ := ih r.adv (by simp [Rn.adv]; omega) (hok.adv hlt) (fun i hi hl => by
        have hi : r.first ≤ i := by rw [← hef]; exact hi
        exact hnew i hi hl)
      rw [hb]
      exact ⟨r', h1, h2, h3, h4, h5, h6, by rw [h7]; exact hef, by have : r.adv.stage = r.stage + 1 := rfl; omega, h9⟩
end Go.Proofs.Ytpogiondpbfjkaa
