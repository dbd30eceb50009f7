/- Scan: the records at the beginning of bytes. -/
import Derived.Test.YthdeecnppmheoaaLast
namespace Go.Proofs.Ythdeecnppmheoaa
open Go.RowKit
/-- A record: Seq, Kind, data. -/
abbrev Rec := Int × Int × List Int
/-- Does the walk over the records stop here? -/
def stopF (q : Int) (was : Option Int) : Bool := q == 0 || (match was with | none => false | some p => q != (p + 1) % 4294967296)
/-- The records, and how many blocks they have. -/
def scanF : Nat → List Int → Option Int → List Rec × Nat
  | 0, _, _ => ([], 0)
  | f + 1, l, was => match recAt l with
    | none => ([], 0)
    | some ((q, k, d), K) => if stopF q was then ([], 0) else ((q, k, d) :: (scanF f (l.drop (64 * K)) (some q)).1, K + (scanF f (l.drop (64 * K)) (some q)).2)
def scanA (l : List Int) : List Rec × Nat := scanF (l.length + 1) l none
def wasOf (gs : List Rec) : Option Int := gs.getLast?.map (·.1)
/-- A record's three cells in a row. -/
def RecIn (a : Nat) (w : World) (xs : List Value) (i : Nat) (r : Rec) : Prop :=
  ∃ D c, xs[3 * i]? = some (.int .u32 r.1) ∧ xs[3 * i + 1]? = some (.int .u8 r.2.1) ∧ xs[3 * i + 2]? = some (.slice D r.2.2.length c) ∧ Fresh8 a w D r.2.2
def RecVals (a : Nat) (w : World) (xs : List Value) (gs : List Rec) : Prop := ∀ i r, gs[i]? = some r → RecIn a w xs i r
/-- A row of records of our own. -/
def Recs (a : Nat) (w : World) (v : Value) (gs : List Rec) : Prop := ∃ xs, w.ownsRow a 34 3 v gs.length xs ∧ RecVals a w xs gs
theorem Recs.nil (a : Nat) (w : World) : Recs a w (.slice none 0 0) [] := ⟨[], ⟨rfl, .inl ⟨rfl, rfl⟩⟩, fun i r h => by simp at h⟩
theorem RecVals.keep {a : Nat} {X y : World} {xs : List Value} {gs : List Rec} (h : RecVals a X xs gs) (hb : Below X.heap.size X y) : RecVals a y xs gs := fun i r hr => by
  obtain ⟨D, c, h0, h1, h2, h3⟩ := h i r hr
  exact ⟨D, c, h0, h1, h2, h3.keep hb⟩
theorem owns_keep {a : Nat} {X y : World} {e s n : Nat} {v : Value} {xs : List Value} (h : X.ownsRow a e s v n xs) (hb : Below X.heap.size X y) : y.ownsRow a e s v n xs := by
  obtain ⟨h0, h1⟩ := h
  refine ⟨h0, ?_⟩
  rcases h1 with h1 | ⟨g, cap, cur, h1, h2, h3, h4⟩
  · exact .inl h1
  · exact .inr ⟨g, cap, cur, h1, h2, keep_blk hb h3, h4⟩
theorem Recs.keep {a : Nat} {X y : World} {v : Value} {gs : List Rec} (h : Recs a X v gs) (hb : Below X.heap.size X y) : Recs a y v gs := by
  obtain ⟨xs, h0, h1⟩ := h
  exact ⟨xs, owns_keep h0 hb, h1.keep hb⟩
theorem RecVals.grown {a : Nat} {w w' : World} {xs : List Value} {gs : List Rec} {r : Option Nat} (h : RecVals a w xs gs) (hg : w.grownBy w' r) (hr : ∀ g, r = some g → ∃ cs t sp, w.heap[g]? = some (.cells cs t sp) ∧ t ≠ 5) : RecVals a w' xs gs := fun i r hi => by
  obtain ⟨D, c, h0, h1, h2, h3⟩ := h i r hi
  exact ⟨D, c, h0, h1, h2, h3.grown hg hr⟩
theorem RecVals.add {a : Nat} {w : World} {xs : List Value} {gs : List Rec} {q k : Int} {d : List Int} {D : Option Addr} {c : Nat} (h : RecVals a w xs gs) (hl : xs.length = gs.length * 3) (hf : Fresh8 a w D d) : RecVals a w (xs ++ [.int .u32 q, .int .u8 k, .slice D d.length c]) (gs ++ [(q, k, d)]) := fun i r hi => by
  rcases Nat.lt_or_ge i gs.length with hlt | hge
  · rw [List.getElem?_append_left hlt] at hi
    obtain ⟨D', c', h0, h1, h2, h3⟩ := h i r hi
    exact ⟨D', c', by rw [List.getElem?_append_left (by omega)]; exact h0, by rw [List.getElem?_append_left (by omega)]; exact h1, by rw [List.getElem?_append_left (by omega)]; exact h2, h3⟩
  · rw [List.getElem?_append_right hge] at hi
    have hi0 : i - gs.length = 0 := by
      have := (List.getElem?_eq_some_iff.1 hi).1
      simp at this; omega
    rw [hi0] at hi
    simp at hi
    subst hi
    have e0 : 3 * i - xs.length = 0 := by omega
    have e1 : 3 * i + 1 - xs.length = 1 := by omega
    have e2 : 3 * i + 2 - xs.length = 2 := by omega
    exact ⟨D, c, by rw [List.getElem?_append_right (by omega), e0]; rfl, by rw [List.getElem?_append_right (by omega), e1]; rfl, by rw [List.getElem?_append_right (by omega), e2]; rfl, hf⟩
/-- last's answer at a row of our own. -/
def LastIs (gs : List Rec) (w : World) (e : Ending) (w' : World) : Prop :=
  ∃ q k D m d, e = .returned (.tuple #[.agg #[.int .u32 q, .int .u8 k, .slice D m d], .bool (wasOf gs).isSome]) ∧ (∀ p, wasOf gs = some p → q = p) ∧ Below w.heap.size w w'
theorem last_any (a : Nat) (v : Value) (gs : List Rec) (w : World) (hl : gs.length ≤ 9223372036854775807) (h : Recs a w v gs) :
    Calls Try.prog 20 #[.agg #[v]] w (LastIs gs w) := by
  obtain ⟨xs, ⟨hx, hr⟩, hv⟩ := h
  change Calls Try.prog 20 _ w (fun e w' => LastIs gs w e w')
  by_cases hz : gs.length = 0
  · obtain rfl := List.length_eq_zero_iff.1 hz
    rcases hr with ⟨rfl, _⟩ | ⟨g, cap, cur, rfl, _⟩
    · refine (last_none none 0 w).mono ?_
      rintro e w' ⟨rfl, hb⟩
      exact ⟨0, 0, none, 0, 0, rfl, fun p hp => by simp [wasOf] at hp, hb⟩
    · refine (last_none _ cap w).mono ?_
      rintro e w' ⟨rfl, hb⟩
      exact ⟨0, 0, none, 0, 0, rfl, fun p hp => by simp [wasOf] at hp, hb⟩
  · have hlast : gs[gs.length - 1]? = some (gs[gs.length - 1]'(by omega)) := List.getElem?_eq_getElem _
    generalize gs[gs.length - 1]'(by omega) = r at hlast
    obtain ⟨D, c, h0, h1, h2, h3⟩ := hv _ r hlast
    have hw : wasOf gs = some r.1 := by simp [wasOf, List.getLast?_eq_getElem?, hlast]
    rcases hr with ⟨_, hz'⟩ | ⟨g, cap, cur, rfl, hg, hblk, hn, hcap, hcur, htake⟩
    · exact absurd hz' hz
    · have cellof : ∀ j u, xs[j]? = some u → w.cell? ⟨g, 0 + j, none⟩ = some u := fun j u hj => by
        rw [← htake, List.getElem?_take] at hj
        split at hj
        · simp only [World.cell?, hblk, Nat.zero_add]; simpa using hj
        · cases hj
      refine (last_some g 0 gs.length cap (by omega) hl hn w (blk_lt hblk) r.1 r.2.1 D r.2.2.length c ?_ ?_ ?_).mono ?_
      · rw [Nat.mul_comm]; exact cellof _ _ h0
      · rw [Nat.mul_comm, Nat.add_assoc]; exact cellof _ _ h1
      · rw [Nat.mul_comm, Nat.add_assoc]; exact cellof _ _ h2
      · rintro e w' ⟨rfl, hb⟩
        exact ⟨r.1, r.2.1, D, r.2.2.length, c, by rw [hw]; rfl, fun p hp => by rw [hw] at hp; exact Option.some.inj hp, hb⟩
theorem owns_block {a : Nat} {w : World} {e s n : Nat} {v : Value} {xs : List Value} (h : w.ownsRow a e s v n xs) : ∀ g, v.ownBlock = some g → a ≤ g ∧ ∃ cur, w.heap[g]? = some (.cells cur e (0, 0)) := fun g hg => by
  rcases h.2 with ⟨rfl, _⟩ | ⟨g', cap, cur, rfl, h2, h3, _⟩
  · simp [Value.ownBlock] at hg
  · simp [Value.ownBlock] at hg; subst hg; exact ⟨h2, cur, h3⟩
theorem owns_set {a : Nat} {w : World} {e s n : Nat} {v u : Value} {xs : List Value} {p : Addr} (h : w.ownsRow a e s v n xs) (hp : p.block < a) : (w.setCell p u).ownsRow a e s v n xs := by
  obtain ⟨h0, h1⟩ := h
  refine ⟨h0, ?_⟩
  rcases h1 with h1 | ⟨g, cap, cur, h1, h2, h3, h4⟩
  · exact .inl h1
  · exact .inr ⟨g, cap, cur, h1, h2, heap_far (by omega) h3, h4⟩
theorem owns_slice {a : Nat} {w : World} {e s n : Nat} {v : Value} {xs : List Value} (h : w.ownsRow a e s v n xs) : ∃ A n' c, v = .slice A n' c := by
  rcases h.2 with ⟨rfl, _⟩ | ⟨g, cap, cur, rfl, _⟩
  · exact ⟨_, _, _, rfl⟩
  · exact ⟨_, _, _, rfl⟩
theorem RecVals.set {a : Nat} {w : World} {xs : List Value} {gs : List Rec} {p : Addr} {u : Value} (h : RecVals a w xs gs) (hp : p.block < a) : RecVals a (w.setCell p u) xs gs := fun i r hi => by
  obtain ⟨D, c, h0, h1, h2, h3⟩ := h i r hi
  exact ⟨D, c, h0, h1, h2, h3.set hp⟩
theorem wasOf_add (gs : List Rec) (r : Rec) : wasOf (gs ++ [r]) = some r.1 := by simp [wasOf]
theorem stopF_eq {q q2 : Int} {gs : List Rec} (h : ∀ p, wasOf gs = some p → q2 = p) : stopF q (wasOf gs) = (q == 0 || ((wasOf gs).isSome && q != (q2 + 1) % 4294967296)) := by
  unfold stopF
  rcases hw : wasOf gs with _ | p
  · simp
  · simp [h p hw]
end Go.Proofs.Ythdeecnppmheoaa
