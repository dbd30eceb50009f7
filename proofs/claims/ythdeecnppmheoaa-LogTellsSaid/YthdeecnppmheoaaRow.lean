/- A row of bytes of our own, written in places. -/
import Derived.Test.YthdeecnppmheoaaScanw
namespace Go.Proofs.Ythdeecnppmheoaa
open Go.RowKit
/-- These bytes, in place. -/
def spl (l : List Int) (off : Nat) (cs : List Int) : List Int := l.take off ++ (cs ++ l.drop (off + cs.length))
theorem spl_mid (a x b cs : List Int) (h : cs.length = x.length) : spl (a ++ (x ++ b)) a.length cs = a ++ (cs ++ b) := by
  unfold spl
  rw [List.take_left' rfl, h, List.drop_append, List.drop_eq_nil_of_le (by omega), Nat.add_sub_cancel_left, List.drop_left' rfl]; rfl
theorem spl_length (l : List Int) (off : Nat) (cs : List Int) (h : off + cs.length ≤ l.length) : (spl l off cs).length = l.length := by
  unfold spl; simp; omega
/-- Block g is this row of bytes. -/
def RowAt (w : World) (g : Nat) (l : List Int) : Prop := w.heap[g]? = some (.cells (l.map (Value.int .u8)).toArray 5 (0, 0))
theorem RowAt.lt {w : World} {g : Nat} {l : List Int} (h : RowAt w g l) : g < w.heap.size := obj_lt h
theorem RowAt.keep {X y : World} {g : Nat} {l : List Int} (h : RowAt X g l) (hb : Below X.heap.size X y) : RowAt y g l := keep_blk hb h
theorem RowAt.set {w : World} {g : Nat} {l : List Int} (h : RowAt w g l) (i : Nat) (v : Int) : RowAt (w.setCell ⟨g, i, none⟩ (.int .u8 v)) g (l.set i v) := by
  unfold RowAt at *
  rw [heap_set_same h, List.setIfInBounds_toArray, List.map_set]
theorem RowAt.cells {w : World} {g : Nat} {l : List Int} (h : RowAt w g l) : Has8 w g 0 l := fun i hi => by
  simp [World.cell?, show w.heap[g]? = _ from h, List.getD_eq_getElem?_getD, List.getElem?_eq_getElem hi]
theorem RowAt.cell {w : World} {g : Nat} {l : List Int} (h : RowAt w g l) (i : Nat) (hi : i < l.length) : w.cell? ⟨g, i, none⟩ = some (.int .u8 (l.getD i 0)) := by
  have := h.cells i hi; rwa [Nat.zero_add] at this
theorem RowAt.melted {w : World} {g : Nat} {l : List Int} (h : RowAt w g l) (i : Nat) : w.frozen? ⟨g, i, none⟩ = false := by
  simp [World.frozen?, show w.heap[g]? = _ from h]
theorem RowAt.fresh {a : Nat} {w : World} {g : Nat} {l : List Int} (h : RowAt w g l) (ha : a ≤ g) : Fresh8 a w (some ⟨g, 0, none⟩) l := .inr ⟨g, 0, _, _, rfl, ha, h, h.cells⟩
/-- Four bytes of a number. -/
def be4 (v : Int) : List Int := [q0 v, q1 v, q2 v, q3 v]
theorem set4 (l : List Int) (i : Nat) (a b c d : Int) (h : i + 4 ≤ l.length) : (((l.set i a).set (i + 1) b).set (i + 2) c).set (i + 3) d = spl l i [a, b, c, d] := by
  apply List.ext_getElem?
  intro j
  unfold spl
  simp only [List.getElem?_set, List.getElem?_append, List.length_take, List.getElem?_take, List.length_set, List.length_cons, List.length_nil, List.getElem?_drop, Nat.min_eq_left (show i ≤ l.length by omega)]
  by_cases h0 : j < i
  · simp [h0, show ¬ i + 3 = j by omega, show ¬ i + 2 = j by omega, show ¬ i + 1 = j by omega, show ¬ i = j by omega]
  · simp only [h0, if_false]
    obtain ⟨k, rfl⟩ : ∃ k, j = i + k := ⟨j - i, by omega⟩
    simp only [Nat.add_sub_cancel_left]
    match k with
    | 0 => simp; omega
    | 1 => simp; omega
    | 2 => simp; omega
    | 3 => simp; omega
    | k + 4 =>
      simp only [show ¬ i + 3 = i + (k + 4) by omega, show ¬ i + 2 = i + (k + 4) by omega, show ¬ i + 1 = i + (k + 4) by omega, show ¬ i = i + (k + 4) by omega, if_false, show ¬ k + 4 < 0 + 1 + 1 + 1 + 1 by omega]
      congr 1
      omega
/-- put into a row of our own. -/
def PutIs (w : World) (g off : Nat) (v : Int) (l : List Int) (e : Ending) (w' : World) : Prop :=
  e = .returned (.tuple #[]) ∧ RowAt w' g (spl l off (be4 v)) ∧ (∀ B w0, Below B w0 w → B ≤ g → Below B w0 w')
theorem put_row (g off n c : Nat) (v : Int) (h0 : 0 ≤ v) (h1 : v ≤ 4294967295) (hn : (4 : Int) ≤ (n : Int)) (w : World) (l : List Int) (hr : RowAt w g l) (hl : off + 4 ≤ l.length) :
    Calls Try.prog 23 #[.slice (some ⟨g, off, none⟩) n c, .int .u32 v] w (PutIs w g off v l) := by
  refine (put_any g off n c v h0 h1 hn w _ _ _ _ (hr.cell off (by omega)) (hr.cell (off + 1) (by omega)) (hr.cell (off + 2) (by omega)) (hr.cell (off + 3) (by omega)) hr.melted).mono ?_
  rintro e w' ⟨rfl, rfl⟩
  refine ⟨rfl, ?_, ?_⟩
  · have := (((hr.set off (q0 v)).set (off + 1) (q1 v)).set (off + 2) (q2 v)).set (off + 3) (q3 v)
    rwa [set4 l off _ _ _ _ hl] at this
  · intro B w0 hb hg
    exact ((((hb.setCell hg _).setCell hg _).setCell hg _).setCell hg _)
end Go.Proofs.Ythdeecnppmheoaa
