/- Arguments of this seat's laws, opened: a struct of one-cell fields by value; a mode. -/
import Derived.Test.YtinpgccfddmmpaaProg
import Derived.ProofKit
import Derived.Lib.SmallJoins
namespace Go.Proofs.Ytinpgccfddmmpaa
open Go.ChangeShapes Go.WideShapes Go.ChangeAt Go.RowKit Go.Joins Go.Deep
variable {H : Type} {enc : TypeId × Value → H} {P : Program} {w : World} {base : Nat} {spare : Nat → Bool} {held : Bool}
/-- A struct of one-cell fields: as many values as fields, and each reads as its field's type. -/
theorem open_fields {r : Reach} {b0 : Nat} {t : TypeId} {fs : Array Field} {v : Value} {d : DataW H} {p : List MemPlace} (hs : P.underlying t = some (.struct fs)) (hone : oneCellFields P fs = true) (hC : P.cellsOf t = fs.size)
    (hv : Value.okWide P w r b0 t v) (h : DataW.Trod enc P w base spare held t v d p) :
    ∃ (l : List Value) (n : Nat), v = .agg ⟨l⟩ ∧ l.length = fs.size ∧ ∀ (j : Nat) (f : Field) (u : Value), fs[j]? = some f → l[j]? = some u → ∃ y, DataW.trod enc P w base spare held n f.type [u] = some y := by
  obtain ⟨⟨l⟩, rfl, hl⟩ := okWide_struct hs hv
  obtain ⟨fuel, hf⟩ := h
  obtain ⟨ys, n, _, _, _, _, hg⟩ := DataW.trod_struct hs hf
  refine ⟨l, n, rfl, by rw [← hC]; exact hl, fun j f u hj hu => ?_⟩
  obtain ⟨ho, hk⟩ := hone_of hone j f hj
  have hjl : j < l.length := (List.getElem?_eq_some_iff.1 hu).1
  have h1 := hg j f hj
  have hjy : j < ys.length := by
    rcases Nat.lt_or_ge j ys.length with hlt | hge
    · exact hlt
    · have e := hone_of hone j f hj
      simp_all
  refine ⟨ys[j], ?_⟩
  rw [ho, hk] at h1
  have e1 : (l.drop j).take 1 = [u] := by
    rw [List.drop_eq_getElem_cons hjl]
    have : l[j] = u := (List.getElem?_eq_some_iff.1 hu).2
    simp [this]
  rw [show Value.cells (.agg ⟨l⟩) = ⟨l⟩ from rfl] at h1
  rw [e1] at h1
  rw [h1, List.getElem?_eq_getElem hjy]
theorem mode_open {r : Reach} {b0 : Nat} {v : Value} {d : DataW H} {p : List MemPlace} (hv : Value.okWide Try.prog w r b0 23 v) (h : DataW.Trod enc Try.prog w base spare held 23 v d p) :
    ∃ t f a i q : Bool, v = .agg #[.bool t, .bool f, .bool a, .bool i, .bool q] := by
  obtain ⟨l, n, rfl, hl, hg⟩ := open_fields Try.underlying23 (by kernel_rfl) (by kernel_rfl) hv h
  match l, hl with
  | [c0, c1, c2, c3, c4], _ =>
    obtain ⟨y0, h0⟩ := hg 0 _ c0 rfl rfl
    obtain ⟨y1, h1⟩ := hg 1 _ c1 rfl rfl
    obtain ⟨y2, h2⟩ := hg 2 _ c2 rfl rfl
    obtain ⟨y3, h3⟩ := hg 3 _ c3 rfl rfl
    obtain ⟨y4, h4⟩ := hg 4 _ c4 rfl rfl
    obtain ⟨b0, e0, _⟩ := DataW.trod_bool Try.underlying4 h0
    obtain ⟨b1, e1, _⟩ := DataW.trod_bool Try.underlying4 h1
    obtain ⟨b2, e2, _⟩ := DataW.trod_bool Try.underlying4 h2
    obtain ⟨b3, e3, _⟩ := DataW.trod_bool Try.underlying4 h3
    obtain ⟨b4, e4, _⟩ := DataW.trod_bool Try.underlying4 h4
    simp only [List.cons.injEq, and_true] at e0 e1 e2 e3 e4
    exact ⟨b0, b1, b2, b3, b4, by rw [e0, e1, e2, e3, e4]⟩
end Go.Proofs.Ytinpgccfddmmpaa
