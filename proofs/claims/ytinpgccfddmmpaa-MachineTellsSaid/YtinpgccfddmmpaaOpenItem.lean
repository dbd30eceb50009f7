/- An item that is handed in, opened. -/
import Derived.Test.YtinpgccfddmmpaaProg
import Derived.ProofKit
import Derived.Lib.SmallJoins
import Derived.SizedLaws
import Derived.SliceStrings
import Derived.Test.YtinpgccfddmmpaaIntoG
namespace Go.Proofs.Ytinpgccfddmmpaa
open Go.ChangeShapes Go.WideShapes Go.ChangeAt Go.RowKit Go.Joins Go.Deep
variable {H : Type} {enc : TypeId × Value → H} {P : Program} {w : World} {base : Nat} {spare : Nat → Bool} {held : Bool}
/-- The same, with what the struct reads as. -/
theorem open_parts {r : Reach} {b0 : Nat} {t : TypeId} {fs : Array Field} {v : Value} {d : DataW H} {p : List MemPlace} (hs : P.underlying t = some (.struct fs)) (hone : oneCellFields P fs = true) (hC : P.cellsOf t = fs.size)
    (hv : Value.okWide P w r b0 t v) (h : DataW.Trod enc P w base spare held t v d p) :
    ∃ (l : List Value) (n : Nat) (ys : List (DataW H × List MemPlace)), v = .agg ⟨l⟩ ∧ l.length = fs.size ∧ d = .agg (ys.map (·.1)) ∧ ∀ (j : Nat) (f : Field) (u : Value), fs[j]? = some f → l[j]? = some u → ∃ y, ys[j]? = some y ∧ DataW.trod enc P w base spare held n f.type [u] = some y := by
  obtain ⟨⟨l⟩, rfl, hl⟩ := okWide_struct hs hv
  obtain ⟨fuel, hf⟩ := h
  obtain ⟨ys, n, _, hx, _, hyl, hg⟩ := DataW.trod_struct hs hf
  obtain ⟨hd, _⟩ := Prod.mk.inj hx
  refine ⟨l, n, ys, rfl, by rw [← hC]; exact hl, hd, fun j f u hj hu => ?_⟩
  obtain ⟨ho, hk⟩ := hone_of hone j f hj
  have hjl : j < l.length := (List.getElem?_eq_some_iff.1 hu).1
  have h1 := hg j f hj
  have hjy : j < ys.length := by rw [hyl]; exact (Array.getElem?_eq_some_iff.1 hj).1
  refine ⟨ys[j], List.getElem?_eq_getElem hjy, ?_⟩
  rw [ho, hk] at h1
  have e1 : (l.drop j).take 1 = [u] := by
    rw [List.drop_eq_getElem_cons hjl]
    have : l[j] = u := (List.getElem?_eq_some_iff.1 hu).2
    simp [this]
  rw [show Value.cells (.agg ⟨l⟩) = ⟨l⟩ from rfl] at h1
  rw [e1] at h1
  rw [h1, List.getElem?_eq_getElem hjy]
/-- A field that is a slice weighs no more than the row allows. -/
theorem sized_part {ts : List TypeId} {ds : List (DataW H)} {j i : Nat} {t u e : TypeId} {fs : Array Field} {f : Field} {ys : List (DataW H × List MemPlace)} {y : DataW H × List MemPlace} {elems sp : List (DataW H)}
    (h : (DataW.weightsEach P ts ds).all (· ≤ reachBytes) = true) (ht : ts[j]? = some t) (hd : ds[j]? = some (.agg (ys.map (·.1)))) (hs : P.underlying t = some (.struct fs)) (hf : fs[i]? = some f) (hu : f.type = u) (hy : ys[i]? = some y) (hye : y.1 = .slice elems sp) (hue : P.underlying u = some (.slice e)) :
    (elems.length + sp.length) * P.bytesOf e ≤ reachBytes := by
  subst hu
  have h1 : (elems.length + sp.length) * P.bytesOf e ∈ (y.1).weights P f.type := by rw [hye]; simp [DataW.weights, hue]
  have h2 : (elems.length + sp.length) * P.bytesOf e ∈ DataW.weightsEach P (fs.toList.map (·.type)) (ys.map (·.1)) :=
    DataW.weights_mem_each (j := i) (t := f.type) (d := y.1) (by rw [List.getElem?_map]; simp [hf]) (by rw [List.getElem?_map, hy]; rfl) _ h1
  have h3 : (elems.length + sp.length) * P.bytesOf e ∈ (DataW.agg (ys.map (·.1)) : DataW H).weights P t := by simp only [DataW.weights, hs]; exact h2
  have := List.all_eq_true.1 h _ (DataW.weights_mem_each ht hd _ h3)
  simpa using this
theorem item_open {b0 : Nat} {v : Value} {d : DataW H} {p : List MemPlace} {ts : List TypeId} {ds : List (DataW H)} {j : Nat} (hsz : (DataW.weightsEach Try.prog ts ds).all (· ≤ reachBytes) = true) (ht : ts[j]? = some 34) (hd : ds[j]? = some d)
    (hv : Value.okWide Try.prog w .any b0 34 v) (h : DataW.Trod enc Try.prog w base spare held 34 v d p) :
    ∃ (s0 s1 : ByteArray) (A : Option Addr) (n c : Nat) (s3 : Int) (s4 s5 : Bool) (gs : List ByteArray), v = .agg #[.string s0, .string s1, .slice A n c, .int .i64 s3, .bool s4, .bool s5] ∧ gs.length * 16 ≤ 140737488351232 ∧ GroupsAt w A n c gs := by
  obtain ⟨l, n, ys, rfl, hl, rfl, hg⟩ := open_parts Try.underlying34 (by kernel_rfl) (by kernel_rfl) hv h
  match l, hl with
  | [c0, c1, c2, c3, c4, c5], _ =>
    obtain ⟨y0, _, h0⟩ := hg 0 _ c0 rfl rfl
    obtain ⟨y1, _, h1⟩ := hg 1 _ c1 rfl rfl
    obtain ⟨y2, hy2, h2⟩ := hg 2 _ c2 rfl rfl
    obtain ⟨y3, _, h3⟩ := hg 3 _ c3 rfl rfl
    obtain ⟨y4, _, h4⟩ := hg 4 _ c4 rfl rfl
    obtain ⟨y5, _, h5⟩ := hg 5 _ c5 rfl rfl
    obtain ⟨b0, e0, _, _⟩ := DataW.trod_string Try.underlying9 h0
    obtain ⟨b1, e1, _, _⟩ := DataW.trod_string Try.underlying9 h1
    obtain ⟨b3, e3, _, _⟩ := DataW.trod_int Try.underlying3 h3
    obtain ⟨b4, e4, _⟩ := DataW.trod_bool Try.underlying4 h4
    obtain ⟨b5, e5, _⟩ := DataW.trod_bool Try.underlying4 h5
    simp only [List.cons.injEq, and_true] at e0 e1 e3 e4 e5
    rcases open_strings Try.underlying32 Try.underlying9 (by kernel_rfl) h2 with ⟨e2, _⟩ | ⟨a, len, cap, ss, e2, _, hlc, _, hss, hx, hcell, _⟩
    · simp only [List.cons.injEq, and_true] at e2
      exact ⟨b0, b1, none, 0, 0, b3, b4, b5, [], by rw [e0, e1, e2, e3, e4, e5], by simp, .inl ⟨rfl, rfl, rfl, rfl⟩⟩
    · simp only [List.cons.injEq, and_true] at e2
      have hy : y2.1 = .slice (strs (ss.take len)) (strs (ss.drop len)) := by rw [hx]
      have hw := sized_part hsz ht hd Try.underlying34 rfl rfl hy2 hy Try.underlying32
      have hbytes : Try.prog.bytesOf 9 = 16 := by kernel_rfl
      rw [hbytes] at hw
      have hlen : len ≤ ss.length := by rw [hss]; split <;> omega
      have ht' : (ss.take len).length = len := by rw [List.length_take]; omega
      simp only [strs, List.length_map, ht'] at hw
      refine ⟨b0, b1, some a, len, cap, b3, b4, b5, ss.take len, by rw [e0, e1, e2, e3, e4, e5], ?_, .inr ⟨a, rfl, ht'.symm, fun i hi => ?_⟩⟩
      · rw [ht']; have : reachBytes = 140737488351232 := by decide
        omega
      · rw [ht'] at hi
        rw [hcell i (by omega)]
        simp [List.getD_eq_getElem?_getD, hi]
end Go.Proofs.Ytinpgccfddmmpaa
