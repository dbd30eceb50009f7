/- What came in, opened: a slice of numbers. -/
import Derived.Test.YtpogiondpbfjkaaStages
import Derived.ChangeSlices
import Derived.Deep.Matrix
import Derived.OpenShut
import Derived.ProofKit
namespace Go.Proofs.Ytpogiondpbfjkaa
open Go.ChangeShapes Go.WideShapes Go.ChangeAt Go.RowKit Go.Deep
variable {H : Type} {enc : TypeId × Value → H} {w : World}
theorem cells3 : Try.prog.cellsOf 3 = 1 := by kernel_rfl
theorem open_list {v : Value} {d : DataW H} {p : List MemPlace} {base : Nat} (hv : Value.okWide Try.prog w .any base 26 v) (h : DataW.Trod enc Try.prog w 0 (fun _ => true) true 26 v d p) :
    ∃ O n c ds, v = .slice O n c ∧ n ≤ 9223372036854775807 ∧ IntsIn w O n ds := by
  obtain ⟨O, n, c, rfl⟩ := okWide_slice Try.underlying26 hv
  obtain ⟨fuel, hf⟩ := h
  rcases open_ints Try.underlying26 Try.underlying3 cells3 hf with ⟨hcs, _⟩ | ⟨a, l, c', zs, hcs, _, hl, hm, hz, _, hcell, hwz⟩
  · simp [Value.cells] at hcs
    obtain ⟨rfl, rfl, rfl⟩ := hcs
    exact ⟨none, 0, 0, fun _ => 0, rfl, by decide, .inl rfl⟩
  · simp [Value.cells] at hcs
    obtain ⟨rfl, rfl, rfl⟩ := hcs
    simp only [if_true] at hz
    refine ⟨_, n, c, fun i => zs.getD i 0, rfl, by simp only [maxLen] at hm; omega, ?_⟩
    by_cases h0 : n = 0
    · exact .inl h0
    · obtain ⟨ab, ao, spot⟩ := a
      have h1 := hcell 0 (by omega)
      have hspot : spot = none := by simpa [Addr.add] using World.cell?_spot h1
      subst hspot
      have hlt := World.block_lt_of_cell? _ _ h1
      refine .inr ⟨ab, ao, rfl, by simpa [Addr.add] using hlt, fun i hi => ?_⟩
      have := hcell i (by omega)
      rw [addr_add] at this
      exact this
end Go.Proofs.Ytpogiondpbfjkaa
