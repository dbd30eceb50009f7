/- Arguments of these laws, opened: slices of bytes, slices of these. -/
import Derived.Test.YtcegkpgidineaaaByt
import Derived.ProofKit
namespace Go.Proofs.Ytcegkpgidineaaa
open Go.ChangeShapes Go.WideShapes Go.ChangeAt Go.RowKit Go.Joins Go.Deep
variable {H : Type} {enc : TypeId × Value → H} {w : World} {base : Nat}
theorem wf_bytes8 {zs : List Int} (h : ∀ n ∈ zs, (Lit.int .u8 n).wf = true) : Bytes8 zs := fun x hx => bounds_u8 (h x hx)
/-- The cells of a slice of bytes read as the bytes. -/
theorem read8_of {zs : List Int} {A : Option Addr} {L C : Nat} (hl : L ≤ C) (hz : zs.length = C) (hn : A = none → C = 0) (hc : ∀ a', A = some a' → ∀ c, c < C → w.cell? (a'.add c) = some (.int .u8 (zs.getD c 0))) : Read8 w A (zs.take L) := by
  cases A with
  | none => exact .inl (List.eq_nil_of_length_eq_zero (by rw [List.length_take]; have := hn rfl; omega))
  | some a =>
    by_cases h0 : L = 0
    · exact .inl (by rw [h0]; rfl)
    · obtain ⟨ab, ao, spot⟩ := a
      have h1 := hc _ rfl 0 (by omega)
      have hspot : spot = none := by simpa [Addr.add] using World.cell?_spot h1
      subst hspot
      have hlt := World.block_lt_of_cell? _ _ h1
      refine .inr ⟨ab, ao, rfl, by simpa [Addr.add] using hlt, fun i hi => ?_⟩
      rw [List.length_take] at hi
      have := hc _ rfl i (by omega)
      rw [addr_add] at this
      rw [this, List.getD_eq_getElem?_getD, List.getD_eq_getElem?_getD, List.getElem?_take, if_pos (by omega)]
/-- A slice of bytes. -/
theorem open_bytes {v : Value} {d : DataW H} {p : List MemPlace} (hv : Value.okWide Try.prog w .any base 32 v) (h : DataW.Trod enc Try.prog w 0 (fun _ => true) true 32 v d p) :
    ∃ A c l, v = .slice A l.length c ∧ l.length ≤ c ∧ c ≤ 9223372036854775807 ∧ (A = none → c = 0) ∧ Bytes8 l ∧ Read8 w A l := by
  obtain ⟨A, n, c, rfl⟩ := okWide_slice Try.underlying32 hv
  obtain ⟨fuel, hf⟩ := h
  rcases open_ints Try.underlying32 Try.underlying5 (by kernel_rfl) hf with ⟨hcs, _⟩ | ⟨x, l, c', zs, hcs, _, hl, hm, hz, _, hcell, hwz⟩
  · simp [Value.cells] at hcs
    obtain ⟨rfl, rfl, rfl⟩ := hcs
    exact ⟨none, 0, [], rfl, Nat.le_refl _, by decide, fun _ => rfl, fun x hx => by simp at hx, .inl rfl⟩
  · simp [Value.cells] at hcs
    obtain ⟨rfl, rfl, rfl⟩ := hcs
    simp only [if_true] at hz
    have hlt : (zs.take n).length = n := by rw [List.length_take]; omega
    refine ⟨_, _, zs.take n, by rw [hlt], by rw [hlt]; exact hl, hm, (fun h => by cases h), bytes8_take (wf_bytes8 hwz) n, read8_of hl hz (fun h => by cases h) (fun a' e i hi => ?_)⟩
    cases e
    exact hcell i (by rw [hz]; exact hi)
end Go.Proofs.Ytcegkpgidineaaa
