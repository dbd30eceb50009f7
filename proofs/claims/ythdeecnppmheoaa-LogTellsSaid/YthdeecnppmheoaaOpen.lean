/- Arguments of these laws, opened: slices of bytes, slices of these. -/
import Derived.Test.YthdeecnppmheoaaApp
import Derived.ProofKit
namespace Go.Proofs.Ythdeecnppmheoaa
open Go.ChangeShapes Go.WideShapes Go.ChangeAt Go.RowKit Go.Joins Go.Deep
variable {H : Type} {enc : TypeId × Value → H} {w : World} {base : Nat}
theorem wf_bytes8 {zs : List Int} (h : ∀ n ∈ zs, (Lit.int .u8 n).wf = true) : Bytes8 zs := fun x hx => bounds_u8 (h x hx)
/-- The cells of a slice of bytes read as the bytes. -/
theorem read8_of {zs : List Int} {A : Option Addr} {L C : Nat} (hl : L ≤ C) (hz : zs.length = C) (hn : A = none → C = 0) (hc : ∀ a', A = some a' → ∀ c, c < C → w.cell? (a'.add c) = some (.int .u8 (zs.getD c 0))) : Read8 w A (zs.take L) := by
  cases A with
  | none => exact .inl (List.eq_nil_of_length_eq_zero (by rw [List.length_take]; have := hn rfl; omega))
  | some a =>
    by_cases h0 : L = 0
    · exact .inl (by rw [h0]; rfl)
    · obtain ⟨ab, ao, spot⟩ := a
      have h1 := hc _ rfl 0 (by omega)
      have hspot : spot = none := by simpa [Addr.add] using World.cell?_spot h1
      subst hspot
      have hlt := World.block_lt_of_cell? _ _ h1
      refine .inr ⟨ab, ao, rfl, by simpa [Addr.add] using hlt, fun i hi => ?_⟩
      rw [List.length_take] at hi
      have := hc _ rfl i (by omega)
      rw [addr_add] at this
      rw [this, List.getD_eq_getElem?_getD, List.getD_eq_getElem?_getD, List.getElem?_take, if_pos (by omega)]
/-- A slice of bytes. -/
theorem open_bytes {v : Value} {d : DataW H} {p : List MemPlace} (hv : Value.okWide Try.prog w .any base 23 v) (h : DataW.Trod enc Try.prog w 0 (fun _ => true) true 23 v d p) :
    ∃ A c l, v = .slice A l.length c ∧ l.length ≤ c ∧ c ≤ 9223372036854775807 ∧ (A = none → c = 0) ∧ Bytes8 l ∧ Read8 w A l := by
  obtain ⟨A, n, c, rfl⟩ := okWide_slice Try.underlying23 hv
  obtain ⟨fuel, hf⟩ := h
  rcases open_ints Try.underlying23 Try.underlying5 (by kernel_rfl) hf with ⟨hcs, _⟩ | ⟨x, l, c', zs, hcs, _, hl, hm, hz, _, hcell, hwz⟩
  · simp [Value.cells] at hcs
    obtain ⟨rfl, rfl, rfl⟩ := hcs
    exact ⟨none, 0, [], rfl, Nat.le_refl _, by decide, fun _ => rfl, fun x hx => by simp at hx, .inl rfl⟩
  · simp [Value.cells] at hcs
    obtain ⟨rfl, rfl, rfl⟩ := hcs
    simp only [if_true] at hz
    have hlt : (zs.take n).length = n := by rw [List.length_take]; omega
    refine ⟨_, _, zs.take n, by rw [hlt], by rw [hlt]; exact hl, hm, (fun h => by cases h), bytes8_take (wf_bytes8 hwz) n, read8_of hl hz (fun h => by cases h) (fun a' e i hi => ?_)⟩
    cases e
    exact hcell i (by rw [hz]; exact hi)
/-- A slice of these. -/
theorem open_rows8 {v : Value} {d : DataW H} {p : List MemPlace} (hv : Value.okWide Try.prog w .any base 38 v) (h : DataW.Trod enc Try.prog w 0 (fun _ => true) true 38 v d p) :
    ∃ O n c ds, v = .slice O n c ∧ n ≤ c ∧ c ≤ 9223372036854775807 ∧ RowsIn w O n ds := by
  obtain ⟨O, n, c, rfl⟩ := okWide_slice Try.underlying38 hv
  obtain ⟨fuel, hf⟩ := h
  rcases open_int_rows Try.underlying38 Try.underlying23 Try.underlying5 (by kernel_rfl) (by kernel_rfl) hf with ⟨hcs, _⟩ | ⟨a, len, cap, A, L, C, Z, hcs, _, hl, hm, _, hr⟩
  · simp [Value.cells] at hcs
    obtain ⟨rfl, rfl, rfl⟩ := hcs
    exact ⟨none, 0, 0, fun _ => [], rfl, Nat.le_refl _, by decide, .inl rfl⟩
  · simp [Value.cells] at hcs
    obtain ⟨rfl, rfl, rfl⟩ := hcs
    refine ⟨_, _, _, fun r => (Z r).take (L r), rfl, hl, hm, ?_⟩
    by_cases h0 : n = 0
    · exact .inl h0
    · obtain ⟨ab, ao, spot⟩ := a
      have h1 := (hr 0 (by omega)).1
      have hspot : spot = none := by simpa [Addr.add] using World.cell?_spot h1
      subst hspot
      have hlt := World.block_lt_of_cell? _ _ h1
      refine .inr ⟨ab, ao, rfl, by simpa [Addr.add] using hlt, fun r hr' => ?_⟩
      obtain ⟨k1, k2, k3, k4, k5, k6, k7⟩ := hr r (by omega)
      have hlen : ((Z r).take (L r)).length = L r := by rw [List.length_take]; omega
      rw [addr_add] at k1
      refine ⟨A r, C r, by rw [hlen]; exact k1, by rw [hlen]; exact k2, by rw [hlen]; unfold maxLen at k3; omega, k6, bytes8_take (wf_bytes8 k5) _, read8_of k2 k4 k6 (fun a' e i hi => (k7 a' e).2 i hi)⟩
end Go.Proofs.Ythdeecnppmheoaa
