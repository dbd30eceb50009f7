/- What came in, opened: a slice of things to do. -/
import Derived.Test.YtcegkpgidineaaaPlays
import Derived.Test.YtcegkpgidineaaaOpen
import Derived.Deep.Matrix
namespace Go.Proofs.Ytcegkpgidineaaa
open Go.ChangeShapes Go.WideShapes Go.ChangeAt Go.RowKit Go.Joins Go.Deep
instance opInInh : Inhabited OpIn := ⟨⟨0, 0, 0, none, 0, []⟩⟩
variable {H : Type} {enc : TypeId × Value → H} {w : World}
theorem cells34 : Try.prog.cellsOf 34 = 4 := by kernel_rfl
theorem cells3 : Try.prog.cellsOf 3 = 1 := by kernel_rfl
theorem cells32 : Try.prog.cellsOf 32 = 1 := by kernel_rfl
/-- One thing's four cells. -/
theorem op_cells {fuel : Nat} {cs : List Value} {x : DataW H × List MemPlace} (h : DataW.trod enc Try.prog w 0 (fun _ => true) true fuel 34 cs = some x) :
    ∃ kd pl nu A c data, cs = [.int .i64 kd, .int .i64 pl, .int .i64 nu, .slice A (List.length data) c] ∧ (Lit.int .i64 nu).wf = true ∧ data.length ≤ c ∧ (A = none → c = 0) ∧ Bytes8 data ∧ Read8 w A data := by
  obtain ⟨xs, n, _, _, hlen, hxl, hg⟩ := DataW.trod_struct Try.underlying34 h
  rw [cells34] at hlen
  match cs, hlen with
  | [v0, v1, v2, v3], _ =>
    match xs, hxl with
    | [y0, y1, y2, y3], _ =>
      have h0 : DataW.trod enc Try.prog w 0 (fun _ => true) true n 3 (([v0, v1, v2, v3].drop 0).take (Try.prog.cellsOf 3)) = some y0 := hg 0 _ rfl
      have h1 : DataW.trod enc Try.prog w 0 (fun _ => true) true n 3 (([v0, v1, v2, v3].drop 1).take (Try.prog.cellsOf 3)) = some y1 := hg 1 _ rfl
      have h2 : DataW.trod enc Try.prog w 0 (fun _ => true) true n 3 (([v0, v1, v2, v3].drop 2).take (Try.prog.cellsOf 3)) = some y2 := hg 2 _ rfl
      have h3 : DataW.trod enc Try.prog w 0 (fun _ => true) true n 32 (([v0, v1, v2, v3].drop 3).take (Try.prog.cellsOf 32)) = some y3 := hg 3 _ rfl
      rw [cells3] at h0 h1 h2
      rw [cells32] at h3
      simp only [List.drop, List.take] at h0 h1 h2 h3
      obtain ⟨kd, e0, _, _⟩ := DataW.trod_int Try.underlying3 h0
      obtain ⟨pl, e1, _, _⟩ := DataW.trod_int Try.underlying3 h1
      obtain ⟨nu, e2, _, hw⟩ := DataW.trod_int Try.underlying3 h2
      simp only [List.cons.injEq, and_true] at e0 e1 e2
      subst e0 e1 e2
      rcases open_ints Try.underlying32 Try.underlying5 (by kernel_rfl) h3 with ⟨hcs, _⟩ | ⟨a, l, c', zs, hcs, _, hl, hm, hz, _, hcell, hwz⟩
      · simp only [List.cons.injEq, and_true] at hcs
        subst hcs
        exact ⟨kd, pl, nu, none, 0, [], rfl, hw, Nat.le_refl _, fun _ => rfl, fun x hx => by simp at hx, .inl rfl⟩
      · simp only [List.cons.injEq, and_true] at hcs
        subst hcs
        simp only [if_true] at hz
        have hlt : (zs.take l).length = l := by rw [List.length_take]; omega
        refine ⟨kd, pl, nu, some a, c', zs.take l, by rw [hlt], hw, by rw [hlt]; exact hl, (fun h => by cases h), bytes8_take (wf_bytes8 hwz) l, read8_of hl hz (fun h => by cases h) (fun a' e i hi => ?_)⟩
        cases e
        exact hcell i (by rw [hz]; exact hi)
theorem open_ops {v : Value} {d : DataW H} {p : List MemPlace} {base : Nat} (hv : Value.okWide Try.prog w .any base 22 v) (h : DataW.Trod enc Try.prog w 0 (fun _ => true) true 22 v d p) :
    ∃ O n c os, v = .slice O n c ∧ n ≤ c ∧ c ≤ 9223372036854775807 ∧ OpsIn w O n os := by
  obtain ⟨O, n, c, rfl⟩ := okWide_slice Try.underlying22 hv
  obtain ⟨fuel, hf⟩ := h
  rcases open_slice Try.underlying22 hf with ⟨hcs, _⟩ | ⟨a, len, cap, m, k, D, Pl, hcs, _, hl, hm, hmm, _, hi⟩
  · simp [Value.cells] at hcs
    obtain ⟨rfl, rfl, rfl⟩ := hcs
    exact ⟨none, 0, 0, fun _ => ⟨0, 0, 0, none, 0, []⟩, rfl, Nat.le_refl _, by decide, .inl rfl⟩
  · simp [Value.cells] at hcs
    obtain ⟨rfl, rfl, rfl⟩ := hcs
    have each : ∀ r, r < n → ∃ o : OpIn, w.cell? (a.add (r * 4)) = some (.int .i64 o.kind) ∧ w.cell? ((a.add (r * 4)).add 1) = some (.int .i64 o.place) ∧ w.cell? ((a.add (r * 4)).add 2) = some (.int .i64 o.num) ∧ w.cell? ((a.add (r * 4)).add 3) = some (.slice o.A o.data.length o.c) ∧ -9223372036854775808 ≤ o.num ∧ o.num ≤ 9223372036854775807 ∧ o.data.length ≤ o.c ∧ (o.A = none → o.c = 0) ∧ Bytes8 o.data ∧ Read8 w o.A o.data := fun r hr => by
      obtain ⟨cs', hc, ht⟩ := hi r (by simp only [if_true] at hmm; omega)
      rw [cells34] at hc
      obtain ⟨_, _, hat⟩ := World.cells?_some hc
      obtain ⟨kd, pl, nu, A, c', data, rfl, hw, h1, h2, h3, h4⟩ := op_cells ht
      obtain ⟨b1, b2⟩ := bounds_i64 hw
      have z0 := hat 0 (by decide)
      exact ⟨⟨kd, pl, nu, A, c', data⟩, by simpa [Addr.add] using z0, hat 1 (by decide), hat 2 (by decide), hat 3 (by decide), b1, b2, h1, h2, h3, h4⟩
    by_cases h0 : n = 0
    · exact ⟨some a, n, c, fun _ => ⟨0, 0, 0, none, 0, []⟩, rfl, hl, hm, .inl h0⟩
    · obtain ⟨os, hos⟩ := choose_lt each
      obtain ⟨ab, ao, spot⟩ := a
      have h1 := (hos 0 (by omega)).1
      have hspot : spot = none := by simpa [Addr.add] using World.cell?_spot h1
      subst hspot
      have hlt := World.block_lt_of_cell? _ _ h1
      refine ⟨_, n, c, os, rfl, hl, hm, .inr ⟨ab, ao, rfl, by simpa [Addr.add] using hlt, fun r hr => ?_⟩⟩
      obtain ⟨k0, k1, k2, k3, k4⟩ := hos r hr
      rw [addr_add] at k0 k1 k2 k3
      rw [addr_add] at k1 k2 k3
      exact ⟨k0, k1, k2, k3, k4⟩
end Go.Proofs.Ytcegkpgidineaaa
