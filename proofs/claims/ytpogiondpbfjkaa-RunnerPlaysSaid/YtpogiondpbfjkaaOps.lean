/- What came in, opened: a slice of things to do. -/
import Derived.Test.YtpogiondpbfjkaaPlays
import Derived.Test.YtpogiondpbfjkaaOpens
namespace Go.Proofs.Ytpogiondpbfjkaa
open Go.ChangeShapes Go.WideShapes Go.ChangeAt Go.RowKit Go.Deep
instance opInInh : Inhabited OpIn := ⟨⟨0, 0, 0, 0⟩⟩
variable {H : Type} {enc : TypeId × Value → H} {w : World}
theorem cells46 : Try.prog.cellsOf 46 = 4 := by kernel_rfl
/-- One thing's four cells. -/
theorem op_cells {fuel : Nat} {cs : List Value} {x : DataW H × List MemPlace} (h : DataW.trod enc Try.prog w 0 (fun _ => true) true fuel 46 cs = some x) :
    ∃ k n no rp, cs = [.int .i64 k, .int .i64 n, .int .i64 no, .int .i64 rp] := by
  obtain ⟨xs, n, _, _, hlen, hxl, hg⟩ := DataW.trod_struct Try.underlying46 h
  rw [cells46] at hlen
  match cs, hlen with
  | [v0, v1, v2, v3], _ =>
    match xs, hxl with
    | [y0, y1, y2, y3], _ =>
      have h0 : DataW.trod enc Try.prog w 0 (fun _ => true) true n 3 (([v0, v1, v2, v3].drop 0).take (Try.prog.cellsOf 3)) = some y0 := hg 0 _ rfl
      have h1 : DataW.trod enc Try.prog w 0 (fun _ => true) true n 3 (([v0, v1, v2, v3].drop 1).take (Try.prog.cellsOf 3)) = some y1 := hg 1 _ rfl
      have h2 : DataW.trod enc Try.prog w 0 (fun _ => true) true n 3 (([v0, v1, v2, v3].drop 2).take (Try.prog.cellsOf 3)) = some y2 := hg 2 _ rfl
      have h3 : DataW.trod enc Try.prog w 0 (fun _ => true) true n 3 (([v0, v1, v2, v3].drop 3).take (Try.prog.cellsOf 3)) = some y3 := hg 3 _ rfl
      rw [cells3] at h0 h1 h2 h3
      simp only [List.drop, List.take] at h0 h1 h2 h3
      obtain ⟨k, e0, _, _⟩ := DataW.trod_int Try.underlying3 h0
      obtain ⟨n, e1, _, _⟩ := DataW.trod_int Try.underlying3 h1
      obtain ⟨no, e2, _, _⟩ := DataW.trod_int Try.underlying3 h2
      obtain ⟨rp, e3, _, _⟩ := DataW.trod_int Try.underlying3 h3
      simp only [List.cons.injEq, and_true] at e0 e1 e2 e3
      subst e0 e1 e2 e3
      exact ⟨k, n, no, rp, rfl⟩
theorem open_ops {v : Value} {d : DataW H} {p : List MemPlace} {base : Nat} (hv : Value.okWide Try.prog w .any base 42 v) (h : DataW.Trod enc Try.prog w 0 (fun _ => true) true 42 v d p) :
    ∃ O n c os, v = .slice O n c ∧ n ≤ 9223372036854775807 ∧ OpsIn w O n os := by
  obtain ⟨O, n, c, rfl⟩ := okWide_slice Try.underlying42 hv
  obtain ⟨fuel, hf⟩ := h
  rcases open_slice Try.underlying42 hf with ⟨hcs, _⟩ | ⟨a, len, cap, m, k, D, Pl, hcs, _, hl, hm, hmm, _, hi⟩
  · simp [Value.cells] at hcs
    obtain ⟨rfl, rfl, rfl⟩ := hcs
    exact ⟨none, 0, 0, fun _ => ⟨0, 0, 0, 0⟩, rfl, by decide, .inl rfl⟩
  · simp [Value.cells] at hcs
    obtain ⟨rfl, rfl, rfl⟩ := hcs
    have each : ∀ r, r < n → ∃ o : OpIn, w.cell? (a.add (r * 4)) = some (.int .i64 o.kind) ∧ w.cell? ((a.add (r * 4)).add 1) = some (.int .i64 o.n) ∧ w.cell? ((a.add (r * 4)).add 2) = some (.int .i64 o.no) ∧ w.cell? ((a.add (r * 4)).add 3) = some (.int .i64 o.rep) := fun r hr => by
      obtain ⟨cs', hc, ht⟩ := hi r (by simp only [if_true] at hmm; omega)
      rw [cells46] at hc
      obtain ⟨_, _, hat⟩ := World.cells?_some hc
      obtain ⟨k, n, no, rp, rfl⟩ := op_cells ht
      have z0 := hat 0 (by decide)
      exact ⟨⟨k, n, no, rp⟩, by simpa [Addr.add] using z0, hat 1 (by decide), hat 2 (by decide), hat 3 (by decide)⟩
    by_cases h0 : n = 0
    · exact ⟨some a, n, c, fun _ => ⟨0, 0, 0, 0⟩, rfl, Nat.le_trans hl hm, .inl h0⟩
    · obtain ⟨os, hos⟩ := choose_lt each
      obtain ⟨ab, ao, spot⟩ := a
      have h1 := (hos 0 (by omega)).1
      have hspot : spot = none := by simpa [Addr.add] using World.cell?_spot h1
      subst hspot
      have hlt := World.block_lt_of_cell? _ _ h1
      refine ⟨_, n, c, os, rfl, Nat.le_trans hl hm, .inr ⟨ab, ao, rfl, by simpa [Addr.add] using hlt, fun r hr => ?_⟩⟩
      obtain ⟨k0, k1, k2, k3⟩ := hos r hr
      rw [addr_add] at k0 k1 k2 k3
      rw [addr_add] at k1 k2 k3
      exact ⟨k0, k1, k2, k3⟩
end Go.Proofs.Ytpogiondpbfjkaa
