/- '==' of two modes: field by field. -/
import Derived.Test.YtinpgccfddmmpaaProg
import Derived.WalkKit
import Derived.Laws.StructEq
import Derived.KernelRfl
namespace Go.Proofs.Ytinpgccfddmmpaa
open Go.RowKit
/-- One bool field, and the others behind it. -/
theorem eqB_cons {P : Program} {d : Nat} {xs ys : Array Value} {f : Field} {fs : List Field} {x y s : Bool} {w : World} (hn : (f.name == "_") = false) (hu : P.underlying f.type = some .bool) (hx : xs[f.offset]? = some (.bool x)) (hy : ys[f.offset]? = some (.bool y))
    (hr : (Op.eqFields (d + 1) xs ys fs).run P w = .ok s w) : (Op.eqFields (d + 1) xs ys (f :: fs)).run P w = .ok (x == y && s) w := by
  have hn' : f.name ≠ "_" := by simpa using hn
  have pa : ∀ (cs : Array Value) (v : Bool), cs[f.offset]? = some (.bool v) → (part f.type cs f.offset).run P w = .ok (.bool v) w := fun cs v h => by
    simp [part, isAgg, run_underlying hu, h, Result.andThen]
  rw [Op.eqFields]
  simp only [if_pos hn', Sem.run_bind, pa xs x hx, pa ys y hy, run_equalIn_bool' w d f.type x y hu, Result.andThen_ok]
  cases e : (x == y)
  · simp
  · simpa using hr
theorem eqB_nil {P : Program} {d : Nat} {xs ys : Array Value} {w : World} : (Op.eqFields d xs ys []).run P w = .ok true w := by simp [Op.eqFields]

theorem eqM (d : Nat) (w : World) (t t' f f' a a' i i' p p' : Bool) :
    (Op.equalIn (d + 2) 23 (.agg #[.bool t, .bool f, .bool a, .bool i, .bool p]) (.agg #[.bool t', .bool f', .bool a', .bool i', .bool p'])).run Try.prog w = .ok (t == t' && (f == f' && (a == a' && (i == i' && (p == p' && true))))) w := by
  have hf := Try.underlying23
  have hg : Try.prog.underlying 23 = some (.struct (Try.prog.fieldsOf 23)) := by simp [Program.fieldsOf, hf]
  rw [run_equalIn_struct w (d + 1) 23 _ _ hg (by kernel_rfl)]
  simp only [Program.fieldsOf, hf]
  refine eqB_cons rfl Try.underlying4 rfl rfl ?_
  refine eqB_cons rfl Try.underlying4 rfl rfl ?_
  refine eqB_cons rfl Try.underlying4 rfl rfl ?_
  refine eqB_cons rfl Try.underlying4 rfl rfl ?_
  refine eqB_cons rfl Try.underlying4 rfl rfl ?_
  exact eqB_nil
end Go.Proofs.Ytinpgccfddmmpaa
