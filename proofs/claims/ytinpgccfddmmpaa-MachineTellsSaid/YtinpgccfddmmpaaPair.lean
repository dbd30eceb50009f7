/- The map of Into: keys are pairs of bools; its three entries may be laid in any order. -/
import Derived.Test.YtinpgccfddmmpaaStep
namespace Go.Proofs.Ytinpgccfddmmpaa
open Go.RowKit
@[reducible] def pr (t f : Bool) : Value := .agg #[.bool t, .bool f]
@[reducible] def ent2 (t f : Bool) (v : Int) (b : Nat) : MapEntry := ⟨pr t f, .int .i64 v, b⟩
/-- The subscription of both ways. -/
def subOf (t f : Bool) : Int := (if t then 1 else 0) + (if f then 2 else 0)
/-- A table that has all three. -/
def TabOk (es : Array MapEntry) : Prop :=
  (∃ i, ∀ w, (Instr.findKey 59 (pr true false) es.toList).run Try.prog w = .ok (some (i, .int .i64 1)) w) ∧
  (∃ i, ∀ w, (Instr.findKey 59 (pr false true) es.toList).run Try.prog w = .ok (some (i, .int .i64 2)) w) ∧
  (∃ i, ∀ w, (Instr.findKey 59 (pr true true) es.toList).run Try.prog w = .ok (some (i, .int .i64 3)) w) ∧
  (∀ w, (Instr.findKey 59 (pr false false) es.toList).run Try.prog w = .ok none w)
theorem check_pr (t f e : Bool) (w : World) : (Instr.checkKey e 10000 59 (pr t f)).run Try.prog w = .ok () w := by
  cases t <;> cases f <;> cases e <;> kernel_rfl
set_option maxHeartbeats 400000 in
theorem at2_there (t f : Bool) (v : Int) (i r c : Nat) (es : Array MapEntry) (w : World) (hb : w.heap[r]? = some (.map es c)) (hn : ∀ w, (Instr.findKey 59 (pr t f) es.toList).run Try.prog w = .ok (some (i, .int .i64 v)) w) :
    Calls Try.prog 24 #[.map (some r), .agg #[.bool t, .bool f], .int .i64 0] w fun e w' => e = .returned (.int .i64 v) ∧ w.alloc (.cells #[.bool t, .bool f] 59) = w' := by
  have hl := look_there Try.underlying61 (heap_old (o := .cells #[.bool t, .bool f] 59) hb) (pr t f) (.int .i64 v) i (fun _ _ => check_pr t f _ _) hn
  clear hb hn
  go_enter Try.func24, Try.ntmps24
  go_wp2
  go_ret
  exact ⟨rfl, rfl⟩
set_option maxHeartbeats 400000 in
theorem at2_none (t f : Bool) (r c : Nat) (es : Array MapEntry) (w : World) (hb : w.heap[r]? = some (.map es c)) (hn : ∀ w, (Instr.findKey 59 (pr t f) es.toList).run Try.prog w = .ok none w) :
    Calls Try.prog 24 #[.map (some r), .agg #[.bool t, .bool f], .int .i64 0] w fun e w' => e = .returned (.int .i64 0) ∧ w.alloc (.cells #[.bool t, .bool f] 59) = w' := by
  have hl := look_none Try.underlying61 (heap_old (o := .cells #[.bool t, .bool f] 59) hb) (pr t f) (.int .i64 0) (fun _ _ => check_pr t f _ _) hn (by kernel_rfl)
  clear hb hn
  go_enter Try.func24, Try.ntmps24
  go_wp2
  go_ret
  exact ⟨rfl, rfl⟩
theorem at2_any (t f : Bool) (r c : Nat) (es : Array MapEntry) (w : World) (hb : w.heap[r]? = some (.map es c)) (ht : TabOk es) :
    Calls Try.prog 24 #[.map (some r), .agg #[.bool t, .bool f], .int .i64 0] w fun e w' => e = .returned (.int .i64 (subOf t f)) ∧ w.alloc (.cells #[.bool t, .bool f] 59) = w' := by
  obtain ⟨⟨i, hi⟩, ⟨j, hj⟩, ⟨k, hk⟩, hz⟩ := ht
  cases t <;> cases f
  · exact at2_none _ _ r c es w hb hz
  · exact at2_there _ _ _ j r c es w hb hj
  · exact at2_there _ _ _ i r c es w hb hi
  · exact at2_there _ _ _ k r c es w hb hk
theorem tab123 : TabOk #[ent2 true false 1 0, ent2 false true 2 1, ent2 true true 3 2] := ⟨⟨0, fun _ => by kernel_rfl⟩, ⟨1, fun _ => by kernel_rfl⟩, ⟨2, fun _ => by kernel_rfl⟩, fun _ => by kernel_rfl⟩
theorem tab132 : TabOk #[ent2 true false 1 0, ent2 true true 3 1, ent2 false true 2 2] := ⟨⟨0, fun _ => by kernel_rfl⟩, ⟨2, fun _ => by kernel_rfl⟩, ⟨1, fun _ => by kernel_rfl⟩, fun _ => by kernel_rfl⟩
theorem tab213 : TabOk #[ent2 false true 2 0, ent2 true false 1 1, ent2 true true 3 2] := ⟨⟨1, fun _ => by kernel_rfl⟩, ⟨0, fun _ => by kernel_rfl⟩, ⟨2, fun _ => by kernel_rfl⟩, fun _ => by kernel_rfl⟩
theorem tab231 : TabOk #[ent2 false true 2 0, ent2 true true 3 1, ent2 true false 1 2] := ⟨⟨2, fun _ => by kernel_rfl⟩, ⟨0, fun _ => by kernel_rfl⟩, ⟨1, fun _ => by kernel_rfl⟩, fun _ => by kernel_rfl⟩
theorem tab312 : TabOk #[ent2 true true 3 0, ent2 true false 1 1, ent2 false true 2 2] := ⟨⟨1, fun _ => by kernel_rfl⟩, ⟨2, fun _ => by kernel_rfl⟩, ⟨0, fun _ => by kernel_rfl⟩, fun _ => by kernel_rfl⟩
theorem tab321 : TabOk #[ent2 true true 3 0, ent2 false true 2 1, ent2 true false 1 2] := ⟨⟨2, fun _ => by kernel_rfl⟩, ⟨1, fun _ => by kernel_rfl⟩, ⟨0, fun _ => by kernel_rfl⟩, fun _ => by kernel_rfl⟩

/-- An entry that is laid, three blocks and a draw later. -/
theorem ins_step (w : World) (A B C : Obj) (es es' : Array MapEntry) (c c' : Nat) (t f : Bool) (v : Int) (hn : ∀ w, (Instr.findKey 59 (pr t f) es.toList).run Try.prog w = .ok none w) (he : es.push (ent2 t f v c) = es') (hcl : c + 1 = c') :
    (Instr.mapUpdate 61 (.map (some (w.heap.size + 1 + 1 + 1))) (.agg #[.bool t, .bool f]) (.int .i64 v)).run Try.prog ((((w.alloc A).alloc B).alloc C).alloc (.map es c)).drew = .ok () ((((w.alloc A).alloc B).alloc C).alloc (.map es' c')).drew := by
  have h := upd_new Try.underlying61 (((w.alloc A).alloc B).alloc C).drew es es' c c' (pr t f) (.int .i64 v) (fun _ => check_pr t f _ _) hn he hcl
  have e : (((w.alloc A).alloc B).alloc C).drew.heap.size = w.heap.size + 1 + 1 + 1 := by simp
  rw [e] at h
  exact h
end Go.Proofs.Ytinpgccfddmmpaa
