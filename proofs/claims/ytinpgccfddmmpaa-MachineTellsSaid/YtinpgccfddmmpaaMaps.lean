/- The two small maps of package machine: made out of a literal, and looked into. -/
import Derived.Test.YtinpgccfddmmpaaProg
import Derived.WalkKit
import Derived.WalkSpells
import Derived.WalkLawsBesides
import Derived.Lib.Hide
namespace Go.Proofs.Ytinpgccfddmmpaa
open Go.RowKit

theorem heap_top (w : World) (o : Obj) : (w.alloc o).heap[w.heap.size]? = some o := by show (w.heap.push _)[w.heap.size]? = _; simp
theorem set_top (w : World) (o o' : Obj) : ({(w.alloc o) with heap := (w.alloc o).heap.setIfInBounds w.heap.size o'} : World) = w.alloc o' := by
  show ({w with heap := (w.heap.push o).setIfInBounds w.heap.size o'} : World) = {w with heap := w.heap.push o'}
  congr 1
  apply Array.ext_getElem?
  intro i
  rw [Array.getElem?_setIfInBounds, Array.getElem?_push, Array.getElem?_push]
  by_cases e : w.heap.size = i
  · simp [e]
  · simp [e, Ne.symm e]
theorem setObj_top {P : Program} (w : World) (es : Array MapEntry) (c : Nat) (o' : Obj) : (setObj w.heap.size o').run P (w.alloc (.map es c)) = .ok () (w.alloc o') := by
  simp only [setObj, Sem.run, heap_top, set_top]
theorem getObj_top {P : Program} (w : World) (es : Array MapEntry) (c : Nat) : (getObj w.heap.size).run P (w.alloc (.map es c)) = .ok (.map es c) (w.alloc (.map es c)) := by
  simp only [getObj, Sem.run, heap_top]

/-- A literal's entry, under a key that is not there yet. -/
theorem upd_new {P : Program} {t K E : TypeId} (ht : P.underlying t = some (.map K E)) (w : World) (es es' : Array MapEntry) (clock c' : Nat) (k v : Value)
    (hc : ∀ w, (Instr.checkKey false 10000 K k).run P w = .ok () w) (hn : ∀ w, (Instr.findKey K k es.toList).run P w = .ok none w) (he : es.push ⟨k, v, clock⟩ = es') (hcl : clock + 1 = c') :
    (Instr.mapUpdate t (.map (some w.heap.size)) k v).run P (w.alloc (.map es clock)) = .ok () (w.alloc (.map es' c')) := by
  subst he; subst hcl
  simp [Instr.mapUpdate, run_underlying ht, getObj_top, setObj_top, hc, hn, Result.andThen]
/-- 'v, ok := m[k]', found. -/
theorem look_there {P : Program} {t K E : TypeId} (ht : P.underlying t = some (.map K E)) {w : World} {r : Nat} {es : Array MapEntry} {clock : Nat} (hb : w.heap[r]? = some (.map es clock)) (k v : Value) (i : Nat)
    (hc : ∀ e w, (Instr.checkKey e 10000 K k).run P w = .ok () w) (hn : ∀ w, (Instr.findKey K k es.toList).run P w = .ok (some (i, v)) w) :
    (Instr.lookup t (.map (some r)) k true).run P w = .ok (.tuple #[v, .bool true]) w := by
  simp [Instr.lookup, run_underlying ht, MapKept.run_getObj_map hb, hc, hn, Result.andThen]
/-- 'v, ok := m[k]', not found. -/
theorem look_none {P : Program} {t K E : TypeId} (ht : P.underlying t = some (.map K E)) {w : World} {r : Nat} {es : Array MapEntry} {clock : Nat} (hb : w.heap[r]? = some (.map es clock)) (k z : Value)
    (hc : ∀ e w, (Instr.checkKey e 10000 K k).run P w = .ok () w) (hn : ∀ w, (Instr.findKey K k es.toList).run P w = .ok none w) (hz : (zeroValue E).run P w = .ok z w) :
    (Instr.lookup t (.map (some r)) k true).run P w = .ok (.tuple #[z, .bool false]) w := by
  simp [Instr.lookup, run_underlying ht, MapKept.run_getObj_map hb, hc, hn, hz, Result.andThen]

@[reducible] def fnv (f : Nat) : Value := .func (.func f) #[] #[]
@[reducible] def ent (k : Int) (f : Nat) (b : Nat) : MapEntry := ⟨.int .i64 k, fnv f, b⟩
def turnEntries : Array MapEntry := #[ent 1 25 0, ent 2 26 1, ent 3 27 2, ent 4 28 3, ent 5 29 4, ent 6 30 5, ent 7 31 6, ent 8 26 7]

theorem ent_step (w : World) (es es' : Array MapEntry) (c c' : Nat) (k : Int) (f : Nat) (hn : Instr.findNow (.int .i64) (.int .i64 k) es.toList 0 = some none) (he : es.push (ent k f c) = es') (hcl : c + 1 = c') :
    (Instr.mapUpdate 46 (.map (some w.heap.size)) (.int .i64 k) (.func (.func f) #[] #[])).run Try.prog (w.alloc (.map es c)) = .ok () (w.alloc (.map es' c')) :=
  upd_new Try.underlying46 w _ _ _ _ _ _ (fun _ => MapKept.run_checkKey Try.underlying3 (by trivial) _ 9999) (fun _ => MapKept.run_findKey Try.underlying3 hn) he hcl

set_option maxHeartbeats 400000 in
theorem turns_any (w : World) :
    Calls Try.prog 20 #[] w fun e w' => e = .returned (.map (some w.heap.size)) ∧ w.alloc (.map turnEntries 8) = w' := by
  have hmm := @run_makeMap Try.prog
  have u1 := ent_step w #[] _ 0 _ 1 25 rfl rfl rfl
  have u2 := ent_step w #[ent 1 25 0] _ 1 _ 2 26 rfl rfl rfl
  have u3 := ent_step w #[ent 1 25 0, ent 2 26 1] _ 2 _ 3 27 rfl rfl rfl
  have u4 := ent_step w #[ent 1 25 0, ent 2 26 1, ent 3 27 2] _ 3 _ 4 28 rfl rfl rfl
  have u5 := ent_step w #[ent 1 25 0, ent 2 26 1, ent 3 27 2, ent 4 28 3] _ 4 _ 5 29 rfl rfl rfl
  have u6 := ent_step w #[ent 1 25 0, ent 2 26 1, ent 3 27 2, ent 4 28 3, ent 5 29 4] _ 5 _ 6 30 rfl rfl rfl
  have u7 := ent_step w #[ent 1 25 0, ent 2 26 1, ent 3 27 2, ent 4 28 3, ent 5 29 4, ent 6 30 5] _ 6 _ 7 31 rfl rfl rfl
  have u8 := ent_step w #[ent 1 25 0, ent 2 26 1, ent 3 27 2, ent 4 28 3, ent 5 29 4, ent 6 30 5, ent 7 31 6] _ 7 _ 8 26 rfl rfl rfl
  simp only [List.push_toArray, List.nil_append, List.cons_append, Nat.reduceAdd, ent, fnv] at u1 u2 u3 u4 u5 u6 u7 u8
  go_enter Try.func20, Try.ntmps20
  go_wp2
  go_ret
  exact ⟨rfl, rfl⟩

/-- What stands in the table at an event; 21: nothing. -/
def turnOf (k : Int) : Nat := if k = 1 then 25 else if k = 2 then 26 else if k = 3 then 27 else if k = 4 then 28 else if k = 5 then 29 else if k = 6 then 30 else if k = 7 then 31 else if k = 8 then 26 else 21

set_option maxHeartbeats 400000 in
theorem at_turn (k : Int) (f i r : Nat) (w : World) (hb : w.heap[r]? = some (.map turnEntries 8)) (hn : Instr.findNow (.int .i64) (.int .i64 k) turnEntries.toList 0 = some (some (i, fnv f))) :
    Calls Try.prog 19 #[.map (some r), .int .i64 k, .func (.func 21) #[] #[]] w fun e w' => e = .returned (fnv f) ∧ w = w' := by
  have hl := look_there Try.underlying46 hb (.int .i64 k) (fnv f) i (fun _ _ => MapKept.run_checkKey Try.underlying3 (by trivial) _ 9999) (fun _ => MapKept.run_findKey Try.underlying3 hn)
  clear hb hn
  go_enter Try.func19, Try.ntmps19
  go_wp2
  go_ret
  exact ⟨rfl, rfl⟩
set_option maxHeartbeats 400000 in
theorem at_none (k : Int) (r : Nat) (w : World) (hb : w.heap[r]? = some (.map turnEntries 8)) (hn : Instr.findNow (.int .i64) (.int .i64 k) turnEntries.toList 0 = some none) :
    Calls Try.prog 19 #[.map (some r), .int .i64 k, .func (.func 21) #[] #[]] w fun e w' => e = .returned (fnv 21) ∧ w = w' := by
  have hl := look_none Try.underlying46 hb (.int .i64 k) .nilFunc (fun _ _ => MapKept.run_checkKey Try.underlying3 (by trivial) _ 9999) (fun _ => MapKept.run_findKey Try.underlying3 hn) (by kernel_rfl)
  clear hb hn
  go_enter Try.func19, Try.ntmps19
  go_wp2
  go_ret
  exact ⟨rfl, rfl⟩
end Go.Proofs.Ytinpgccfddmmpaa
