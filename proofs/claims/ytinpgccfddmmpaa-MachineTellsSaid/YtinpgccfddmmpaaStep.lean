/- machine.Step: the table is made, looked into, and what stands there is called: five bools and an event come to five bools, and whether they are others. -/
import Derived.Test.YtinpgccfddmmpaaTurns
import Derived.Test.YtinpgccfddmmpaaMaps
import Derived.Deep.RegionHeld3
import Derived.RegionTactic
import Derived.BigRegion
import Derived.Test.YtinpgccfddmmpaaEq
namespace Go.Proofs.Ytinpgccfddmmpaa
open Go.RowKit
theorem heap_top' {w : World} {o : Obj} {n : Nat} (h : n = w.heap.size) : (w.alloc o).heap[n]? = some o := by subst h; exact heap_top w o
theorem heap_top0 {w : World} {o : Obj} : (w.alloc o).heap[w.heap.size]? = some o := heap_top w o
theorem heap_old {w : World} {o x : Obj} {n : Nat} (h : w.heap[n]? = some x) : (w.alloc o).heap[n]? = some x := by
  have := (Array.getElem?_eq_some_iff.1 h).1
  rw [← h]; exact (MapKept.heap_alloc w o).2 n this
theorem heap_drew {w : World} {x : Obj} {n : Nat} (h : w.heap[n]? = some x) : w.drew.heap[n]? = some x := h
theorem cell_top {w : World} {c : Array Value} {t : TypeId} {n i : Nat} {v : Value} (hn : n = w.heap.size) (hv : c[i]? = some v) : (w.alloc (.cells c t)).cell? ⟨n, i, none⟩ = some v := by subst hn; rw [World.cell?_alloc_new]; exact hv
theorem cell_top0 {w : World} {c : Array Value} {t : TypeId} {i : Nat} {v : Value} (hv : c[i]? = some v) : (w.alloc (.cells c t)).cell? ⟨w.heap.size, i, none⟩ = some v := by rw [World.cell?_alloc_new]; exact hv
theorem cell_old {w : World} {o : Obj} {a : Addr} {v : Value} (h : w.cell? a = some v) : (w.alloc o).cell? a = some v := by rw [World.cell?_alloc_some w a o (by rw [h]; rfl)]; exact h
theorem cell_drew {w : World} {a : Addr} {v : Value} (h : w.cell? a = some v) : w.drew.cell? a = some v := h
/-- What a turn does: five bools into five. -/
def TurnIs (n : Nat) (t f a i p t' f' a' i' p' : Bool) : Prop := ∀ w : World, Calls Try.prog n #[.agg #[.bool t, .bool f, .bool a, .bool i, .bool p]] w fun e w' => e = .returned (.agg #[.bool t', .bool f', .bool a', .bool i', .bool p']) ∧ (w.alloc (.cells #[.bool t', .bool f', .bool a', .bool i', .bool p'] 23)).alloc (.cells #[.bool t', .bool f', .bool a', .bool i', .bool p'] 23) = w'
def AtIs (k : Int) (n : Nat) : Prop := ∀ (r : Nat) (w : World), w.heap[r]? = some (.map turnEntries 8) → Calls Try.prog 19 #[.map (some r), .int .i64 k, .func (.func 21) #[] #[]] w fun e w' => e = .returned (fnv n) ∧ w = w'
attribute [local go_sem high] eqM
set_option maxHeartbeats 4000000 in
theorem step_gen (k : Int) (n : Nat) (t f a i p t' f' a' i' p' : Bool) (hcf : ∀ (args : Array Value) (w : World), (callFunc n args).run Try.prog w = .ok (.enter n args) w) (hat : AtIs k n) (hturn : TurnIs n t f a i p t' f' a' i' p') (w : World) :
    Calls Try.prog 10 #[.agg #[.bool t, .bool f, .bool a, .bool i, .bool p], .int .i64 k] w fun e w' => e = .returned (.tuple #[.agg #[.bool t', .bool f', .bool a', .bool i', .bool p'], .bool (!(t' == t && (f' == f && (a' == a && (i' == i && p' == p)))))]) ∧ Below w.heap.size w w' := by
  go_enter Try.func10, Try.ntmps10
  go_wp2
  go_region_held3 (fun w' => w'.cell? ⟨w.heap.size, 0, none⟩ = some (.bool t) ∧ w'.cell? ⟨w.heap.size, 1, none⟩ = some (.bool f) ∧ w'.cell? ⟨w.heap.size, 2, none⟩ = some (.bool a) ∧ w'.cell? ⟨w.heap.size, 3, none⟩ = some (.bool i) ∧ w'.cell? ⟨w.heap.size, 4, none⟩ = some (.bool p)) (refine ⟨?_, ?_, ?_, ?_, ?_⟩ <;> (repeat (first | ((with_reducible refine cell_top0 ?_); exact rfl) | (with_reducible refine cell_drew ?_) | (with_reducible refine cell_old ?_)))) (first | (go_at_call 20; refine (turns_any _).mono ?_; rintro e w' ⟨rfl, rfl⟩) | (go_at_call 19; refine (hat _ _ (by repeat (first | ((with_reducible refine heap_top' ?_); simp; done) | (with_reducible refine heap_drew ?_) | (with_reducible refine heap_old ?_)))).mono ?_; rintro e w' ⟨rfl, rfl⟩) | (refine (hturn _).mono ?_; rintro e w' ⟨rfl, rfl⟩))
  all_goals
    go_wp2
    go_region
    go_wp2
    refine bodyPost_ret (v := .tuple #[.agg #[.bool t', .bool f', .bool a', .bool i', .bool p'], .bool (!(t' == t && (f' == f && (a' == a && (i' == i && p' == p)))))]) ?_ rfl ⟨rfl, ?_⟩
    · simp [results, Try.results10, go_sem]
    · repeat (first | exact Below.refl _ _ | (refine Below.alloc ?_ (by first | (simp; done) | (simp; omega)) _) | (refine Below.setCell ?_ (by simp) _) | refine Below.drew ?_)
end Go.Proofs.Ytinpgccfddmmpaa
