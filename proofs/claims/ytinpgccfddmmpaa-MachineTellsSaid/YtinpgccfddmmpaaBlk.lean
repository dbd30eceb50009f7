/- Small facts on blocks: what a block holds stays behind new blocks, draws, stores elsewhere, and calls that make memory. -/
import Derived.Test.YtinpgccfddmmpaaInto
import Derived.Test.YtinpgccfddmmpaaTwice
namespace Go.Proofs.Ytinpgccfddmmpaa
open Go.RowKit
theorem keep_blk {X y : World} {b : Nat} {o : Obj} (hb : Below X.heap.size X y) (h : X.heap[b]? = some o) : y.heap[b]? = some o := by
  rw [hb.block b (Array.getElem?_eq_some_iff.1 h).1]; exact h
theorem blk_lt {y : World} {b : Nat} {o : Obj} (h : y.heap[b]? = some o) : b < y.heap.size := (Array.getElem?_eq_some_iff.1 h).1
theorem set5_same {w : World} {b t : Nat} {x0 x1 x2 x3 x4 a0 a1 a2 a3 a4 : Value} (h : w.heap[b]? = some (.cells #[x0, x1, x2, x3, x4] t)) :
    (((((w.setCell ⟨b, 0, none⟩ a0).setCell ⟨b, 1, none⟩ a1).setCell ⟨b, 2, none⟩ a2).setCell ⟨b, 3, none⟩ a3).setCell ⟨b, 4, none⟩ a4).heap[b]? = some (.cells #[a0, a1, a2, a3, a4] t) :=
  heap_set_same (heap_set_same (heap_set_same (heap_set_same (heap_set_same h))))
theorem set5_other {w : World} {b c : Nat} {o : Obj} {a0 a1 a2 a3 a4 : Value} (hne : b ≠ c) (h : w.heap[c]? = some o) :
    (((((w.setCell ⟨b, 0, none⟩ a0).setCell ⟨b, 1, none⟩ a1).setCell ⟨b, 2, none⟩ a2).setCell ⟨b, 3, none⟩ a3).setCell ⟨b, 4, none⟩ a4).heap[c]? = some o :=
  heap_set_other hne (heap_set_other hne (heap_set_other hne (heap_set_other hne (heap_set_other hne h))))
theorem below_set5 {a x : World} {b : Nat} {a0 a1 a2 a3 a4 : Value} (h : Below a.heap.size a x) (hb : a.heap.size ≤ b) :
    Below a.heap.size a (((((x.setCell ⟨b, 0, none⟩ a0).setCell ⟨b, 1, none⟩ a1).setCell ⟨b, 2, none⟩ a2).setCell ⟨b, 3, none⟩ a3).setCell ⟨b, 4, none⟩ a4) :=
  ((((h.setCell hb _).setCell hb _).setCell hb _).setCell hb _).setCell hb _
theorem keep_cell {X y : World} {a : Addr} {v : Value} (hb : Below X.heap.size X y) (h : X.cell? a = some v) : y.cell? a = some v := by
  rw [hb.cell (World.block_lt_of_cell? X a h)]; exact h
theorem cell_lt {w : World} {o : Obj} {b i : Nat} (h : b < w.heap.size) : (w.alloc o).cell? ⟨b, i, none⟩ = w.cell? ⟨b, i, none⟩ := World.cell?_alloc_lt w o ⟨b, i, none⟩ h
theorem stepE (k : Int) (t f a i p t' f' a' i' p' : Bool) (h : stepM k ⟨t, f, a, i, p⟩ = ⟨t', f', a', i', p'⟩) (w : World) : Calls Try.prog 10 #[.agg #[.bool t, .bool f, .bool a, .bool i, .bool p], .int .i64 k] w fun e w' => e = .returned (.tuple #[.agg #[.bool t', .bool f', .bool a', .bool i', .bool p'], .bool (chM k ⟨t, f, a, i, p⟩)]) ∧ Below w.heap.size w w' :=
  (step_any k t f a i p w).mono (by rintro e w' ⟨rfl, hb⟩; exact ⟨by rw [h], hb⟩)
end Go.Proofs.Ytinpgccfddmmpaa
