/- Small facts on worlds, blocks and rows of bytes: what a block holds stays behind new blocks, draws, stores elsewhere, and calls that make memory. -/
import Derived.Test.YtpogiondpbfjkaaProg
import Derived.WalkKit
import Derived.WalkSpells
import Derived.WalkLawsBesides
import Derived.Lib.Hide
import Derived.Deep.RegionHeld3
import Derived.KernelRfl
namespace Go.Proofs.Ytpogiondpbfjkaa
open Go.RowKit

theorem heap_top0 {w : World} {o : Obj} : (w.alloc o).heap[w.heap.size]? = some o := by show (w.heap.push _)[w.heap.size]? = _; simp
theorem heap_top' {w : World} {o : Obj} {n : Nat} (h : n = w.heap.size) : (w.alloc o).heap[n]? = some o := by subst h; exact heap_top0
theorem heap_old {w : World} {o x : Obj} {n : Nat} (h : w.heap[n]? = some x) : (w.alloc o).heap[n]? = some x := by
  have hl := (Array.getElem?_eq_some_iff.1 h).1
  rw [← h]; show (w.heap.push o)[n]? = _; rw [Array.getElem?_push, if_neg (Nat.ne_of_lt hl)]
theorem heap_drew {w : World} {x : Obj} {n : Nat} (h : w.heap[n]? = some x) : w.drew.heap[n]? = some x := h
theorem heap_drewN {w : World} {x : Obj} {n m : Nat} (h : w.heap[n]? = some x) : (w.drewN m).heap[n]? = some x := h
theorem cell_top {w : World} {c : Array Value} {t : TypeId} {n i : Nat} {v : Value} (hn : n = w.heap.size) (hv : c[i]? = some v) : (w.alloc (.cells c t)).cell? ⟨n, i, none⟩ = some v := by subst hn; rw [World.cell?_alloc_new]; exact hv
theorem cell_top0 {w : World} {c : Array Value} {t : TypeId} {i : Nat} {v : Value} (hv : c[i]? = some v) : (w.alloc (.cells c t)).cell? ⟨w.heap.size, i, none⟩ = some v := by rw [World.cell?_alloc_new]; exact hv
theorem cell_old {w : World} {o : Obj} {a : Addr} {v : Value} (h : w.cell? a = some v) : (w.alloc o).cell? a = some v := by rw [World.cell?_alloc_some w a o (by rw [h]; rfl)]; exact h
theorem cell_drew {w : World} {a : Addr} {v : Value} (h : w.cell? a = some v) : w.drew.cell? a = some v := h
theorem cell_lt {w : World} {o : Obj} {b i : Nat} (h : b < w.heap.size) : (w.alloc o).cell? ⟨b, i, none⟩ = w.cell? ⟨b, i, none⟩ := World.cell?_alloc_lt w o ⟨b, i, none⟩ h
theorem keep_blk {X y : World} {b : Nat} {o : Obj} (hb : Below X.heap.size X y) (h : X.heap[b]? = some o) : y.heap[b]? = some o := by
  rw [hb.block b (Array.getElem?_eq_some_iff.1 h).1]; exact h
theorem keep_cell {X y : World} {a : Addr} {v : Value} (hb : Below X.heap.size X y) (h : X.cell? a = some v) : y.cell? a = some v := by
  rw [hb.cell (World.block_lt_of_cell? X a h)]; exact h
theorem blk_lt {y : World} {b : Nat} {o : Obj} (h : y.heap[b]? = some o) : b < y.heap.size := (Array.getElem?_eq_some_iff.1 h).1
theorem blk_cells {w : World} {b : Nat} {cs : Array Value} {t : TypeId} (h : w.heap[b]? = some (.cells cs t)) : (∀ i, w.cell? ⟨b, i, none⟩ = cs[i]?) ∧ (∀ i, w.frozen? ⟨b, i, none⟩ = false) :=
  ⟨fun i => by simp [World.cell?, h], fun i => by simp [World.frozen?, h]⟩
theorem heap_set_same {w : World} {b i : Nat} {cs : Array Value} {t : TypeId} {v : Value} (h : w.heap[b]? = some (.cells cs t)) : (w.setCell ⟨b, i, none⟩ v).heap[b]? = some (.cells (cs.setIfInBounds i v) t) := by
  simp [World.setCell, Array.getElem?_modify, h]
theorem heap_set_other {w : World} {b c i : Nat} {o : Obj} {v : Value} (hne : b ≠ c) (h : w.heap[c]? = some o) : (w.setCell ⟨b, i, none⟩ v).heap[c]? = some o := by
  simp [World.setCell, Array.getElem?_modify, h, hne]
theorem below_call {a x y : World} (h : Below a.heap.size a x) (k : Below x.heap.size x y) : Below a.heap.size a y := h.trans (k.mono h.size)
theorem below_new {a x : World} (h : Below a.heap.size a x) (o : Obj) : Below a.heap.size a (x.alloc o) := h.alloc h.size o
theorem below_drewNs {a x : World} {n : Nat} (h : Below a.heap.size a x) : Below a.heap.size a (x.drewN n) := ⟨h.os, h.tape, h.output, h.size, h.block⟩
theorem below_set {a x : World} {b i : Nat} {v : Value} (h : Below a.heap.size a x) (hb : a.heap.size ≤ b) : Below a.heap.size a (x.setCell ⟨b, i, none⟩ v) := h.setCell hb v
theorem addr_add (b off j : Nat) : (⟨b, off, none⟩ : Addr).add j = ⟨b, off + j, none⟩ := by
  unfold Addr.add; split
  · subst j; rfl
  · rfl
theorem quiet_again {P : Program} {f : FuncId} {args : Array Value} {w : World} {a n : Nat} {v : Value} (h : Calls P f args (w.drewN (a + n)) fun e w' => e = .returned v ∧ w' = w.drewN (a + n)) :
    Calls P f args (w.drewN (a + n)) fun e w' => e = .returned v ∧ ∃ m, w' = w.drewN (a + m) := h.mono fun _ _ hh => ⟨hh.1, n, hh.2⟩

/-! ### rows of bytes -/
/-- Numbers as cells. -/
def mk8 (l : List Int) : Array Value := (l.map (Value.int .u8)).toArray
theorem mk8_size (l : List Int) : (mk8 l).size = l.length := by simp [mk8]
theorem mk8_get {l : List Int} {i : Nat} (h : i < l.length) : (mk8 l)[i]? = some (.int .u8 (l.getD i 0)) := by
  simp [mk8, h, List.getD_eq_getElem?_getD]
theorem mk8_set (l : List Int) (i : Nat) (v : Int) : (mk8 l).setIfInBounds i (.int .u8 v) = mk8 (l.set i v) := by
  apply Array.ext_getElem?
  intro j
  simp only [mk8, Array.getElem?_setIfInBounds, List.getElem?_toArray, List.getElem?_map, List.getElem?_set, List.size_toArray, List.length_map]
  split <;> simp_all
/-- All are bytes. -/
def Bytes8 (l : List Int) : Prop := ∀ x ∈ l, 0 ≤ x ∧ x ≤ 255
theorem bytes8_get {l : List Int} (h : Bytes8 l) (i : Nat) : 0 ≤ l.getD i 0 ∧ l.getD i 0 ≤ 255 := by
  rw [List.getD_eq_getElem?_getD]
  cases e : l[i]? with
  | none => exact ⟨by simp, by simp⟩
  | some x => exact h x (List.mem_of_getElem? e)
/-- A slice reads as these bytes: none, or cells of a row. -/
def Read8 (w : World) (A : Option Addr) (l : List Int) : Prop := l = [] ∨ ∃ b off, A = some ⟨b, off, none⟩ ∧ b < w.heap.size ∧ ∀ i, i < l.length → w.cell? ⟨b, off + i, none⟩ = some (.int .u8 (l.getD i 0))
theorem Read8.keep {X y : World} {A : Option Addr} {l : List Int} (h : Read8 X A l) (hb : Below X.heap.size X y) : Read8 y A l := by
  rcases h with h | ⟨b, off, rfl, hlt, hc⟩
  · exact .inl h
  · exact .inr ⟨b, off, rfl, Nat.lt_of_lt_of_le hlt hb.size, fun i hi => keep_cell hb (hc i hi)⟩
end Go.Proofs.Ytpogiondpbfjkaa
