/- Rows of numbers of our own that are counted in; the runner that is nil. -/
import Derived.Test.YtpogiondpbfjkaaAw
namespace Go.Proofs.Ytpogiondpbfjkaa
open Go.RowKit Go.Conc
/-- A row of so many numbers. -/
def Arr (w : World) (g n : Nat) (T : Nat → Int) : Prop := ∃ cs, w.heap[g]? = some (.cells cs 3) ∧ ∀ i, i < n → cs[i]? = some (.int .i64 (T i))
theorem Arr.cell {w : World} {g n : Nat} {T : Nat → Int} (h : Arr w g n T) {i : Nat} (hi : i < n) : w.cell? ⟨g, i, none⟩ = some (.int .i64 (T i)) := by
  obtain ⟨cs, hb, hc⟩ := h; exact ((blk_cells hb).1 i).trans (hc i hi)
theorem Arr.melt {w : World} {g n : Nat} {T : Nat → Int} (h : Arr w g n T) (i : Nat) : w.frozen? ⟨g, i, none⟩ = false := by
  obtain ⟨cs, hb, hc⟩ := h; exact (blk_cells hb).2 i
theorem Arr.lt {w : World} {g n : Nat} {T : Nat → Int} (h : Arr w g n T) : g < w.heap.size := by obtain ⟨cs, hb, _⟩ := h; exact blk_lt hb
theorem Arr.set {w : World} {g n : Nat} {T : Nat → Int} (h : Arr w g n T) (i : Nat) (hi : i < n) (v : Int) : Arr (w.setCell ⟨g, i, none⟩ (.int .i64 v)) g n (fun j => if j = i then v else T j) := by
  obtain ⟨cs, hb, hc⟩ := h
  refine ⟨_, heap_set_same hb, fun j hj => ?_⟩
  have hl := (Array.getElem?_eq_some_iff.1 (hc i hi)).1
  show _ = some (Value.int .i64 (if j = i then v else T j))
  by_cases h : j = i
  · subst h; rw [Array.getElem?_setIfInBounds_self_of_lt hl, if_pos rfl]
  · rw [Array.getElem?_setIfInBounds_ne (Ne.symm h), if_neg h]; exact hc j hj
theorem Arr.keep {X y : World} {g n : Nat} {T : Nat → Int} (h : Arr X g n T) (hb : Below X.heap.size X y) : Arr y g n T := by
  obtain ⟨cs, h1, h2⟩ := h; exact ⟨cs, keep_blk hb h1, h2⟩
theorem Arr.moved {X y : World} {g n D G : Nat} {T : Nat → Int} (h : Arr X g n T) (hm : Moved X y D G) (h1 : g ≠ D) (h2 : g ≠ G) : Arr y g n T := by
  obtain ⟨cs, hb, hc⟩ := h
  exact ⟨cs, by rw [hm.block g (blk_lt hb) h1 h2]; exact hb, hc⟩
theorem Arr.drewN {w : World} {g n m : Nat} {T : Nat → Int} (h : Arr w g n T) : Arr (w.drewN m) g n T := h
theorem Arr.eq {w : World} {g n : Nat} {T T' : Nat → Int} (h : Arr w g n T) (he : ∀ i, i < n → T' i = T i) : Arr w g n T' := by
  obtain ⟨cs, hb, hc⟩ := h
  exact ⟨cs, hb, fun i hi => by rw [he i hi]; exact hc i hi⟩
theorem Arr.of_made {w : World} {g n : Nat} {B : Nat} (h : w.ownsRow B 3 1 (.slice (some ⟨g, 0, none⟩) n n) n (madeCells (Value.int .i64 0).cells (n * 1)).toList) : Arr w g n (fun _ => 0) := by
  obtain ⟨hx, hr⟩ := h
  rcases hr with ⟨hv, _⟩ | ⟨g', cap, cur, hv, _, hb, hn, _, hs, ht⟩
  · simp at hv
  · simp only [Value.slice.injEq, Option.some.injEq, Addr.mk.injEq] at hv
    obtain ⟨⟨rfl, _, _⟩, _, _⟩ := hv
    refine ⟨cur, hb, fun i hi => ?_⟩
    have hi' : i < (madeCells (Value.int .i64 0).cells (n * 1)).toList.length := by rw [hx]; omega
    have h1 : (cur.toList.take (n * 1))[i]? = (madeCells (Value.int .i64 0).cells (n * 1)).toList[i]? := by rw [ht]
    have h2 : (madeCells (Value.int .i64 0).cells (n * 1)).toList[i]? = some (.int .i64 0) := by
      rw [List.getElem?_eq_getElem hi']
      have : ∀ x ∈ (madeCells (Value.int .i64 0).cells (n * 1)).toList, x = .int .i64 0 := by
        intro x hx
        simp only [madeCells, Array.toList_map, List.mem_map] at hx
        obtain ⟨k, _, rfl⟩ := hx
        have hz : (Value.int .i64 0).cells = #[.int .i64 0] := by rfl
        rw [hz]
        have hk : k % (#[Value.int .i64 0] : Array Value).size = 0 := Nat.mod_one k
        rw [hk]; rfl
      exact congrArg some (this _ (List.getElem_mem hi'))
    rw [h2, List.getElem?_take] at h1
    split at h1
    · simpa using h1
    · cases h1
/-- A list of our own stays where a row of numbers is written. -/
theorem OwnS.arr {B g n i : Nat} {X : World} {v u : Value} {L : List (Int × Int)} {T : Nat → Int} (h : OwnS B X v L) (ha : Arr X g n T) : OwnS B (X.setCell ⟨g, i, none⟩ u) v L := h.stays fun k o _ hk => by
  obtain ⟨cs, hb, _⟩ := ha
  have : k ≠ g := fun e => by subst e; rw [hk] at hb; simp at hb
  exact Below.heap_setCell X ⟨g, i, none⟩ u k this
theorem OwnS.drewN {B n : Nat} {X : World} {v : Value} {L : List (Int × Int)} (h : OwnS B X v L) : OwnS B (X.drewN n) v L := h
set_option maxHeartbeats 1000000 in
theorem tick_nil (n : Int) (w : World) : Calls Try.prog 17 #[.pointer none, .int .i64 n] w fun e w' => e = .returned (.slice none 0 0) ∧ Below w.heap.size w w' := by
  go_enter Try.func17, Try.ntmps17
  go_wp2_with fail
  go_ret
  exact ⟨rfl, below_new (Below.refl _ _) _⟩
set_option maxHeartbeats 1000000 in
theorem reply_nil (a b : Int) (w : World) : Calls Try.prog 12 #[.pointer none, .agg #[.int .i64 a, .int .i64 b]] w fun e w' => e = .returned (.slice none 0 0) ∧ Below w.heap.size w w' := by
  go_enter Try.func12, Try.ntmps12
  go_wp2_with (go_quiet (fail))
  go_ret
  exact ⟨rfl, below_drewNs (below_new (Below.refl _ _) _)⟩
end Go.Proofs.Ytpogiondpbfjkaa
