/- The queue of a stage, and the next out of it. -/
import Derived.Test.YtpogiondpbfjkaaRn
import Derived.Conc.LoneSelectN
namespace Go.Proofs.Ytpogiondpbfjkaa
open Go.RowKit Go.Conc
/-- A channel that holds these numbers. -/
def ChanAt (w : World) (c cap : Nat) (L : List Nat) : Prop :=
  ∃ s r, w.heap[c]? = some (.chan cap (L.map fun (i : Nat) => Value.int .i64 i).toArray false s r false)
theorem ChanAt.keep {X y : World} {c cap : Nat} {L : List Nat} (h : ChanAt X c cap L) (hb : Below X.heap.size X y) : ChanAt y c cap L := by
  obtain ⟨s, r, h⟩ := h; exact ⟨s, r, keep_blk hb h⟩
/-- But for one block all that was there is as it was. -/
structure Moved (w w' : World) (D G : Nat) : Prop where
  os : w'.os = w.os
  tape : w'.tape = w.tape
  output : w'.output = w.output
  size : w.heap.size ≤ w'.heap.size
  block : ∀ k, k < w.heap.size → k ≠ D → k ≠ G → w'.heap[k]? = w.heap[k]?
theorem Moved.below {w w' : World} {D G B : Nat} (h : Moved w w' D G) (hB : B ≤ w.heap.size) (hD : B ≤ D) (hG : B ≤ G) : Below B w w' :=
  ⟨h.os, h.tape, h.output, h.size, fun k hk => h.block k (by omega) (by omega) (by omega)⟩
theorem Moved.of_below {w w' : World} {D G : Nat} (h : Below w.heap.size w w') : Moved w w' D G := ⟨h.os, h.tape, h.output, h.size, fun k hk _ _ => h.block k hk⟩
theorem Moved.trans {a b c : World} {D G : Nat} (h : Moved a b D G) (k : Moved b c D G) : Moved a c D G :=
  ⟨k.os.trans h.os, k.tape.trans h.tape, k.output.trans h.output, Nat.le_trans h.size k.size, fun i hi h1 h2 => (k.block i (Nat.lt_of_lt_of_le hi h.size) h1 h2).trans (h.block i hi h1 h2)⟩
theorem Moved.setD {a b : World} {D G i : Nat} {v : Value} (h : Moved a b D G) : Moved a (b.setCell ⟨D, i, none⟩ v) D G :=
  ⟨h.os, h.tape, h.output, Nat.le_trans h.size (by simp), fun k hk h1 h2 => by
    rw [Below.heap_setCell b ⟨D, i, none⟩ v k h1]; exact h.block k hk h1 h2⟩
theorem Moved.setG {a b : World} {D G i : Nat} {v : Value} (h : Moved a b D G) : Moved a (b.setCell ⟨G, i, none⟩ v) D G :=
  ⟨h.os, h.tape, h.output, Nat.le_trans h.size (by simp), fun k hk h1 h2 => by
    rw [Below.heap_setCell b ⟨G, i, none⟩ v k h2]; exact h.block k hk h1 h2⟩
theorem Moved.alloc {a b : World} {D G : Nat} {o : Obj} (h : Moved a b D G) : Moved a (b.alloc o) D G :=
  ⟨h.os, h.tape, h.output, Nat.le_trans h.size (by simp), fun k hk h1 h2 => by
    rw [Below.heap_alloc b o k (Nat.lt_of_lt_of_le hk h.size)]; exact h.block k hk h1 h2⟩
theorem Moved.drewN {a b : World} {D G m : Nat} (h : Moved a b D G) : Moved a (b.drewN m) D G := ⟨h.os, h.tape, h.output, h.size, h.block⟩
theorem Moved.drew {a b : World} {D G : Nat} (h : Moved a b D G) : Moved a b.drew D G := ⟨h.os, h.tape, h.output, h.size, h.block⟩
/-- next's answer. -/
def NextIs (w : World) (c cap : Nat) (L : List Nat) (e : Ending) (w' : World) : Prop :=
  ChanAt w' c cap L.tail ∧ Moved w w' c c ∧ e = .returned (.tuple #[.int .i64 (L.headD 0 : Nat), .bool (!L.isEmpty)])
theorem moved_setChan {w : World} {c cap : Nat} {buf : Array Value} {cl : Bool} {s r : Nat} {tm : Bool} : Moved w (w.setChan c cap buf cl s r tm) c c :=
  ⟨rfl, rfl, rfl, by simp [World.setChan], fun k _ h _ => by simp [World.setChan, Ne.symm h]⟩
set_option maxHeartbeats 1000000 in
theorem next_any (w : World) (c cap : Nat) (L : List Nat) (h : ChanAt w c cap L) : Calls Try.prog 33 #[.chan (some c)] w (NextIs w c cap L) := by
  obtain ⟨s, r, hc⟩ := h
  rcases L with _ | ⟨x, t⟩
  · go_enter Try.func33, Try.ntmps33
    go_upto_region 2 with fail
    refine wp_of_semOps ?_
    refine semOps_comm (v := .tuple #[goInt (-1), .bool false, .int .i64 0]) (cases := #[rcase c (.int .i64 0)]) (blocking := false) (shape := .select) (w1 := w) (w2 := w) rfl rfl (by simp [go_sem, execOp, rcase, Act.eval]) (fun fr cs es hes => step_lone_select_default hes hc) ?_
    refine semOps_value (v := .int .i64 (-1)) (w' := w) rfl rfl (by simp [go_sem, execOp, Act.eval]) ?_
    refine semOps_value (v := .bool false) (w' := w) rfl rfl (by simp [go_sem, execOp, Act.eval]) ?_
    refine semOps_nil ?_
    go_wp2
    go_ret2
    exact ⟨⟨s, r, hc⟩, ⟨rfl, rfl, rfl, Nat.le_refl _, fun _ _ _ _ => rfl⟩, rfl⟩
  · go_enter Try.func33, Try.ntmps33
    go_upto_region 2 with fail
    refine wp_of_semOps ?_
    refine semOps_comm (v := .tuple #[goInt 0, .bool true, .int .i64 x]) (cases := #[rcase c (.int .i64 0)]) (blocking := false) (shape := .select) (w1 := w) (w2 := w.setChan c cap (t.map fun (i : Nat) => Value.int .i64 i).toArray false s (r + 1) false) rfl rfl (by simp [go_sem, execOp, rcase, Act.eval]) (fun fr cs es hes => by simpa [List.take_of_length_le] using step_lone_select_recv_buf hes hc (by simp)) ?_
    refine semOps_value (v := .int .i64 0) (w' := w.setChan c cap (t.map fun (i : Nat) => Value.int .i64 i).toArray false s (r + 1) false) rfl rfl (by simp [go_sem, execOp, Act.eval]) ?_
    refine semOps_value (v := .bool true) (w' := w.setChan c cap (t.map fun (i : Nat) => Value.int .i64 i).toArray false s (r + 1) false) rfl rfl (by simp [go_sem, execOp, Act.eval]) ?_
    refine semOps_nil ?_
    go_wp2
    go_ret2
    exact ⟨⟨s, r + 1, heap_setChan _ _ _ _ _ _ _ _ (blk_lt hc)⟩, moved_setChan, rfl⟩
/-- Those of the stage of which something is so. -/
def Rn.those (r : Rn) (so : Rq → Bool) (a : Nat) : List Nat := (List.range' a (r.fin - a)).filter fun i => so (r.rq i)
theorem those_step (r : Rn) (so : Rq → Bool) (a : Nat) (h : a < r.fin) : r.those so a = if so (r.rq a) then a :: r.those so (a + 1) else r.those so (a + 1) := by
  unfold Rn.those
  obtain ⟨m, hm⟩ : ∃ m, r.fin - a = m + 1 := ⟨r.fin - a - 1, by omega⟩
  rw [hm, List.range'_succ, List.filter_cons, show r.fin - (a + 1) = m by omega]
theorem those_none (r : Rn) (so : Rq → Bool) (a : Nat) (h : r.fin ≤ a) : r.those so a = [] := by
  unfold Rn.those; rw [show r.fin - a = 0 by omega]; rfl
theorem those_le (r : Rn) (so : Rq → Bool) (a : Nat) : (r.those so a).length ≤ r.fin - a := by
  unfold Rn.those
  exact Nat.le_trans (List.length_filter_le _ _) (by simp)
end Go.Proofs.Ytpogiondpbfjkaa
