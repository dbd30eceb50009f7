/- send: one request is sent. -/
import Derived.Test.YtpogiondpbfjkaaDue
namespace Go.Proofs.Ytpogiondpbfjkaa
open Go.RowKit Go.Conc
/-- One request is changed. -/
def Rn.put (r : Rn) (i : Nat) (q : Rq) : Rn := { r with l := r.l.set i q }
theorem put_rq (r : Rn) (i j : Nat) (q : Rq) (hi : i < r.l.length) : (r.put i q).rq j = if j = i then q else r.rq j := by
  unfold Rn.rq Rn.put
  by_cases h : j = i
  · subst h; simp [List.getD, List.getElem?_set_self hi]
  · rw [if_neg h]; simp [List.getD, List.getElem?_set_ne (Ne.symm h)]
theorem put_fin (r : Rn) (i : Nat) (q : Rq) : (r.put i q).fin = r.fin := rfl
theorem Rn.Ok.put {r : Rn} (h : r.Ok) (i : Nat) (q : Rq) : (r.put i q).Ok := ⟨h.first, by simp [Rn.put, h.all], by simpa [Rn.put] using h.few, h.stages, h.stage⟩
/-- Of a row of requests one is changed, whatever else lies in the block. -/
theorem ReqRow.put {w' : World} {g i : Nat} {l : List Rq} {q : Rq} (hi : i < l.length)
    (h : ∃ cs t, w'.heap[g]? = some (.cells cs t) ∧ cs[i * 3]? = some (.int .i64 q.tries) ∧ cs[i * 3 + 1]? = some (.int .i64 q.due) ∧ cs[i * 3 + 2]? = some (.int .i64 q.out) ∧
      ∀ j, j < l.length → j ≠ i → cs[j * 3]? = some (.int .i64 (l.getD j default).tries) ∧ cs[j * 3 + 1]? = some (.int .i64 (l.getD j default).due) ∧ cs[j * 3 + 2]? = some (.int .i64 (l.getD j default).out)) :
    ReqRow w' g (l.set i q) := by
  obtain ⟨cs, t, h1, h2, h3, h4, h5⟩ := h
  refine ⟨cs, t, h1, fun j hj => ?_⟩
  rw [List.length_set] at hj
  by_cases hji : j = i
  · subst hji
    have : (l.set j q).getD j default = q := by simp [List.getD, List.getElem?_set_self hi]
    rw [this]; exact ⟨h2, h3, h4⟩
  · have : (l.set i q).getD j default = l.getD j default := by simp [List.getD, List.getElem?_set_ne (Ne.symm hji)]
    rw [this]; exact h5 j hj hji
/-- Whatever else lies in a block, its other cells as they were. -/
theorem RunAt.put {w w' : World} {R G i : Nat} {A S : Option Addr} {c sc : Nat} {r : Rn} {q : Rq} (h : RunAt w R G A c S sc r) (hi : i < r.l.length)
    (hm : ∀ k, k < w.heap.size → k ≠ G → w'.heap[k]? = w.heap[k]?)
    (hq : ∀ cs t, w.heap[G]? = some (.cells cs t) → ∃ cs', w'.heap[G]? = some (.cells cs' t) ∧ (∀ j, j ≠ i * 3 → j ≠ i * 3 + 1 → j ≠ i * 3 + 2 → cs'[j]? = cs[j]?) ∧
      (cs[i * 3]? = some (.int .i64 (r.rq i).tries) → cs[i * 3 + 1]? = some (.int .i64 (r.rq i).due) → cs[i * 3 + 2]? = some (.int .i64 (r.rq i).out) →
        cs'[i * 3]? = some (.int .i64 q.tries) ∧ cs'[i * 3 + 1]? = some (.int .i64 q.due) ∧ cs'[i * 3 + 2]? = some (.int .i64 q.out))) : RunAt w' R G A c S sc (r.put i q) := by
  rcases h.lrow with ⟨hh, _⟩ | ⟨h1, h2, cs, t, h3, h4⟩
  · rw [hh] at hi; simp at hi
  · obtain ⟨t0, ht0⟩ := h.top
    refine ⟨⟨t0, ?_⟩, .inr ⟨h1, h2, ?_⟩, ?_⟩
    · rw [hm R (blk_lt ht0) (Ne.symm h1), ht0]
      show _ = some (Obj.cells #[.slice A (r.l.set i q).length c, _, _, _, _, _] _)
      rw [List.length_set]; rfl
    · obtain ⟨cs', k1, k2, k3⟩ := hq cs t h3
      have k3 := k3 (h4 i hi).1 (h4 i hi).2.1 (h4 i hi).2.2
      refine ReqRow.put hi ⟨cs', t, k1, k3.1, k3.2.1, k3.2.2, fun j hj hji => ?_⟩
      rw [k2 (j * 3) (by omega) (by omega) (by omega), k2 (j * 3 + 1) (by omega) (by omega) (by omega), k2 (j * 3 + 2) (by omega) (by omega) (by omega)]
      exact h4 j hj
    · rcases h.srow with hh | ⟨sb, s1, s2, s3, cs2, t2, s4, s5⟩
      · exact .inl hh
      · exact .inr ⟨sb, s1, s2, s3, cs2, t2, by rw [hm sb (blk_lt s4) s3]; exact s4, s5⟩
/-- A runner that has sent one. -/
def Rn.sent (r : Rn) (no : Nat) : Rn := r.put no ⟨wrap64 ((r.rq no).tries + 1), wrap64 (r.now + 10), (r.rq no).out⟩
/-- send's answer. -/
def SendIs (w : World) (R G : Nat) (A : Option Addr) (c : Nat) (S : Option Addr) (sc : Nat) (r : Rn) (no : Nat) (e : Ending) (w' : World) : Prop :=
  e = .returned (.agg #[.int .i64 no, .int .i64 (wrap64 ((r.rq no).tries + 1))]) ∧ RunAt w' R G A c S sc (r.sent no) ∧ Moved w w' G G
set_option maxHeartbeats 1000000 in
theorem send_any {R G : Nat} {A S : Option Addr} {c sc : Nat} {r : Rn} (w : World) (no : Nat) (h : RunAt w R G A c S sc r) (hl : r.l.length ≤ 1000) (hno : no < r.l.length) :
    Calls Try.prog 34 #[.pointer (some ⟨R, 0, none⟩), .int .i64 no] w (SendIs w R G A c S sc r no) := by
  obtain ⟨hG, hA, q0, q1, q2, qz⟩ := h.req_at hno
  subst hA
  have HR := Lib.hid h
  obtain ⟨t, ht⟩ := h.top
  obtain ⟨c0, z0⟩ := blk_cells ht
  have hRl := blk_lt ht
  have hGl : G < w.heap.size := by
    rcases h.lrow with ⟨hh, _⟩ | ⟨_, h2, cs, t2, h3, _⟩
    · rw [hh] at hno; simp at hno
    · exact blk_lt h3
  have hnl : (no : Int) < (r.l.length : Int) := by omega
  have HNO := Lib.hid hno
  have HG := Lib.hid hG
  obtain ⟨q, hq⟩ : ∃ q, q = r.rq no := ⟨_, rfl⟩
  rw [← hq] at q0 q1 q2
  have HQ := Lib.hid hq
  clear h ht hq
  go_enter Try.func34, Try.ntmps34
  go_wp2_with fail
  refine bodyPost_ret (by first | (simp [results, Try.results34, go_sem]; done) | (simp [results, Try.results34, go_sem]; rfl)) rfl ?_
  have hQ := HQ.out
  refine ⟨by rw [← hQ], ?_, (((Moved.of_below (Below.refl _ _)).setG.setG).alloc)⟩
  refine HR.out.put HNO.out (fun k hk hkG => ?_) (fun cs t2 hcs => ?_)
  · rw [Below.heap_alloc _ _ k (by simpa using hk), Below.heap_setCell _ ⟨G, _, none⟩ _ k hkG, Below.heap_setCell _ ⟨G, _, none⟩ _ k hkG]
  · refine ⟨_, by rw [Below.heap_alloc _ _ G (by simpa using hGl)]; exact heap_setCell_same _ _ _ _ _ _ (heap_setCell_same _ _ _ _ _ _ hcs), fun j h1 h2 h3 => ?_, fun h1 h2 h3 => ?_⟩
    · rw [Array.getElem?_setIfInBounds_ne (by omega), Array.getElem?_setIfInBounds_ne (by omega)]
    · have l1 := (Array.getElem?_eq_some_iff.1 h1).1
      have l2 := (Array.getElem?_eq_some_iff.1 h2).1
      refine ⟨?_, ?_, ?_⟩
      · rw [Array.getElem?_setIfInBounds_ne (by omega), Array.getElem?_setIfInBounds_self_of_lt l1, hQ]
      · rw [Array.getElem?_setIfInBounds_self_of_lt (by simpa using l2)]
      · rw [Array.getElem?_setIfInBounds_ne (by omega), Array.getElem?_setIfInBounds_ne (by omega), h3]
end Go.Proofs.Ytpogiondpbfjkaa
