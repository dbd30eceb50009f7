/- A request that is due. -/
import Derived.Test.YtpogiondpbfjkaaQueue
namespace Go.Proofs.Ytpogiondpbfjkaa
open Go.RowKit Go.Conc
/-- Is it due? -/
def dueF (now : Int) (q : Rq) : Bool := (q.out == 0) && decide (q.due ≤ now)
set_option maxHeartbeats 1000000 in
theorem due_any (q : Rq) {R B : Nat} {now : Int} (w : World) (hB : w.cell? ⟨B, 0, none⟩ = some (.pointer (some ⟨R, 0, none⟩))) (hN : w.cell? ⟨R, 5, none⟩ = some (.int .i64 now)) :
    Calls Try.prog 32 #[.agg #[.int .i64 q.tries, .int .i64 q.due, .int .i64 q.out], .pointer (some ⟨B, 0, none⟩)] w (TestIs w (dueF now q)) := by
  rcases ho : (q.out == 0) with _ | _
  · have hd : dueF now q = false := by simp [dueF, ho]
    rw [hd]
    clear hd
    have CO := Lib.hid (show ∀ w, Calls Try.prog 27 #[.agg #[.int .i64 q.tries, .int .i64 q.due, .int .i64 q.out]] w (fun e w' => e = .returned (.bool false) ∧ Below w.heap.size w w') from fun w => ho ▸ open_any q w)
    clear ho
    go_enter Try.func32, Try.ntmps32
    go_upto_region 1 with fail
    first | go_region_with (go_at_call 27; refine (CO.out _).mono ?_; rintro e w1 ⟨rfl, hb1⟩; have HB1 := Lib.hid (below_call (Below.drew (below_new (Below.refl w.heap.size w) (.cells #[.int .i64 q.tries, .int .i64 q.due, .int .i64 q.out] 60))) hb1); clear hb1) | fail
    all_goals
      go_wp2_with fail
      go_ret
      exact ⟨rfl, HB1.out⟩
  · have hd : dueF now q = decide (q.due ≤ now) := by simp [dueF, ho]
    rw [hd]
    clear hd
    have CO := Lib.hid (show ∀ w, Calls Try.prog 27 #[.agg #[.int .i64 q.tries, .int .i64 q.due, .int .i64 q.out]] w (fun e w' => e = .returned (.bool true) ∧ Below w.heap.size w w') from fun w => ho ▸ open_any q w)
    clear ho
    go_enter Try.func32, Try.ntmps32
    go_upto_region 1 with fail
    go_region_held3 (fun w' => w'.cell? ⟨w.heap.size, 0, none⟩ = some (.int .i64 q.tries) ∧ w'.cell? ⟨w.heap.size, 1, none⟩ = some (.int .i64 q.due) ∧ w'.cell? ⟨w.heap.size, 2, none⟩ = some (.int .i64 q.out) ∧ w'.cell? ⟨B, 0, none⟩ = some (.pointer (some ⟨R, 0, none⟩)) ∧ w'.cell? ⟨R, 5, none⟩ = some (.int .i64 now)) (first | exact ⟨cell_drew (cell_top0 rfl), cell_drew (cell_top0 rfl), cell_drew (cell_top0 rfl), cell_drew (cell_old hB), cell_drew (cell_old hN)⟩ | exact ⟨k1, k2, k3, k4, k5⟩) (first | (go_at_call 27; refine (CO.out _).mono ?_; rintro e w1 ⟨rfl, hb1⟩; have k1 := keep_cell hb1 (cell_drew (cell_top0 (w := w) (c := #[.int .i64 q.tries, .int .i64 q.due, .int .i64 q.out]) (t := 60) (i := 0) rfl)); have k2 := keep_cell hb1 (cell_drew (cell_top0 (w := w) (c := #[.int .i64 q.tries, .int .i64 q.due, .int .i64 q.out]) (t := 60) (i := 1) rfl)); have k3 := keep_cell hb1 (cell_drew (cell_top0 (w := w) (c := #[.int .i64 q.tries, .int .i64 q.due, .int .i64 q.out]) (t := 60) (i := 2) rfl)); have k4 := keep_cell hb1 (cell_drew (cell_old hB)); have k5 := keep_cell hb1 (cell_drew (cell_old hN)); have HB1 := Lib.hid (below_call (Below.drew (below_new (Below.refl w.heap.size w) (.cells #[.int .i64 q.tries, .int .i64 q.due, .int .i64 q.out] 60))) hb1); clear hb1))
    all_goals
      go_wp2_with fail
      go_ret
      exact ⟨rfl, HB1.out⟩

set_option maxHeartbeats 2000000 in
theorem queue_due {R G : Nat} {A S : Option Addr} {c sc : Nat} {r : Rn} (w : World) (h : RunAt w R G A c S sc r) (hok : r.Ok) {B : Nat} (hB : w.cell? ⟨B, 0, none⟩ = some (.pointer (some ⟨R, 0, none⟩))) :
    Calls Try.prog 31 #[.pointer (some ⟨R, 0, none⟩), .func (.func 32) #[] #[.pointer (some ⟨B, 0, none⟩)]] w (QueueIs w (r.those (dueF r.now) r.first)) := by
  have HR := Lib.hid h
  have HOK := Lib.hid hok
  have hfl := hok.fin_le
  have hfew := hok.few
  obtain ⟨t, ht⟩ := h.top
  have HT := Lib.hid ht
  obtain ⟨c0, z0⟩ := blk_cells ht
  have hmk : ∀ w, (Instr.makeChan 63 (.int .i64 (IntKind.i64.wrap ((r.fin : Int) - (r.first : Int))))).run Try.prog w = .ok (.chan (some w.heap.size)) (w.alloc (.chan (r.fin - r.first) #[] false 0 0 false)) := by
    intro w
    have := mk_chan w (r.fin - r.first) (by omega)
    rwa [show ((r.fin - r.first : Nat) : Int) = IntKind.i64.wrap ((r.fin : Int) - (r.first : Int)) by rw [IntWalk.i64_in _ (by omega)]; omega] at this
  clear h hok ht
  go_enter Try.func31, Try.ntmps31
  go_upto_region 1 with fail
  go_region_held3 (fun w' => w'.cell? ⟨R, 3, none⟩ = some (.int .i64 r.first)) (first | exact c0 3 | exact cell_drew (c0 3) | exact cell_old (cell_drewN (c0 3))) (first | (go_at_call 26; refine (end_any _ (HR.out.drew) HOK.out).mono ?_; rintro e w1 ⟨rfl, n, rfl⟩))
  have HC1 := Lib.hid (show ChanAt ((w.drewN (1 + n)).alloc (.chan (r.fin - r.first) #[] false 0 0 false)) w.heap.size (r.fin - r.first) [] from ⟨0, 0, heap_top0⟩)
  have HB1 := Lib.hid (below_new (below_drewNs (n := 1 + n) (Below.refl w.heap.size w)) (.chan (r.fin - r.first) #[] false 0 0 false))
  have HT1 := Lib.hid (keep_blk HB1.out HT.out)
  obtain ⟨c1, z1⟩ := blk_cells HT1.out
  generalize ((w.drewN (1 + n)).alloc (.chan (r.fin - r.first) #[] false 0 0 false)) = w1 at *
  clear hmk c0 z0
  have hwr : IntKind.i64.wrap ((r.fin : Int) - (r.first : Int)) = (r.fin : Int) - (r.first : Int) := IntWalk.i64_in _ (by omega)
  simp only [hwr]
  clear hwr
  go_wp2_with fail
  clear c1 z1
  go_loopw [6] (fun s6 wr => ∃ (k : Nat) (L : List Nat), s6 = .int .i64 k ∧ r.first ≤ k ∧ k ≤ r.fin ∧ ChanAt wr w.heap.size (r.fin - r.first) L ∧ L ++ r.those (dueF r.now) k = r.those (dueF r.now) r.first ∧ Below w.heap.size w wr) (fun s6 _ => r.fin - (intOf s6).toNat)
  case atStart => exact ⟨r.first, [], rfl, Nat.le_refl _, hfl.1, HC1.out, rfl, HB1.out⟩
  case round =>
    obtain ⟨k, L, rfl, hk1, hk2, hch, hL, hb⟩ := hrel
    have HCH := Lib.hid hch
    have HL := Lib.hid hL
    have HB := Lib.hid hb
    have HRr := Lib.hid (HR.out.keep hb)
    clear hch hL hb
    go_wp2_with fail
    refine (end_any _ HRr.out HOK.out).mono ?_; rintro e w2 ⟨rfl, n2, rfl⟩
    have HR2 := Lib.hid (HRr.out.drewN (n := n2))
    have HB2 := Lib.hid (below_drewNs (n := n2) HB.out)
    have HC2 := Lib.hid (show ChanAt (wr.drewN n2) w.heap.size (r.fin - r.first) L from HCH.out)
    generalize wr.drewN n2 = w2 at *
    by_cases hlt : k < r.fin
    · obtain ⟨t2, ht2⟩ := HR2.out.top
      obtain ⟨c2, z2⟩ := blk_cells ht2
      obtain ⟨hG, hA, q0, q1, q2, qz⟩ := HR2.out.req_at (i := k) (by omega)
      subst hA
      have hST := Lib.hid (those_step r (dueF r.now) k hlt)
      have HQ := Lib.hid (rfl : r.rq k = r.rq k)
      obtain ⟨q, hq⟩ : ∃ q, q = r.rq k := ⟨_, rfl⟩
      rw [← hq] at q0 q1 q2 hST
      have HQ := Lib.hid hq
      have hkl : k < r.l.length := by omega
      have hkl' : (k : Int) < (r.l.length : Int) := by omega
      have hd : decide (k < r.fin) = true := decide_eq_true (by omega)
      have HLT := Lib.hid hlt
      clear hq ht2 hlt
      go_wp2_with fail
      refine (due_any q _ (keep_cell HB2.out hB) (c2 5)).mono ?_
      rintro e w3 ⟨rfl, hb3⟩
      have HB3 := Lib.hid (below_call HB2.out hb3)
      have HC3 := Lib.hid (HC2.out.keep hb3)
      clear hb3 c2 z2 q0 q1 q2 qz
      rcases hso : dueF r.now q with _ | _
      · have hS : r.those (dueF r.now) k = r.those (dueF r.now) (k + 1) := by rw [hST.out]; simp [hso]
        have HLN := Lib.hid (hS ▸ HL.out)
        clear hso hS
        go_wp2_with fail
        go_roundw
        case rel => exact ⟨k + 1, L, by go_num, by omega, HLT.out, HC3.out, HLN.out, HB3.out⟩
        case measure => have := HLT.out; simp [intOf]; omega
      · have hS : r.those (dueF r.now) k = k :: r.those (dueF r.now) (k + 1) := by rw [hST.out]; simp [hso]
        have hLN : (L ++ [k]) ++ r.those (dueF r.now) (k + 1) = r.those (dueF r.now) r.first := by
          rw [← HL.out, hS]; simp
        have hroom : L.length < r.fin - r.first := by
          have h1 := those_le r (dueF r.now) r.first
          rw [← hLN] at h1
          simp at h1; omega
        have HLN := Lib.hid hLN
        obtain ⟨s, rr, hc⟩ := HC3.out
        have HCP := Lib.hid (show ChanAt (w3.setChan w.heap.size (r.fin - r.first) ((L.map fun (i : Nat) => Value.int .i64 i).toArray.push (.int .i64 k)) false (s + 1) rr false) w.heap.size (r.fin - r.first) (L ++ [k]) from ⟨s + 1, rr, by rw [heap_setChan _ _ _ _ _ _ _ _ (blk_lt hc)]; simp⟩)
        have HBP := Lib.hid (below_setChan HB3.out (Nat.le_refl _) (r.fin - r.first) ((L.map fun (i : Nat) => Value.int .i64 i).toArray.push (.int .i64 k)) false (s + 1) rr false)
        clear hso hS hLN
        go_upto_region 6 with fail
        refine wp_of_semOps ?_
        refine semOps_value (v := .chan (some w.heap.size)) (w' := w3) rfl rfl (by simp [go_sem, execOp, Act.eval]) ?_
        refine semOps_value (v := .int .i64 k) (w' := w3) rfl rfl (by simp [go_sem, execOp, Act.eval, Act.put]) ?_
        refine semOps_comm (v := undef) (cases := #[scase w.heap.size (.int .i64 k) (.tuple #[])]) (blocking := true) (shape := .send) (w1 := w3) (w2 := w3.setChan w.heap.size (r.fin - r.first) ((L.map fun (i : Nat) => Value.int .i64 i).toArray.push (.int .i64 k)) false (s + 1) rr false) rfl rfl (by simp [go_sem, execOp, scase, Act.eval, Act.put]) (fun fr cs es hes => step_lone_send_room hes hc (by simpa using hroom)) ?_
        refine semOps_nil ?_
        clear hc hroom
        generalize w3.setChan w.heap.size (r.fin - r.first) ((L.map fun (i : Nat) => Value.int .i64 i).toArray.push (.int .i64 k)) false (s + 1) rr false = w4 at *
        go_wp2_with fail
        go_roundw
        case rel => exact ⟨k + 1, L ++ [k], by go_num, by omega, HLT.out, HCP.out, HLN.out, HBP.out⟩
        case measure => have := HLT.out; simp [intOf]; omega
    · obtain rfl : k = r.fin := by omega
      have hL := HL.out
      rw [those_none r (dueF r.now) r.fin (Nat.le_refl _), List.append_nil] at hL
      have hd : decide (r.fin < r.fin) = false := decide_eq_false (by omega)
      have HL2 := Lib.hid hL
      clear hL hlt
      go_wp2_with fail
      go_ret
      exact ⟨_, _, rfl, Nat.le_refl _, by have := those_le r (dueF r.now) r.first; omega, by rw [← HL2.out]; exact HC2.out, HB2.out⟩
end Go.Proofs.Ytpogiondpbfjkaa
