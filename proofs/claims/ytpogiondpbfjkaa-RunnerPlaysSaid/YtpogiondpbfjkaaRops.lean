/- The reference's Start and Reply. -/
import Derived.Test.YtpogiondpbfjkaaRnext
namespace Go.Proofs.Ytpogiondpbfjkaa
open Go.RowKit Go.Conc
set_option maxHeartbeats 1000000 in
theorem rstart_any {B : RefB} {r : Rn} (w : World) (h : RefAt w B r) (hap : B.Apart) (hf : r.Fine) (htb : B.tb < w.heap.size) :
    Calls Try.prog 20 #[.pointer (some ⟨B.Q, 0, none⟩)] w (RGives w B r.start) := by
  have HR := Lib.hid h
  have HF := Lib.hid hf
  obtain ⟨c0, z0⟩ := blk_cells h.top
  rcases hs : r.started with _ | _
  · have hat : r.at = -1 := by simp [Rn.at, hs]
    have HX := Lib.hid (show r.nx = r.start by unfold Rn.nx Rn.start Rn.up; rw [if_neg (by simp [hs]), if_neg (by simp [hs]), if_neg (by simp [hs])])
    rw [hat] at c0
    clear h hf hs hat
    go_enter Try.func20, Try.ntmps20
    go_wp2_with fail
    refine (rnext_any w HR.out hap HF.out htb).mono ?_
    rw [HX.out]
    rintro e w2 ⟨v, rfl, h1, h2, h3, h4⟩
    have HH := Lib.hid (And.intro h1 (And.intro h2 (And.intro h3 h4)))
    clear h1 h2 h3 h4
    go_wp2_with fail
    go_ret
    obtain ⟨h1, h2, h3, h4⟩ := HH.out
    exact ⟨v, rfl, h1, h2, h3, h4⟩
  · have hat : r.at = (r.stage : Int) := by simp [Rn.at, hs]
    have HX := Lib.hid (show r.start = (r, []) from start_on hs)
    rw [hat] at c0
    have hd : decide ((0 : Int) ≤ (r.stage : Int)) = true := decide_eq_true (by omega)
    clear h hf hs hat
    go_enter Try.func20, Try.ntmps20
    go_wp2_with fail
    all_goals
      go_ret
      rw [HX.out]
      exact ⟨_, rfl, HR.out, HF.out, OwnS.nil _ _, MovedR.same _ _⟩
theorem after_fine {r : Rn} (h : r.Fine) (hs : r.started = true) : r.nx = r.after := by unfold Rn.nx; rw [if_pos hs]
/-- One that is answered leaves the coming ones as they were. -/
theorem Rn.Fine.put {r : Rn} (h : r.Fine) {i : Nat} {q : Rq} (hi : i < r.rfin) (hl : i < r.l.length) : (r.put i q).Fine := by
  refine ⟨h.ok.put i q, h.ok0, fun j h1 h2 => ?_⟩
  have hr : (r.put i q).rfin = r.rfin := rfl
  rw [hr] at h1
  rw [put_rq r i j q hl, if_neg (by omega)]
  exact h.fresh j h1 (by simpa [Rn.put] using h2)
theorem RefAt.answer {w : World} {B : RefB} {r : Rn} {k : Nat} (h : RefAt w B r) (hap : B.Apart) (hk : k < r.l.length) (kd : Int) : RefAt (w.setCell ⟨B.go, k, none⟩ (.int .i64 kd)) B (r.put k ⟨(r.rq k).tries, (r.rq k).due, kd⟩) := by
  obtain ⟨hBt, hta⟩ := h.tries_at hk
  have hQ := h.orow.ne h.top
  refine h.put hk ?_ (.inr ?_) ?_ ?_ (h.orow.set k hk kd)
  · exact Below.heap_setCell w ⟨B.go, k, none⟩ _ _ (Ne.symm hQ)
  · exact Below.heap_setCell w ⟨B.go, k, none⟩ _ _ hap.so
  · exact (hta.other hap.tgo).eq fun j _ => by
      show (if j = k then (r.rq k).tries else (r.rq j).tries) = _
      by_cases hj : j = k
      · rw [if_pos hj, hj]
      · rw [if_neg hj]
  · exact (h.drow.other hap.gdo).eq fun j _ => by
      show (if j = k then (r.rq k).due else (r.rq j).due) = _
      by_cases hj : j = k
      · rw [if_pos hj, hj]
      · rw [if_neg hj]
set_option maxHeartbeats 4000000 in
set_option maxRecDepth 100000 in
theorem rreply_any {B : RefB} {r : Rn} (w : World) (no kind : Int) (h : RefAt w B r) (hap : B.Apart) (hf : r.Fine) (htb : B.tb < w.heap.size) :
    Calls Try.prog 19 #[.pointer (some ⟨B.Q, 0, none⟩), .agg #[.int .i64 no, .int .i64 kind]] w (RGives w B (r.reply no kind)) := by
  have HR := Lib.hid h
  have HF := Lib.hid hf
  have HAP := Lib.hid hap
  have hQl := blk_lt h.top
  have HLB := Lib.hid (show B.Q < w.heap.size ∧ B.tb < w.heap.size ∧ B.gd < w.heap.size ∧ B.go < w.heap.size from ⟨hQl, htb, h.drow.lt, h.orow.lt⟩)
  have HN := Lib.hid (fun x (hx : Below w.heap.size w x) (he : r.reply no kind = (r, [])) => show RGives w B (r.reply no kind) (.returned (.slice none 0 0)) x by
    rw [he]; exact ⟨_, rfl, HR.out.keep hx, HF.out, OwnS.nil _ _, (MovedR.same _ _).then hx⟩)
  clear h hf hap
  go_enter Try.func19, Try.ntmps19
  go_wp2_with fail
  have HR1 := Lib.hid (HR.out.keep (below_new (Below.refl _ _) (.cells #[.int .i64 no, .int .i64 kind] 33)))
  have HB1 := Lib.hid (show Below w.heap.size w (w.alloc (.cells #[.int .i64 no, .int .i64 kind] 33)) from below_new (Below.refl _ _) _)
  have HX1 := Lib.hid (show (w.alloc (.cells #[.int .i64 no, .int .i64 kind] 33)).heap[w.heap.size]? = some (.cells #[.int .i64 no, .int .i64 kind] 33) from heap_top0)
  generalize (w.alloc (.cells #[.int .i64 no, .int .i64 kind] 33)) = w1 at *
  refine (bounds_any w1 HR1.out HF.out.ok HF.out.ok0).mono ?_
  rintro e w2 ⟨rfl, n2, rfl⟩
  have HR2 := Lib.hid (HR1.out.drewN (n := n2))
  have HB2 := Lib.hid (below_drewNs (n := n2) HB1.out)
  have hX2 : (w1.drewN n2).heap[w.heap.size]? = some (.cells #[.int .i64 no, .int .i64 kind] 33) := HX1.out
  generalize w1.drewN n2 = w2 at *
  obtain ⟨cx, zx⟩ := blk_cells hX2
  obtain ⟨c2, z2⟩ := blk_cells HR2.out.top
  clear hX2
  rcases hs : r.started with _ | _
  · have hat : r.at = -1 := by simp [Rn.at, hs]
    have HS := Lib.hid (reply_no (r := r) (no := no) (kind := kind) (by simp [hs]))
    rw [hat] at c2
    clear hs hat
    go_wp2_with (go_quiet (fail))
    go_ret
    exact HN.out _ (below_drewNs HB2.out) HS.out
  · have hat : r.at = (r.stage : Int) := by simp [Rn.at, hs]
    have hrf : r.rfin = r.fin := by simp [Rn.rfin, hs]
    have HSt := Lib.hid hs
    rw [hat] at c2
    rw [hrf]
    have hneg : decide ((r.stage : Int) < 0) = false := decide_eq_false (by omega)
    clear hs hat
    by_cases h1 : no < (r.first : Int)
    · have HS := Lib.hid (reply_no (r := r) (no := no) (kind := kind) (by omega))
      have hd : decide (no < (r.first : Int)) = true := decide_eq_true h1
      clear h1
      go_wp2_with (go_quiet (fail))
      go_ret
      exact HN.out _ (below_drewNs HB2.out) HS.out
    · have hd1 : decide (no < (r.first : Int)) = false := decide_eq_false h1
      by_cases h2 : (r.fin : Int) ≤ no
      · have HS := Lib.hid (reply_no (r := r) (no := no) (kind := kind) (by omega))
        have hd2 : decide ((r.fin : Int) ≤ no) = true := decide_eq_true h2
        clear h1 h2
        go_wp2_with (go_quiet (fail))
        go_ret
        exact HN.out _ (below_drewNs HB2.out) HS.out
      · have hd2 : decide ((r.fin : Int) ≤ no) = false := decide_eq_false h2
        obtain ⟨k, rfl⟩ : ∃ k : Nat, no = (k : Int) := ⟨no.toNat, by omega⟩
        have hn1 : decide (k < r.first) = false := decide_eq_false (by omega)
        have hn2 : decide (r.fin ≤ k) = false := decide_eq_false (by omega)
        have hfl := HF.out.ok.fin_le
        have hkl : k < r.l.length := by omega
        have hkl' : (k : Int) < (r.l.length : Int) := by omega
        have hcell := HR2.out.orow.cell hkl
        have hmelt := HR2.out.orow.melt
        have HK := Lib.hid hkl
        have hkf : k < r.rfin := by omega
        have HKF := Lib.hid hkf
        by_cases ho : (r.rq k).out = 0
        · rw [ho] at hcell
          have HO := Lib.hid ho
          by_cases hk1 : kind = 1 ∨ kind = 2
          · have HY := Lib.hid (show r.reply k kind = (r.put k ⟨(r.rq k).tries, (r.rq k).due, kind⟩).after by unfold Rn.reply; rw [if_pos ⟨HSt.out, by omega, by omega, by simpa using ho, hk1⟩]; rfl)
            have hgoQ := HR2.out.orow.ne HR2.out.top
            have hgol := HR2.out.orow.lt
            clear h1 h2 ho
            have HKEY := Lib.hid (fun (kd : Int) (wz : World) (hz : RefAt wz B r) (hbz : Below w.heap.size w wz) => show RefAt ((wz.setCell ⟨B.go, k, none⟩ (.int .i64 kd)).drew) B (r.put k ⟨(r.rq k).tries, (r.rq k).due, kd⟩) ∧ MovedR w ((wz.setCell ⟨B.go, k, none⟩ (.int .i64 kd)).drew) B from
              ⟨(hz.answer HAP.out HK.out kd).drew, (((MovedR.same _ _).then hbz).set (.inr (.inr (.inr rfl)))).drew⟩)
            have HPF := Lib.hid (fun kd : Int => show (r.put k ⟨(r.rq k).tries, (r.rq k).due, kd⟩).Fine from HF.out.put HKF.out HK.out)
            have HAF := Lib.hid (fun kd : Int => show (r.put k ⟨(r.rq k).tries, (r.rq k).due, kd⟩).nx = (r.put k ⟨(r.rq k).tries, (r.rq k).due, kd⟩).after from after_fine (HPF.out kd) HSt.out)
            have HTB := Lib.hid htb
            rcases hk1 with rfl | rfl
            · go_wp2_with (go_quiet (fail))
              have HR3 := Lib.hid (HR2.out.drewN (n := nq))
              have HB3 := Lib.hid (below_drewNs (n := nq) HB2.out)
              go_wp2_with (go_region)
              have HZ := Lib.hid (HKEY.out 1 _ HR3.out HB3.out)
              refine (rnext_any _ HZ.out.1 HAP.out (HPF.out 1) (by have h1 := HTB.out; have h2 := HZ.out.2.size; exact Nat.lt_of_lt_of_le h1 h2)).mono ?_
              rw [HAF.out]
              rintro e w5 ⟨v, rfl, a1, a2, a3, a4⟩
              have HH := Lib.hid (And.intro a1 (And.intro a2 (And.intro a3 a4)))
              clear a1 a2 a3 a4
              go_wp2_with fail
              go_ret
              rw [HY.out]
              obtain ⟨a1, a2, a3, a4⟩ := HH.out
              exact ⟨v, rfl, a1, a2, a3.mono HZ.out.2.size, HZ.out.2.trans a4⟩
            · go_wp2_with (go_quiet (fail))
              have HR3 := Lib.hid (HR2.out.drewN (n := nq))
              have HB3 := Lib.hid (below_drewNs (n := nq) HB2.out)
              go_wp2_with (go_region)
              have HZ := Lib.hid (HKEY.out 2 _ HR3.out HB3.out)
              refine (rnext_any _ HZ.out.1 HAP.out (HPF.out 2) (by have h1 := HTB.out; have h2 := HZ.out.2.size; exact Nat.lt_of_lt_of_le h1 h2)).mono ?_
              rw [HAF.out]
              rintro e w5 ⟨v, rfl, a1, a2, a3, a4⟩
              have HH := Lib.hid (And.intro a1 (And.intro a2 (And.intro a3 a4)))
              clear a1 a2 a3 a4
              go_wp2_with fail
              go_ret
              rw [HY.out]
              obtain ⟨a1, a2, a3, a4⟩ := HH.out
              exact ⟨v, rfl, a1, a2, a3.mono HZ.out.2.size, HZ.out.2.trans a4⟩
          · have HS := Lib.hid (reply_no (r := r) (no := k) (kind := kind) (by intro hh; exact hk1 hh.2.2.2.2))
            have e1 : (kind != 1) = true := bne_iff_ne.2 (fun e => hk1 (.inl e))
            have e2 : (kind != 2) = true := bne_iff_ne.2 (fun e => hk1 (.inr e))
            clear h1 h2 ho hk1
            go_wp2_with (go_quiet (fail))
            go_ret
            exact HN.out _ (below_drewNs HB2.out) HS.out
        · have HS := Lib.hid (reply_no (r := r) (no := k) (kind := kind) (by intro hh; exact ho (by simpa using hh.2.2.2.1)))
          obtain ⟨o, hoo⟩ : ∃ o, (r.rq k).out = o := ⟨_, rfl⟩
          rw [hoo] at hcell ho
          have hne : (o != 0) = true := bne_iff_ne.2 ho
          clear h1 h2 ho hoo
          go_wp2_with (go_quiet (fail))
          go_ret
          exact HN.out _ (below_drewNs HB2.out) HS.out
end Go.Proofs.Ytpogiondpbfjkaa
