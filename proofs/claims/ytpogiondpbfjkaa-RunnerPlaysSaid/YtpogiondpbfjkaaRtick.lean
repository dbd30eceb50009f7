/- The reference's Tick. -/
import Derived.Test.YtpogiondpbfjkaaRops
import Derived.BigRegion
namespace Go.Proofs.Ytpogiondpbfjkaa
open Go.RowKit Go.Conc
theorem beginF_len (f : Nat) (r : Rn) : (beginF f r).1.l.length = r.l.length := by
  induction f generalizing r with
  | zero => rfl
  | succ f ih =>
    unfold beginF; split
    · rw [ih]; rfl
    · exact (sendAll_alike _ _).len
theorem after_len (r : Rn) : r.after.1.l.length = r.l.length := by
  unfold Rn.after; split
  · rfl
  · split
    · exact beginF_len _ _
    · rfl
theorem RefAt.sent {w : World} {B : RefB} {r : Rn} {k : Nat} (h : RefAt w B r) (hap : B.Apart) (hk : k < r.l.length) :
    RefAt ((w.setCell ⟨B.tb, k, none⟩ (.int .i64 (wrap64 ((r.rq k).tries + 1)))).setCell ⟨B.gd, k, none⟩ (.int .i64 (wrap64 (r.now + 10)))) B (r.sent k) := by
  obtain ⟨hBt, hta⟩ := h.tries_at hk
  have hQ := h.drow.ne h.top
  have hQ2 := hta.ne h.top
  refine h.put hk ?_ (.inr ?_) ((hta.set k hk _).other hap.td) ((h.drow.other (Ne.symm hap.td)).set k hk _) ?_
  · rw [Below.heap_setCell _ ⟨B.gd, k, none⟩ _ _ (Ne.symm hQ), Below.heap_setCell _ ⟨B.tb, k, none⟩ _ _ (Ne.symm hQ2)]
  · rw [Below.heap_setCell _ ⟨B.gd, k, none⟩ _ _ hap.sd, Below.heap_setCell _ ⟨B.tb, k, none⟩ _ _ hap.st]
  · exact ((h.orow.other (Ne.symm hap.tgo)).other (Ne.symm hap.gdo)).eq fun j _ => by
      show (if j = k then (r.rq k).out else (r.rq j).out) = _
      by_cases hj : j = k
      · rw [if_pos hj, hj]
      · rw [if_neg hj]
set_option maxHeartbeats 8000000 in
set_option maxRecDepth 100000 in
theorem rtick_any {B : RefB} {r : Rn} (w : World) (n : Int) (h : RefAt w B r) (hap : B.Apart) (hf : r.Fine) (htb : B.tb < w.heap.size) :
    Calls Try.prog 21 #[.pointer (some ⟨B.Q, 0, none⟩), .int .i64 n] w (RGives w B (r.tick n)) := by
  have HR := Lib.hid h
  have HF := Lib.hid hf
  have HAP := Lib.hid hap
  have hQl := blk_lt h.top
  have HL := Lib.hid h.low
  have HLB := Lib.hid (show B.Q < w.heap.size ∧ B.tb < w.heap.size ∧ B.gd < w.heap.size ∧ B.go < w.heap.size from ⟨hQl, htb, h.drow.lt, h.orow.lt⟩)
  have HN := Lib.hid (fun (he : r.tick n = (r, [])) => show RGives w B (r.tick n) (.returned (.slice none 0 0)) w by
    rw [he]; exact ⟨_, rfl, HR.out, HF.out, OwnS.nil _ _, MovedR.same _ _⟩)
  obtain ⟨c0, z0⟩ := blk_cells h.top
  clear h hf hap
  rcases hs : r.started with _ | _
  · have hat : r.at = -1 := by simp [Rn.at, hs]
    have HS := Lib.hid (show r.tick n = (r, []) by unfold Rn.tick; rw [if_pos (.inl hs)])
    rw [hat] at c0
    clear hs hat
    go_enter Try.func21, Try.ntmps21
    go_wp2_with fail
    go_ret
    exact HN.out HS.out
  · have hat : r.at = (r.stage : Int) := by simp [Rn.at, hs]
    have HSt := Lib.hid hs
    rw [hat] at c0
    have hneg : decide ((r.stage : Int) < 0) = false := decide_eq_false (by omega)
    by_cases h0 : n < 0
    · have HS := Lib.hid (show r.tick n = (r, []) by unfold Rn.tick; rw [if_pos (.inr (.inl h0))])
      have hd : decide (n < 0) = true := decide_eq_true h0
      clear hs hat h0
      go_enter Try.func21, Try.ntmps21
      go_wp2_with fail
      go_ret
      exact HN.out HS.out
    · have hd : decide (n < 0) = false := decide_eq_false h0
      by_cases h1 : 1073741824 < n
      · have HS := Lib.hid (show r.tick n = (r, []) by unfold Rn.tick; rw [if_pos (.inr (.inr h1))])
        have hd1 : decide (1073741824 < n) = true := decide_eq_true h1
        clear hs hat h0 h1
        go_enter Try.func21, Try.ntmps21
        go_wp2_with fail
        go_ret
        exact HN.out HS.out
      · have hd1 : decide (1073741824 < n) = false := decide_eq_false h1
        have HS := Lib.hid (show r.tick n = ((r.later n).ticked.1.after.1, (r.later n).ticked.2 ++ (r.later n).ticked.1.after.2) by unfold Rn.tick; rw [if_neg (by rw [hs]; simp; omega)])
        have HRx := Lib.hid (show RefAt (w.setCell ⟨B.Q, 2, none⟩ (.int .i64 (wrap64 (r.now + n)))) B (r.later n) from HR.out.topset rfl rfl (fun k hk => Below.heap_setCell w ⟨B.Q, 2, none⟩ _ k hk) (heap_set_same HR.out.top))
        have HMx := Lib.hid (show MovedR w (w.setCell ⟨B.Q, 2, none⟩ (.int .i64 (wrap64 (r.now + n)))) B from (MovedR.same _ _).set (.inl rfl))
        have HFx := Lib.hid (show (r.later n).Fine from ⟨HF.out.ok.later n, fun e => (by have : r.started = false := e; rw [hs] at this; cases this), HF.out.fresh⟩)
        have HLN := Lib.hid (show (r.later n).l.length = r.l.length from rfl)
        have HLS := Lib.hid (show (r.later n).sizes = r.sizes from rfl)
        have HSx := Lib.hid (show (r.later n).started = true from hs)
        clear hs hat h0 h1
        go_enter Try.func21, Try.ntmps21
        go_wp2_with fail
        clear c0 z0 hneg hd hd1
        generalize w.setCell ⟨B.Q, 2, none⟩ (.int .i64 (wrap64 (r.now + n))) = w1 at *
        generalize r.later n = rl at *
        refine (bounds_any w1 HRx.out HFx.out.ok HFx.out.ok0).mono ?_
        rintro e w2 ⟨rfl, n2, rfl⟩
        have HR2 := Lib.hid (HRx.out.drewN (n := n2))
        have HM2 := Lib.hid (HMx.out.drewN (n := n2))
        generalize w1.drewN n2 = w2 at *
        have hrf : rl.rfin = rl.fin := by unfold Rn.rfin; rw [if_pos HSx.out]
        rw [hrf]
        clear hrf
        have hfl := HFx.out.ok.fin_le
        have hfew := HFx.out.ok.few
        have HTK := Lib.hid (show rl.ticked = tickAll rl (rl.those (dueF rl.now) rl.first) from rfl)
        go_wp2_with fail
        go_loopw [5, 8] (fun s5 s8 wx => ∃ (k : Nat) (rk : Rn) (lk : List (Int × Int)) (Ak : Option Addr) (ck : Nat), s8 = .int .i64 k ∧ s5 = .slice Ak lk.length ck ∧ rl.first ≤ k ∧ k ≤ rl.fin ∧ RefAt wx B rk ∧ rk.Ok ∧ Alike rl rk ∧ (∀ j, k ≤ j → rk.rq j = rl.rq j) ∧ (tickAll rk (rl.those (dueF rl.now) k)).1 = rl.ticked.1 ∧ lk ++ (tickAll rk (rl.those (dueF rl.now) k)).2 = rl.ticked.2 ∧ OwnS w.heap.size wx (.slice Ak lk.length ck) lk ∧ lk.length ≤ k ∧ MovedR w wx B) (fun _ s8 _ => rl.fin - (intOf s8).toNat)
        case atStart => exact ⟨rl.first, rl, [], none, 0, rfl, rfl, Nat.le_refl _, hfl.1, HR2.out, HFx.out.ok, Alike.refl _, fun _ _ => rfl, rfl, rfl, OwnS.nil _ _, Nat.zero_le _, HM2.out⟩
        case round =>
          obtain ⟨k, rk, lk, Ak, ck, rfl, rfl, hk1, hk2, hrk, hokk, halk, hrqk, hs1, hs2, hownk, hlk, hmk⟩ := hrel
          have HRk := Lib.hid hrk
          have HOKk := Lib.hid hokk
          have HALk := Lib.hid halk
          have HRQk := Lib.hid hrqk
          have HS1 := Lib.hid hs1
          have HS2 := Lib.hid hs2
          have HOk := Lib.hid hownk
          have HLk := Lib.hid hlk
          have HMk := Lib.hid hmk
          clear hrk hokk halk hrqk hs1 hs2 hownk hlk hmk
          by_cases hku : k < rl.fin
          · have hdu : decide (k < rl.fin) = true := decide_eq_true hku
            have HKU := Lib.hid hku
            have hkN : k < rk.l.length := by rw [HALk.out.len]; omega
            have HKN := Lib.hid hkN
            have hkN' : (k : Int) < (rk.l.length : Int) := by omega
            obtain ⟨hBt, hta⟩ := HRk.out.tries_at hkN
            have HTA := Lib.hid hta
            have hct := hta.cell hkN
            have hcd := HRk.out.drow.cell hkN
            have hco := HRk.out.orow.cell hkN
            have hmt := hta.melt
            have hmd := HRk.out.drow.melt
            have hmo := HRk.out.orow.melt
            obtain ⟨ck', zk'⟩ := blk_cells HRk.out.top
            rw [hBt] at ck'
            have hnow : rk.now = rl.now := HALk.out.now
            have HNOW := Lib.hid hnow
            have hqe : rl.rq k = rk.rq k := (HRQk.out k (Nat.le_refl _)).symm
            have HTS := Lib.hid (those_step rl (dueF rl.now) k hku)
            rw [hqe, ← hnow] at HTS
            rw [← hnow] at HS1 HS2 HTK
            obtain ⟨q, hq⟩ : ∃ q, rk.rq k = q := ⟨_, rfl⟩
            have HQ := Lib.hid hq
            rw [hq] at hct hcd hco HTS
            clear hku hta hnow hqe hq
            by_cases ho : q.out = 0
            · by_cases hdue : q.due ≤ rk.now
              · have hso : dueF rk.now q = true := by simp [dueF, ho, hdue]
                rw [hso, if_pos rfl] at HTS
                rw [HTS.out] at HS1 HS2
                have hdd : decide (rk.now < q.due) = false := decide_eq_false (by omega)
                have HO := Lib.hid ho
                rw [ho] at hco
                clear ho hdue hso
                by_cases h4 : q.tries < 4
                · have hd4 : decide (4 ≤ q.tries) = false := decide_eq_false (by omega)
                  have HT1 := Lib.hid (show ∀ L, tickAll rk (k :: L) = ((tickAll (rk.sent k) L).1, ((k : Int), wrap64 (q.tries + 1)) :: (tickAll (rk.sent k) L).2) from fun L => by rw [tickAll, HQ.out, if_pos h4])
                  rw [HT1.out] at HS1 HS2
                  clear h4
                  go_wp2_with (go_quiet (fail))
                  have HRq := Lib.hid (HRk.out.drewN (n := nq))
                  have HMq := Lib.hid (HMk.out.drewN (n := nq))
                  have HOq := Lib.hid (HOk.out.drewN (n := nq))
                  have HTAq := Lib.hid (HTA.out.drewN (m := nq))
                  have hct' := HTAq.out.cell HKN.out
                  have hcd' := HRq.out.drow.cell HKN.out
                  rw [HQ.out] at hct' hcd'
                  have hmt' := HTAq.out.melt
                  have hmd' := HRq.out.drow.melt
                  obtain ⟨cq, zq⟩ := blk_cells HRq.out.top
                  rw [hBt] at cq
                  have hne1 : B.tb ≠ B.gd := HAP.out.td
                  have hne2 : B.gd ≠ B.tb := Ne.symm hne1
                  have hne3 : B.tb ≠ B.Q := HTAq.out.ne HRq.out.top
                  have hne4 : B.gd ≠ B.Q := HRq.out.drow.ne HRq.out.top
                  have hRB := blk_lt HRq.out.top
                  clear hct hcd hco hmt hmd hmo ck' zk'
                  generalize wr.drewN nq = wq at *
                  go_region
                  all_goals
                    have HRX := Lib.hid (show RefAt (((wq.setCell ⟨B.tb, k, none⟩ (.int .i64 (wrap64 (q.tries + 1)))).setCell ⟨B.gd, k, none⟩ (.int .i64 (wrap64 (rk.now + 10)))).drew) B (rk.sent k) from by
                      have := (HRq.out.sent HAP.out HKN.out).drew
                      rw [HQ.out] at this
                      exact this)
                    have HMX := Lib.hid (show MovedR w (((wq.setCell ⟨B.tb, k, none⟩ (.int .i64 (wrap64 (q.tries + 1)))).setCell ⟨B.gd, k, none⟩ (.int .i64 (wrap64 (rk.now + 10)))).drew) B from ((HMq.out.set (.inr (.inl rfl))).set (.inr (.inr (.inl rfl)))).drew)
                    have HOX := Lib.hid (show OwnS w.heap.size (((wq.setCell ⟨B.tb, k, none⟩ (.int .i64 (wrap64 (q.tries + 1)))).setCell ⟨B.gd, k, none⟩ (.int .i64 (wrap64 (rk.now + 10)))).drew) _ lk from HOq.out.movedR ((((MovedR.same _ _).set (.inr (.inl rfl))).set (.inr (.inr (.inl rfl)))).drew) HLB.out)
                    have HTY := Lib.hid (show ((rk.sent k).rq k).tries = wrap64 (q.tries + 1) by rw [sent_rq rk k k HKN.out, if_pos rfl]; unfold Rn.next1; rw [HQ.out])
                    clear hct' hcd' hmt' hmd' cq zq hne1 hne2 hne3 hne4 hRB
                    generalize (((wq.setCell ⟨B.tb, k, none⟩ (.int .i64 (wrap64 (q.tries + 1)))).setCell ⟨B.gd, k, none⟩ (.int .i64 (wrap64 (rk.now + 10)))).drew) = wX at *
                    have hslN : k < (rk.sent k).l.length := by rw [Rn.sent_len]; exact HKN.out
                    obtain ⟨hBt2, hta2⟩ := HRX.out.tries_at hslN
                    have hct2 := hta2.cell hslN
                    rw [HTY.out] at hct2
                    obtain ⟨c5, z5⟩ := blk_cells HRX.out.top
                    rw [hBt, Rn.sent_len] at c5
                    clear hslN hta2 hBt2
                    generalize wrap64 (q.tries + 1) = ty at *
                    go_wp2_with (at_builtin; refine appendS rfl (.tmp 103) (.tmp 113) rfl w.heap.size _ lk rfl ?hown (some ⟨wX.heap.size, 0, none⟩) 1 1 [((k : Int), ty)] rfl rfl ?hA (fun h => by cases h) ?hmax ?hbase ?_)
                    case hown => exact HOX.out.keep (below_new (Below.refl _ _) _)
                    case hA => exact readS_one rfl
                    case hmax => have := HLk.out; omega
                    case hbase => exact Nat.le_trans HMX.out.size (by simp)
                    intro A6 c6 w6 hown6 hb6 hg6
                    have HB6 := Lib.hid (hb6 wX (Below.alloc (Below.refl _ _) HMX.out.size _))
                    have HR6 := Lib.hid (HRX.out.below (HL.out.eq (show (rk.sent k).l.length = r.l.length by rw [Rn.sent_len, HALk.out.len, HLN.out]) (show (rk.sent k).sizes = r.sizes by show rk.sizes = _; rw [HALk.out.sizes, HLS.out])) HB6.out)
                    have HM6 := Lib.hid (HMX.out.then HB6.out)
                    clear hb6 hg6 hct2 c5 z5
                    go_wp2_with fail
                    go_roundw
                    case rel => exact ⟨k + 1, rk.sent k, lk ++ [((k : Int), ty)], A6, c6, by go_num, by rw [List.length_append]; rfl, by omega, HKU.out, HR6.out, HOKk.out.sent k, HALk.out.trans (Alike.put _ _ _), fun j hj => by rw [sent_rq rk k j HKN.out, if_neg (by omega)]; exact HRQk.out j (by omega), by rw [← HNOW.out]; exact HS1.out, by rw [← HNOW.out]; have := HS2.out; simpa using this, by rw [List.length_append]; exact hown6.out, by have := HLk.out; simp; omega, HM6.out⟩
                    case measure => have := HKU.out; simp [intOf]; omega
                · have hd4 : decide (4 ≤ q.tries) = true := decide_eq_true (by omega)
                  have HT1 := Lib.hid (show ∀ L, tickAll rk (k :: L) = tickAll (rk.lose k) L from fun L => by rw [tickAll, HQ.out, if_neg h4])
                  rw [HT1.out] at HS1 HS2
                  clear h4
                  go_wp2_with (go_quiet (fail))
                  have HRX := Lib.hid (show RefAt ((wr.drewN nq).setCell ⟨B.go, k, none⟩ (.int .i64 3)) B (rk.lose k) from HRk.out.drewN.answer HAP.out HKN.out 3)
                  have HMX := Lib.hid (show MovedR w ((wr.drewN nq).setCell ⟨B.go, k, none⟩ (.int .i64 3)) B from (HMk.out.drewN).set (.inr (.inr (.inr rfl))))
                  have HOX := Lib.hid (show OwnS w.heap.size ((wr.drewN nq).setCell ⟨B.go, k, none⟩ (.int .i64 3)) _ lk from HOk.out.movedR (((MovedR.same _ _).drewN).set (.inr (.inr (.inr rfl)))) HLB.out)
                  go_roundw
                  case rel => exact ⟨k + 1, rk.lose k, lk, Ak, ck, by go_num, rfl, by omega, HKU.out, HRX.out, HOKk.out.put _ _, HALk.out.trans (Alike.put _ _ _), fun j hj => by rw [lose_rq rk k j HKN.out, if_neg (by omega)]; exact HRQk.out j (by omega), by rw [← HNOW.out]; exact HS1.out, by rw [← HNOW.out]; exact HS2.out, HOX.out, by have := HLk.out; omega, HMX.out⟩
                  case measure => have := HKU.out; simp [intOf]; omega
              · have hso : dueF rk.now q = false := by simp [dueF, hdue]
                rw [hso, if_neg (by decide)] at HTS
                rw [HTS.out] at HS1 HS2
                have hdd : decide (rk.now < q.due) = true := decide_eq_true (by omega)
                rw [ho] at hco
                clear ho hdue hso
                go_wp2_with (go_quiet (fail))
                go_roundw
                case rel => exact ⟨k + 1, rk, lk, Ak, ck, by go_num, rfl, by omega, HKU.out, HRk.out.drewN, HOKk.out, HALk.out, fun j hj => HRQk.out j (by omega), by rw [← HNOW.out]; exact HS1.out, by rw [← HNOW.out]; exact HS2.out, HOk.out.drewN, by have := HLk.out; omega, HMk.out.drewN⟩
                case measure => have := HKU.out; simp [intOf]; omega
            · have hso : dueF rk.now q = false := by simp [dueF, ho]
              rw [hso, if_neg (by decide)] at HTS
              rw [HTS.out] at HS1 HS2
              obtain ⟨o, hoo⟩ : ∃ o, q.out = o := ⟨_, rfl⟩
              rw [hoo] at hco ho
              have hne : (o != 0) = true := bne_iff_ne.2 ho
              clear ho hso hoo
              go_wp2_with (go_quiet (fail))
              go_roundw
              case rel => exact ⟨k + 1, rk, lk, Ak, ck, by go_num, rfl, by omega, HKU.out, HRk.out.drewN, HOKk.out, HALk.out, fun j hj => HRQk.out j (by omega), by rw [← HNOW.out]; exact HS1.out, by rw [← HNOW.out]; exact HS2.out, HOk.out.drewN, by have := HLk.out; omega, HMk.out.drewN⟩
              case measure => have := HKU.out; simp [intOf]; omega
          · obtain rfl : k = rl.fin := by omega
            have hdu : decide (rl.fin < rl.fin) = false := decide_eq_false (by omega)
            rw [those_none rl (dueF rl.now) rl.fin (Nat.le_refl _)] at HS1 HS2
            have HK1 := Lib.hid (show rk = rl.ticked.1 from HS1.out)
            have HK2 := Lib.hid (show lk = rl.ticked.2 from by have := HS2.out; simpa [tickAll] using this)
            have HFk := Lib.hid (show rk.Fine from ⟨HOKk.out, fun e => (by rw [HALk.out.started, HSx.out] at e; cases e), fun j h1 h2 => by
              have h3 : rk.rfin = rl.rfin := by unfold Rn.rfin; rw [HALk.out.started, HALk.out.fin, HALk.out.first]
              have h4 : rl.rfin = rl.fin := by unfold Rn.rfin; rw [if_pos HSx.out]
              rw [HRQk.out j (by omega)]
              exact HFx.out.fresh j (by omega) (by rw [← HALk.out.len]; exact h2)⟩)
            have HSk := Lib.hid (show rk.started = true from HALk.out.started.trans HSx.out)
            clear hku
            go_wp2_with fail
            refine (rnext_any wr HRk.out HAP.out HFk.out (Nat.lt_of_lt_of_le HLB.out.2.1 HMk.out.size)).mono ?_
            rw [after_fine HFk.out HSk.out]
            rintro e w8 ⟨v8, rfl, hr8, hf8, hs8, hm8⟩
            have HR8 := Lib.hid hr8
            have HF8 := Lib.hid hf8
            have HM8 := Lib.hid (HMk.out.trans hm8)
            have HO8 := Lib.hid (HOk.out.movedR hm8 HLB.out)
            have HB8 := Lib.hid (show rk.after.2.length ≤ 1000 from after_length HOKk.out)
            have HTF := Lib.hid (show r.tick n = (rk.after.1, lk ++ rk.after.2) by rw [HS.out, ← HK1.out, ← HK2.out])
            obtain ⟨A8, c8, rfl, hA8, hc8, hrd8⟩ := hs8.slice
            have HRD := Lib.hid hrd8
            have HAN := Lib.hid hA8
            have hlk1 := HLk.out
            have HL1 := Lib.hid (show lk.length ≤ 1000 by omega)
            have HLA := Lib.hid (show LowR w.heap.size B rk.after.1 from HL.out.eq (by rw [after_len, HALk.out.len]; exact HLN.out) (by rw [after_sizes, HALk.out.sizes]; exact HLS.out))
            generalize rk.after.2 = M at *
            clear hr8 hf8 hs8 hm8 hrd8 hA8 hc8 hlk1
            go_wp2_with (at_builtin; refine appendS rfl (.tmp 115) (.tmp 117) rfl w.heap.size _ lk rfl ?hown A8 M.length c8 M rfl rfl ?hA HAN.out ?hmax ?hbase ?_)
            case hown => exact HO8.out
            case hA => exact HRD.out
            case hmax => have := HL1.out; have := HB8.out; omega
            case hbase => exact HM8.out.size
            intro A6 c6 w6 hown6 hb6 hg6
            have HB6 := Lib.hid (hb6 w8 (Below.refl _ _))
            clear hb6 hg6
            go_wp2_with fail
            go_ret
            rw [HTF.out]
            exact ⟨_, rfl, HR8.out.below HLA.out HB6.out, HF8.out, hown6.out, HM8.out.then HB6.out⟩
end Go.Proofs.Ytpogiondpbfjkaa
