/- RunnerPlays walked. -/
import Derived.Test.YtpogiondpbfjkaaRnew
namespace Go.Proofs.Ytpogiondpbfjkaa
open Go.RowKit Go.Conc
/-- One thing that is done. -/
structure OpIn where
  kind : Int
  n : Int
  no : Int
  rep : Int
/-- Things to do that came in. -/
def OpsIn (w : World) (O : Option Addr) (n : Nat) (os : Nat → OpIn) : Prop :=
  n = 0 ∨ ∃ b off, O = some ⟨b, off, none⟩ ∧ b < w.heap.size ∧ ∀ i, i < n → w.cell? ⟨b, off + i * 4, none⟩ = some (.int .i64 (os i).kind) ∧ w.cell? ⟨b, off + i * 4 + 1, none⟩ = some (.int .i64 (os i).n) ∧ w.cell? ⟨b, off + i * 4 + 2, none⟩ = some (.int .i64 (os i).no) ∧ w.cell? ⟨b, off + i * 4 + 3, none⟩ = some (.int .i64 (os i).rep)
theorem OpsIn.at {w : World} {O : Option Addr} {n i : Nat} {os : Nat → OpIn} (h : OpsIn w O n os) (hi : i < n) : ∃ b off, O = some ⟨b, off, none⟩ ∧ b < w.heap.size ∧ w.cell? ⟨b, off + i * 4, none⟩ = some (.int .i64 (os i).kind) ∧ w.cell? ⟨b, off + i * 4 + 1, none⟩ = some (.int .i64 (os i).n) ∧ w.cell? ⟨b, off + i * 4 + 2, none⟩ = some (.int .i64 (os i).no) ∧ w.cell? ⟨b, off + i * 4 + 3, none⟩ = some (.int .i64 (os i).rep) := by
  rcases h with h | ⟨b, off, e, hlt, hh⟩
  · omega
  · obtain ⟨a1, a2, a3, a4⟩ := hh i hi
    exact ⟨b, off, e, hlt, a1, a2, a3, a4⟩
theorem start_sizes (r : Rn) : r.start.1.sizes = r.sizes := by
  unfold Rn.start; split
  · rfl
  · exact beginF_sizes _ _
theorem tick_sizes (r : Rn) (n : Int) : (r.tick n).1.sizes = r.sizes := by
  unfold Rn.tick; split
  · rfl
  · show Rn.sizes (Rn.after _).1 = _
    rw [after_sizes]
    exact (tickAll_alike _ _).sizes
theorem start_length {r : Rn} (h : r.Ok) : r.start.2.length ≤ 1000 := by
  unfold Rn.start; split
  · simp
  · exact beginF_length _ _ rfl h.on
theorem tick_length {r : Rn} (h : r.Ok) (n : Int) : (r.tick n).2.length ≤ 2000 := by
  unfold Rn.tick; split
  · simp
  · rw [List.length_append]
    have h1 := after_length (tickAll_ok _ (r.later n).dues (h.later n))
    have h2 := tickAll_length (r.later n) (r.later n).dues
    have h3 := those_le (r.later n) (dueF (r.later n).now) (r.later n).first
    have h4 := (h.later n).fin_le
    have h5 := (h.later n).few
    have h6 : (r.later n).dues.length ≤ 1000 := by unfold Rn.dues; omega
    have h7 : (r.later n).ticked = tickAll (r.later n) (r.later n).dues := rfl
    rw [h7]; omega
theorem reply_length {r : Rn} (h : r.Ok) (no kd : Int) : (r.reply no kd).2.length ≤ 1000 := by
  unfold Rn.reply
  split
  · exact after_length (h.put _ _)
  · simp
theorem reply_sizes (r : Rn) (no kd : Int) : (r.reply no kd).1.sizes = r.sizes := by
  unfold Rn.reply
  split
  · rw [after_sizes]; rfl
  · rfl
theorem OwnS.read {B : Nat} {w : World} {A : Option Addr} {n c : Nat} {L : List (Int × Int)} (h : OwnS B w (.slice A n c) L) : n = L.length ∧ ReadS w A L := by
  obtain ⟨A', c', he, _, _, hr⟩ := h.slice
  simp only [Value.slice.injEq] at he
  exact ⟨he.2.1, by rw [he.1]; exact hr⟩
theorem Rn.new_fine {L : List Nat} (h1 : L.sum ≤ 1000) (h2 : L.length ≤ 1000) : (Rn.new L).Fine := ⟨Rn.Ok.new h1 h2, fun _ => rfl, fun i _ hl => new_rq L i (by simpa [Rn.new] using hl)⟩
/-- Where the two lie: the one all lower than the other. -/
structure Apart2 (b : Nat) (R G : Nat) (S : Option Addr) (B : RefB) (L : List Nat) : Prop where
  rl : R < b
  gl : G < b
  sl : L = [] ∨ ∀ a, S = some a → a.block < b
  above : B.Above b
  ap : B.Apart
theorem Apart2.low {b R G : Nat} {S : Option Addr} {B : RefB} {L : List Nat} (h : Apart2 b R G S B L) {r : Rn} (hs : r.sizes = L) : Low b R G S r := ⟨h.rl, h.gl, by rw [hs]; exact h.sl⟩
/-- The runner stays, while the reference's is written. -/
theorem RunAt.ref {w w' : World} {b R G : Nat} {A S : Option Addr} {c sc : Nat} {r : Rn} {B : RefB} {L : List Nat} (h : RunAt w R G A c S sc r) (ha : Apart2 b R G S B L) (hs : r.sizes = L) (hb : b ≤ w.heap.size) (hm : MovedR w w' B) : RunAt w' R G A c S sc r :=
  h.below (ha.low hs) (hm.below hb ha.above)
/-- The reference's stays, while the runner is written. -/
theorem RefAt.run {w w' : World} {b R G : Nat} {S : Option Addr} {r : Rn} {B : RefB} {L : List Nat} (h : RefAt w B r) (ha : Apart2 b R G S B L) (hm : Moved w w' R G) : RefAt w' B r := by
  obtain ⟨h1, h2, h3, h4, h5⟩ := ha.above
  have hR := ha.rl
  have hG := ha.gl
  exact h.moved hm ⟨by omega, by omega, by omega, by omega, by omega⟩ ⟨by omega, by omega, by omega, by omega, by omega⟩
theorem cell_movedR {X y : World} {B : RefB} {a : Addr} {v : Value} (h : X.cell? a = some v) (hm : MovedR X y B) (h1 : a.block ≠ B.Q) (h2 : a.block ≠ B.tb) (h3 : a.block ≠ B.gd) (h4 : a.block ≠ B.go) : y.cell? a = some v := by
  have hl : a.block < X.heap.size := by
    unfold World.cell? at h
    rcases hx : X.heap[a.block]? with _ | o
    · rw [hx] at h; simp at h
    · exact blk_lt hx
  rw [World.cell?_of_block (hm.block a.block hl h1 h2 h3 h4)]; exact h
set_option maxHeartbeats 16000000 in
set_option maxRecDepth 100000 in
theorem plays_any (O : Option Addr) (na ca : Nat) (ds : Nat → Int) (O1 : Option Addr) (nb cb : Nat) (os : Nat → OpIn) (hna : na ≤ 9223372036854775807) (hnb : nb ≤ 9223372036854775807) (w : World) (ha : IntsIn w O na ds) (hb : OpsIn w O1 nb os) : Calls Try.prog 5 #[.slice O na ca, .slice O1 nb cb] w (TestIs w true) := by
  have HA := Lib.hid ha
  have HAB := Lib.hid hb
  clear ha hb
  obtain ⟨hL8, hLs⟩ := sizesL_bd ds na
  go_enter Try.func5, Try.ntmps5
  go_wp2_with fail
  refine (stages_any O na ca ds hna w HA.out).mono ?_
  rintro e w1 ⟨v1, rfl, ho1, hb1⟩
  obtain ⟨A1, c1, rfl⟩ := ho1.slice
  have HB1 := Lib.hid hb1
  have HW1 := Lib.hid ho1.rows.2
  clear ho1 hb1
  generalize sizesL ds na = L at *
  go_wp2_with fail
  refine (new_any A1 c1 L (by omega) (by omega) w1 HW1.out).mono ?_
  rintro e w2 ⟨R, G, A, c, S, sc, rfl, hR, hG, hr2, hb2⟩
  have HR2 := Lib.hid hr2
  have HB2 := Lib.hid (HB1.out.trans (hb2.mono HB1.out.size))
  have HW2 := Lib.hid (HW1.out.keep hb2)
  have HRG := Lib.hid (show w.heap.size ≤ R ∧ w.heap.size ≤ G by have := HB1.out.size; omega)
  clear hr2 hb2 hR hG
  go_wp2_with fail
  refine (rnew_any A1 c1 L (by omega) (by omega) w2 HW2.out).mono ?_
  rintro e w3 ⟨B, rfl, hab, hap, hrf, htb, hb3⟩
  have HR3 := Lib.hid (HR2.out.keep hb3)
  have HQ3 := Lib.hid hrf
  have HT3 := Lib.hid htb
  have HB3 := Lib.hid (HB2.out.trans (hb3.mono HB2.out.size))
  have HS3 := Lib.hid hb3.size
  have HAP := Lib.hid (show Apart2 w2.heap.size R G S B L from ⟨HR2.out.low.1, HR2.out.low.2.1, HR2.out.low.2.2, hab, hap⟩)
  have HAB2 := Lib.hid (show B.Above w.heap.size from ⟨by have := hab.1; have := HB2.out.size; omega, by have := hab.2.1; have := HB2.out.size; omega, by have := hab.2.2.1; have := HB2.out.size; omega, by have := hab.2.2.2.1; have := HB2.out.size; omega, by have := hab.2.2.2.2; have := HB2.out.size; omega⟩)
  clear hrf htb hb3 hab hap
  go_wp2_with fail
  refine (awake_any w3).mono ?_
  rintro e w4 ⟨rfl, hb⟩
  have HR4 := Lib.hid (HR3.out.keep hb)
  have HQ4 := Lib.hid (HQ3.out.keep hb)
  have HT4 := Lib.hid (show B.tb < w4.heap.size from Nat.lt_of_lt_of_le HT3.out hb.size)
  have HB4 := Lib.hid (HB3.out.trans (hb.mono HB3.out.size))
  have HS4 := Lib.hid (Nat.le_trans HS3.out hb.size)
  have HF4 := Lib.hid (Rn.new_fine (L := L) (by omega) (by omega))
  clear hb
  go_wp2_with fail
  go_loopw [8] (fun s8 wr => ∃ (i : Nat) (r : Rn), s8 = .int .i64 i ∧ i ≤ 100 ∧ i ≤ nb ∧ r.Fine ∧ r.sizes = L ∧ RunAt wr R G A c S sc r ∧ RefAt wr B r ∧ B.tb < wr.heap.size ∧ w2.heap.size ≤ wr.heap.size ∧ Below w.heap.size w wr) (fun s8 _ => 100 - (intOf s8).toNat)
  case atStart => exact ⟨0, _, rfl, by omega, by omega, HF4.out, rfl, HR4.out, HQ4.out, HT4.out, HS4.out, HB4.out⟩
  case round =>
    obtain ⟨i, r, rfl, hi100, hib, hfine, hrs, hrun, href, htb, hsz, hbel⟩ := hrel
    have HF := Lib.hid hfine
    have HRS := Lib.hid hrs
    have HR := Lib.hid hrun
    have HQ := Lib.hid href
    have HT := Lib.hid htb
    have HS := Lib.hid hsz
    have HB := Lib.hid hbel
    clear hfine hrs hrun href htb hsz hbel
    by_cases hlt : i < nb
    · by_cases hl : i < 100
      · have hd1 : decide (i < nb) = true := decide_eq_true hlt
        have hd2 : decide (i < 100) = true := decide_eq_true hl
        have hd2' : decide ((i : Int) < 100) = true := decide_eq_true (by omega)
        have hlt' : (i : Int) < (nb : Int) := by omega
        have HLT := Lib.hid hlt
        have HL1 := Lib.hid hl
        obtain ⟨b, off, rfl, hbl, q0, q1, q2, q3⟩ := HAB.out.at hlt
        have q0 := keep_cell HB.out q0
        have q1 := keep_cell HB.out q1
        have q2 := keep_cell HB.out q2
        have q3 := keep_cell HB.out q3
        generalize (os i).kind = kd at *
        generalize (os i).n = nn at *
        generalize (os i).no = no at *
        generalize (os i).rep = rp at *
        clear hlt hl
        go_upto_region 10 with fail
        have HQL := Lib.hid (show B.Q < wr.heap.size ∧ B.tb < wr.heap.size ∧ B.gd < wr.heap.size ∧ B.go < wr.heap.size from ⟨blk_lt HQ.out.top, HT.out, HQ.out.drow.lt, HQ.out.orow.lt⟩)
        have HX5 := Lib.hid (show (wr.alloc (.cells #[.int .i64 kd, .int .i64 nn, .int .i64 no, .int .i64 rp] 46)).heap[wr.heap.size]? = some (.cells #[.int .i64 kd, .int .i64 nn, .int .i64 no, .int .i64 rp] 46) from heap_top0)
        have HW5 := Lib.hid (show Below wr.heap.size wr (wr.alloc (.cells #[.int .i64 kd, .int .i64 nn, .int .i64 no, .int .i64 rp] 46)) from below_new (Below.refl _ _) _)
        have HR5 := Lib.hid (HR.out.keep HW5.out)
        have HQ5 := Lib.hid (HQ.out.keep HW5.out)
        have HT5 := Lib.hid (Nat.lt_of_lt_of_le HT.out HW5.out.size)
        have HS5 := Lib.hid (Nat.le_trans HS.out HW5.out.size)
        have HB5 := Lib.hid (HB.out.trans (HW5.out.mono HB.out.size))
        have HXO := Lib.hid (show w2.heap.size ≤ wr.heap.size from HS.out)
        clear q0 q1 q2 q3
        generalize (wr.alloc (.cells #[.int .i64 kd, .int .i64 nn, .int .i64 no, .int .i64 rp] 46)) = w5 at *
        generalize hxo : wr.heap.size = xo at *
        clear hxo
        obtain ⟨x5, y5⟩ := blk_cells HX5.out
        have hxl := blk_lt HX5.out
        go_upto_block 2 with fail
        go_cut [10] (fun s10 wx => s10 = .bool true ∧ ∃ r1 : Rn, r1.Fine ∧ r1.sizes = L ∧ RunAt wx R G A c S sc r1 ∧ RefAt wx B r1 ∧ B.tb < wx.heap.size ∧ w2.heap.size ≤ wx.heap.size ∧ Below w.heap.size w wx)
        case first =>
          by_cases hk1 : kd = 1
          · subst hk1
            go_upto_region 14 with fail
            have HX6 := Lib.hid (show (w5.alloc (.cells #[.int .i64 no, .int .i64 rp] 33)).heap[w5.heap.size]? = some (.cells #[.int .i64 no, .int .i64 rp] 33) from heap_top0)
            have HW6 := Lib.hid (show Below w5.heap.size w5 (w5.alloc (.cells #[.int .i64 no, .int .i64 rp] 33)) from below_new (Below.refl _ _) _)
            obtain ⟨r1, Xs, hx⟩ : ∃ r1 Xs, r.reply no rp = (r1, Xs) := ⟨_, _, rfl⟩
            have HX := Lib.hid hx
            have HSZ := Lib.hid (show r1.sizes = L from by have := reply_sizes r no rp; rw [hx] at this; exact this.trans HRS.out)
            have HXL := Lib.hid (show Xs.length ≤ 1000000 from by have := reply_length HF.out.ok no rp; rw [hx] at this; simp only at this; omega)
            have HRs := Lib.hid (HR5.out.keep HW6.out)
            have HQs := Lib.hid (HQ5.out.keep HW6.out)
            have HTs := Lib.hid (Nat.lt_of_lt_of_le HT5.out HW6.out.size)
            have HSs := Lib.hid (Nat.le_trans HS5.out HW6.out.size)
            have HBs := Lib.hid (HB5.out.trans (HW6.out.mono HB5.out.size))
            have HQLs := Lib.hid (show B.Q < (w5.alloc (.cells #[.int .i64 no, .int .i64 rp] 33)).heap.size ∧ B.tb < (w5.alloc (.cells #[.int .i64 no, .int .i64 rp] 33)).heap.size ∧ B.gd < (w5.alloc (.cells #[.int .i64 no, .int .i64 rp] 33)).heap.size ∧ B.go < (w5.alloc (.cells #[.int .i64 no, .int .i64 rp] 33)).heap.size from ⟨blk_lt HQs.out.top, HTs.out, HQs.out.drow.lt, HQs.out.orow.lt⟩)
            clear hx
            have HNE := Lib.hid (show w2.heap.size ≤ w5.heap.size from HS5.out)
            have HNQ := Lib.hid (show B.Q < w5.heap.size ∧ B.tb < w5.heap.size ∧ B.gd < w5.heap.size ∧ B.go < w5.heap.size from ⟨blk_lt HQ5.out.top, HT5.out, HQ5.out.drow.lt, HQ5.out.orow.lt⟩)
            clear x5 y5 hxl
            generalize hx6 : w5.heap.size = x6 at *
            generalize (w5.alloc (.cells #[.int .i64 no, .int .i64 rp] 33)) = w6 at *
            clear hx6
            have qs0 := (blk_cells HX6.out).1 0
            have qs1 := (blk_cells HX6.out).1 1
            simp only [List.getElem?_toArray, List.getElem?_cons_succ, List.getElem?_cons_zero] at qs0 qs1
            go_region_held3 (fun x => x.cell? ⟨x6, 0, none⟩ = some (.int .i64 no) ∧ x.cell? ⟨x6, 1, none⟩ = some (.int .i64 rp)) (first | exact ⟨cell_drew qs0, cell_drew qs1⟩ | exact mmy | exact mmz | exact mma | exact mmb) (first | (go_at_call 15; have hpl := HLpz.out.read; have hql := HLqz.out.read; refine (plain_any _ _ _ _ Xs HXL.out _ hpl.2 hql.2).mono ?_; rintro e wy ⟨rfl, hby⟩; have HWy := Lib.hid hby; have qqy0 := keep_cell hby qqz0; have qqy1 := keep_cell hby qqz1; have mmy := (show _ ∧ _ from ⟨qqy0, qqy1⟩); clear hby) | (go_at_call 12; refine (reply_any _ no rp (HRb.out) HF.out.ok).mono ?_; rw [HX.out]; intro e wz hg; obtain ⟨Ap, cp, rfl, hrd, hAn, hr, hok, hm, ho⟩ := gives_slice hg; simp only at hr ho ⊢; have HRz := Lib.hid hr; have HQz := Lib.hid ((HQb.out).run HAP.out hm); have HTz := Lib.hid (Nat.lt_of_lt_of_le HTb.out hm.size); have HSz := Lib.hid (Nat.le_trans HSb.out hm.size); have HBz := Lib.hid (HBb.out.trans (hm.below HBb.out.size HRG.out.1 HRG.out.2)); have HLpz := Lib.hid (ho.mono (Nat.le_trans (Nat.le_refl _) HZb.out)); have HLqz := Lib.hid (HLqb.out.low (Nat.lt_of_lt_of_le HAP.out.rl HSs.out) (Nat.lt_of_lt_of_le HAP.out.gl HSs.out) hm); have qqz0 := cell_moved qqb0 hm (by have := HAP.out.rl; have := HNE.out; show x6 ≠ _; omega) (by have := HAP.out.gl; have := HNE.out; show x6 ≠ _; omega); have qqz1 := cell_moved qqb1 hm (by have := HAP.out.rl; have := HNE.out; show x6 ≠ _; omega) (by have := HAP.out.gl; have := HNE.out; show x6 ≠ _; omega); have mmz := (show _ ∧ _ from ⟨qqz0, qqz1⟩); clear hg hrd hAn hr hok hm ho) | (go_at_call 12; refine (reply_any _ no rp (HRs.out.drew) HF.out.ok).mono ?_; rw [HX.out]; intro e wa hg; obtain ⟨Ap, cp, rfl, hrd, hAn, hr, hok, hm, ho⟩ := gives_slice hg; simp only at hr ho ⊢; have HRa := Lib.hid hr; have HQa := Lib.hid ((HQs.out.drew).run HAP.out hm); have HTa := Lib.hid (Nat.lt_of_lt_of_le HTs.out hm.size); have HSa := Lib.hid (Nat.le_trans HSs.out hm.size); have HBa := Lib.hid (HBs.out.drew.trans (hm.below HBs.out.drew.size HRG.out.1 HRG.out.2)); have HLpa := Lib.hid (ho.mono (Nat.le_trans (Nat.le_refl _) (Nat.le_refl _))); have HZa := Lib.hid (show w6.heap.size ≤ wa.heap.size from hm.size); have qqa0 := cell_moved (cell_drew qs0) hm (by have := HAP.out.rl; have := HNE.out; show x6 ≠ _; omega) (by have := HAP.out.gl; have := HNE.out; show x6 ≠ _; omega); have qqa1 := cell_moved (cell_drew qs1) hm (by have := HAP.out.rl; have := HNE.out; show x6 ≠ _; omega) (by have := HAP.out.gl; have := HNE.out; show x6 ≠ _; omega); have mma := (show _ ∧ _ from ⟨qqa0, qqa1⟩); clear hg hrd hAn hr hok hm ho) | (go_at_call 19; refine (rreply_any _ no rp (HQa.out) HAP.out.ap HF.out HTa.out).mono ?_; rw [HX.out]; rintro e wz ⟨vq, rfl, hr, hf, ho, hm⟩; obtain ⟨Aq, cq, rfl, _, _, _⟩ := ho.slice; simp only at hr hf ho ⊢; have HQz := Lib.hid hr; have HFz := Lib.hid hf; have HRz := Lib.hid (HRa.out.ref HAP.out HSZ.out HSa.out hm); have HLpz := Lib.hid (HLpa.out.movedR hm HQLs.out); have HLqz := Lib.hid (ho.mono HZa.out); have HTz := Lib.hid (Nat.lt_of_lt_of_le HTa.out hm.size); have HSz := Lib.hid (Nat.le_trans HSa.out hm.size); have HBz := Lib.hid (HBa.out.trans (hm.below HBa.out.size HAB2.out)); have qqz0 := cell_movedR qqa0 hm (by have := HNQ.out; show x6 ≠ _; omega) (by have := HNQ.out; show x6 ≠ _; omega) (by have := HNQ.out; show x6 ≠ _; omega) (by have := HNQ.out; show x6 ≠ _; omega); have qqz1 := cell_movedR qqa1 hm (by have := HNQ.out; show x6 ≠ _; omega) (by have := HNQ.out; show x6 ≠ _; omega) (by have := HNQ.out; show x6 ≠ _; omega) (by have := HNQ.out; show x6 ≠ _; omega); have mmz := (show _ ∧ _ from ⟨qqz0, qqz1⟩); clear hr hf ho hm) | (go_at_call 19; refine (rreply_any _ no rp (HQs.out.drew) HAP.out.ap HF.out HTs.out).mono ?_; rw [HX.out]; rintro e wb ⟨vq, rfl, hr, hf, ho, hm⟩; obtain ⟨Aq, cq, rfl, _, _, _⟩ := ho.slice; simp only at hr hf ho ⊢; have HQb := Lib.hid hr; have HFb := Lib.hid hf; have HRb := Lib.hid (HRs.out.drew.ref HAP.out HRS.out (show w2.heap.size ≤ w6.drew.heap.size from HSs.out) hm); have HZb := Lib.hid (show w6.heap.size ≤ wb.heap.size from hm.size); have HLqb := Lib.hid ho; have HTb := Lib.hid (Nat.lt_of_lt_of_le HTs.out hm.size); have HSb := Lib.hid (Nat.le_trans HSs.out hm.size); have HBb := Lib.hid (HBs.out.drew.trans (hm.below HBs.out.drew.size HAB2.out)); have qqb0 := cell_movedR (cell_drew qs0) hm (by have := HNQ.out; show x6 ≠ _; omega) (by have := HNQ.out; show x6 ≠ _; omega) (by have := HNQ.out; show x6 ≠ _; omega) (by have := HNQ.out; show x6 ≠ _; omega); have qqb1 := cell_movedR (cell_drew qs1) hm (by have := HNQ.out; show x6 ≠ _; omega) (by have := HNQ.out; show x6 ≠ _; omega) (by have := HNQ.out; show x6 ≠ _; omega) (by have := HNQ.out; show x6 ≠ _; omega); have mmb := (show _ ∧ _ from ⟨qqb0, qqb1⟩); clear hr hf ho hm))
            all_goals
              have HRy := Lib.hid (HRz.out.keep HWy.out)
              have HQy := Lib.hid (HQz.out.keep HWy.out)
              have HTy := Lib.hid (Nat.lt_of_lt_of_le HTz.out HWy.out.size)
              have HSy := Lib.hid (Nat.le_trans HSz.out HWy.out.size)
              have HBy := Lib.hid (HBz.out.trans (HWy.out.mono HBz.out.size))
              first | have HFz := HFz | have HFz := HFb
              go_wp2_with fail
              go_meet
              exact ⟨rfl, r1, HFz.out, HSZ.out, HRy.out, HQy.out, HTy.out, HSy.out, HBy.out⟩
          · by_cases hk2 : kd = 2
            · subst hk2
              clear hk1
              go_upto_region 16 with fail
              obtain ⟨r1, Xs, hx⟩ : ∃ r1 Xs, r.start = (r1, Xs) := ⟨_, _, rfl⟩
              have HX := Lib.hid hx
              have HSZ := Lib.hid (show r1.sizes = L from by have := start_sizes r; rw [hx] at this; exact this.trans HRS.out)
              have HXL := Lib.hid (show Xs.length ≤ 1000000 from by have := start_length HF.out.ok; rw [hx] at this; simp only at this; omega)
              have HRs := Lib.hid HR5.out
              have HQs := Lib.hid HQ5.out
              have HTs := Lib.hid HT5.out
              have HSs := Lib.hid HS5.out
              have HBs := Lib.hid HB5.out
              have HQLs := Lib.hid (show B.Q < w5.heap.size ∧ B.tb < w5.heap.size ∧ B.gd < w5.heap.size ∧ B.go < w5.heap.size from ⟨blk_lt HQs.out.top, HTs.out, HQs.out.drow.lt, HQs.out.orow.lt⟩)
              clear hx
              go_wp2_with fail
              refine (start_any w5 HRs.out HF.out.ok).mono ?_
              rw [HX.out]
              intro e wa hg
              obtain ⟨Ap, cp, rfl, hrd, hAn, hr, hok, hm, ho⟩ := gives_slice hg
              simp only at hr ho ⊢
              have HRa := Lib.hid hr
              have HQa := Lib.hid (HQs.out.run HAP.out hm)
              have HTa := Lib.hid (Nat.lt_of_lt_of_le HTs.out hm.size)
              have HSa := Lib.hid (Nat.le_trans HSs.out hm.size)
              have HBa := Lib.hid (HBs.out.trans (hm.below HBs.out.size HRG.out.1 HRG.out.2))
              have HLpa := Lib.hid ho
              have HZa := Lib.hid hm.size
              clear hg hrd hAn hr hok hm ho
              go_wp2_with fail
              refine (rstart_any wa HQa.out HAP.out.ap HF.out HTa.out).mono ?_
              rw [HX.out]
              rintro e wz ⟨vq, rfl, hr, hf, ho, hm⟩
              obtain ⟨Aq, cq, rfl, _, _, _⟩ := ho.slice
              simp only at hr hf ho ⊢
              have HQz := Lib.hid hr
              have HFz := Lib.hid hf
              have HRz := Lib.hid (HRa.out.ref HAP.out HSZ.out HSa.out hm)
              have HLpz := Lib.hid (HLpa.out.movedR hm HQLs.out)
              have HLqz := Lib.hid (ho.mono HZa.out)
              have HTz := Lib.hid (Nat.lt_of_lt_of_le HTa.out hm.size)
              have HSz := Lib.hid (Nat.le_trans HSa.out hm.size)
              have HBz := Lib.hid (HBa.out.trans (hm.below HBa.out.size HAB2.out))
              clear hr hf ho hm
              go_wp2_with fail
              refine (plain_any _ _ _ _ Xs HXL.out _ HLpz.out.read.2 HLqz.out.read.2).mono ?_
              rintro e wy ⟨rfl, hby⟩
              have HWy := Lib.hid hby
              clear hby
              have HRy := Lib.hid (HRz.out.keep HWy.out)
              have HQy := Lib.hid (HQz.out.keep HWy.out)
              have HTy := Lib.hid (Nat.lt_of_lt_of_le HTz.out HWy.out.size)
              have HSy := Lib.hid (Nat.le_trans HSz.out HWy.out.size)
              have HBy := Lib.hid (HBz.out.trans (HWy.out.mono HBz.out.size))
              go_wp2_with fail
              go_meet
              exact ⟨rfl, r1, HFz.out, HSZ.out, HRy.out, HQy.out, HTy.out, HSy.out, HBy.out⟩
            · have e1 : (kd == 1) = false := beq_eq_false_iff_ne.2 hk1
              have e2 : (kd == 2) = false := beq_eq_false_iff_ne.2 hk2
              clear hk1 hk2
              go_upto_region 11 with fail
              obtain ⟨r1, Xs, hx⟩ : ∃ r1 Xs, r.tick nn = (r1, Xs) := ⟨_, _, rfl⟩
              have HX := Lib.hid hx
              have HSZ := Lib.hid (show r1.sizes = L from by have := tick_sizes r nn; rw [hx] at this; exact this.trans HRS.out)
              have HXL := Lib.hid (show Xs.length ≤ 1000000 from by have := tick_length HF.out.ok nn; rw [hx] at this; simp only at this; omega)
              have HRs := Lib.hid HR5.out
              have HQs := Lib.hid HQ5.out
              have HTs := Lib.hid HT5.out
              have HSs := Lib.hid HS5.out
              have HBs := Lib.hid HB5.out
              have HQLs := Lib.hid (show B.Q < w5.heap.size ∧ B.tb < w5.heap.size ∧ B.gd < w5.heap.size ∧ B.go < w5.heap.size from ⟨blk_lt HQs.out.top, HTs.out, HQs.out.drow.lt, HQs.out.orow.lt⟩)
              clear hx
              have HNE := Lib.hid (show w2.heap.size ≤ xo from HXO.out)
              have HNQ := Lib.hid (show B.Q < xo ∧ B.tb < xo ∧ B.gd < xo ∧ B.go < xo from HQL.out)
              have qs0 := x5 1
              simp only [List.getElem?_toArray, List.getElem?_cons_succ, List.getElem?_cons_zero] at qs0
              go_region_held3 (fun x => x.cell? ⟨xo, 1, none⟩ = some (.int .i64 nn)) (first | exact cell_drew qs0 | exact mmy | exact mmz | exact mma | exact mmb) (first | (go_at_call 15; have hpl := HLpz.out.read; have hql := HLqz.out.read; refine (plain_any _ _ _ _ Xs HXL.out _ hpl.2 hql.2).mono ?_; rintro e wy ⟨rfl, hby⟩; have HWy := Lib.hid hby; have qqy0 := keep_cell hby qqz0; have mmy := qqy0; clear hby) | (go_at_call 17; refine (tick_any _ nn (HRb.out) HF.out.ok).mono ?_; rw [HX.out]; intro e wz hg; obtain ⟨Ap, cp, rfl, hrd, hAn, hr, hok, hm, ho⟩ := gives_slice hg; simp only at hr ho ⊢; have HRz := Lib.hid hr; have HQz := Lib.hid ((HQb.out).run HAP.out hm); have HTz := Lib.hid (Nat.lt_of_lt_of_le HTb.out hm.size); have HSz := Lib.hid (Nat.le_trans HSb.out hm.size); have HBz := Lib.hid (HBb.out.trans (hm.below HBb.out.size HRG.out.1 HRG.out.2)); have HLpz := Lib.hid (ho.mono (Nat.le_trans (Nat.le_refl _) HZb.out)); have HLqz := Lib.hid (HLqb.out.low (Nat.lt_of_lt_of_le HAP.out.rl HSs.out) (Nat.lt_of_lt_of_le HAP.out.gl HSs.out) hm); have qqz0 := cell_moved qqb0 hm (by have := HAP.out.rl; have := HNE.out; show xo ≠ _; omega) (by have := HAP.out.gl; have := HNE.out; show xo ≠ _; omega); have mmz := qqz0; clear hg hrd hAn hr hok hm ho) | (go_at_call 17; refine (tick_any _ nn (HRs.out.drew) HF.out.ok).mono ?_; rw [HX.out]; intro e wa hg; obtain ⟨Ap, cp, rfl, hrd, hAn, hr, hok, hm, ho⟩ := gives_slice hg; simp only at hr ho ⊢; have HRa := Lib.hid hr; have HQa := Lib.hid ((HQs.out.drew).run HAP.out hm); have HTa := Lib.hid (Nat.lt_of_lt_of_le HTs.out hm.size); have HSa := Lib.hid (Nat.le_trans HSs.out hm.size); have HBa := Lib.hid (HBs.out.drew.trans (hm.below HBs.out.drew.size HRG.out.1 HRG.out.2)); have HLpa := Lib.hid (ho.mono (Nat.le_trans (Nat.le_refl _) (Nat.le_refl _))); have HZa := Lib.hid (show w5.heap.size ≤ wa.heap.size from hm.size); have qqa0 := cell_moved (cell_drew qs0) hm (by have := HAP.out.rl; have := HNE.out; show xo ≠ _; omega) (by have := HAP.out.gl; have := HNE.out; show xo ≠ _; omega); have mma := qqa0; clear hg hrd hAn hr hok hm ho) | (go_at_call 21; refine (rtick_any _ nn (HQa.out) HAP.out.ap HF.out HTa.out).mono ?_; rw [HX.out]; rintro e wz ⟨vq, rfl, hr, hf, ho, hm⟩; obtain ⟨Aq, cq, rfl, _, _, _⟩ := ho.slice; simp only at hr hf ho ⊢; have HQz := Lib.hid hr; have HFz := Lib.hid hf; have HRz := Lib.hid (HRa.out.ref HAP.out HSZ.out HSa.out hm); have HLpz := Lib.hid (HLpa.out.movedR hm HQLs.out); have HLqz := Lib.hid (ho.mono HZa.out); have HTz := Lib.hid (Nat.lt_of_lt_of_le HTa.out hm.size); have HSz := Lib.hid (Nat.le_trans HSa.out hm.size); have HBz := Lib.hid (HBa.out.trans (hm.below HBa.out.size HAB2.out)); have qqz0 := cell_movedR qqa0 hm (by have := HNQ.out; show xo ≠ _; omega) (by have := HNQ.out; show xo ≠ _; omega) (by have := HNQ.out; show xo ≠ _; omega) (by have := HNQ.out; show xo ≠ _; omega); have mmz := qqz0; clear hr hf ho hm) | (go_at_call 21; refine (rtick_any _ nn (HQs.out.drew) HAP.out.ap HF.out HTs.out).mono ?_; rw [HX.out]; rintro e wb ⟨vq, rfl, hr, hf, ho, hm⟩; obtain ⟨Aq, cq, rfl, _, _, _⟩ := ho.slice; simp only at hr hf ho ⊢; have HQb := Lib.hid hr; have HFb := Lib.hid hf; have HRb := Lib.hid (HRs.out.drew.ref HAP.out HRS.out (show w2.heap.size ≤ w5.drew.heap.size from HSs.out) hm); have HZb := Lib.hid (show w5.heap.size ≤ wb.heap.size from hm.size); have HLqb := Lib.hid ho; have HTb := Lib.hid (Nat.lt_of_lt_of_le HTs.out hm.size); have HSb := Lib.hid (Nat.le_trans HSs.out hm.size); have HBb := Lib.hid (HBs.out.drew.trans (hm.below HBs.out.drew.size HAB2.out)); have qqb0 := cell_movedR (cell_drew qs0) hm (by have := HNQ.out; show xo ≠ _; omega) (by have := HNQ.out; show xo ≠ _; omega) (by have := HNQ.out; show xo ≠ _; omega) (by have := HNQ.out; show xo ≠ _; omega); have mmb := qqb0; clear hr hf ho hm))
              all_goals
                have HRy := Lib.hid (HRz.out.keep HWy.out)
                have HQy := Lib.hid (HQz.out.keep HWy.out)
                have HTy := Lib.hid (Nat.lt_of_lt_of_le HTz.out HWy.out.size)
                have HSy := Lib.hid (Nat.le_trans HSz.out HWy.out.size)
                have HBy := Lib.hid (HBz.out.trans (HWy.out.mono HBz.out.size))
                first | have HFz := HFz | have HFz := HFb
                go_wp2_with fail
                go_meet
                exact ⟨rfl, r1, HFz.out, HSZ.out, HRy.out, HQy.out, HTy.out, HSy.out, HBy.out⟩
        obtain ⟨rfl, r1, hf1, hs1, hr1, hq1, ht1, hz1, hb1⟩ := hcut
        have HF1 := Lib.hid hf1
        have HS1 := Lib.hid hs1
        have HR1 := Lib.hid hr1
        have HQ1 := Lib.hid hq1
        have HT1 := Lib.hid ht1
        have HZ1 := Lib.hid hz1
        have HB1 := Lib.hid hb1
        clear hf1 hs1 hr1 hq1 ht1 hz1 hb1 x5 y5 hxl
        have HQT := Lib.hid (show (wc.heap[B.Q]? = some (.cells #[.slice B.As r1.sizes.length B.cs, .int .i64 r1.at, .int .i64 r1.now, .slice B.At r1.l.length B.ct, .slice (some ⟨B.gd, 0, none⟩) r1.l.length r1.l.length, .slice (some ⟨B.go, 0, none⟩) r1.l.length r1.l.length] 48)) from HQ1.out.top)
        have HFEW := Lib.hid (show r1.l.length ≤ 1000 from HF1.out.ok.few)
        go_wp2_with fail
        refine (stage_any wc HR1.out).mono ?_
        rintro e wd ⟨rfl, hwd⟩
        rw [hwd]
        clear hwd wd
        go_wp2_with fail
        refine (rstage_any wc HQ1.out HF1.out.ok0).mono ?_
        rintro e wd ⟨rfl, hwd⟩
        rw [hwd]
        clear hwd wd
        generalize r1.stage = st
        have hst : (st == st) = true := beq_self_eq_true st
        go_wp2_with fail
        refine (done_any wc HR1.out).mono ?_
        rintro e wd ⟨rfl, nd, hwd⟩
        have HR2 := Lib.hid (HR1.out.drewN (n := nd))
        have HQ2 := Lib.hid (HQ1.out.drewN (n := nd))
        have HB2 := Lib.hid (below_drewNs (n := nd) HB1.out)
        have HT2 := Lib.hid (show B.tb < (wc.drewN nd).heap.size from HT1.out)
        have HZ2 := Lib.hid (show w2.heap.size ≤ (wc.drewN nd).heap.size from HZ1.out)
        rw [← hwd] at HR2 HQ2 HB2 HT2 HZ2
        clear hwd
        go_wp2_with fail
        refine (rdone_any wd HQ2.out).mono ?_
        rintro e we ⟨rfl, ne, hwe⟩
        have HR3 := Lib.hid (HR2.out.drewN (n := ne))
        have HQ3 := Lib.hid (HQ2.out.drewN (n := ne))
        have HB3 := Lib.hid (below_drewNs (n := ne) HB2.out)
        have HT3 := Lib.hid (show B.tb < (wd.drewN ne).heap.size from HT2.out)
        have HZ3 := Lib.hid (show w2.heap.size ≤ (wd.drewN ne).heap.size from HZ2.out)
        rw [← hwe] at HR3 HQ3 HB3 HT3 HZ3
        clear hwe
        generalize r1.done = dd
        have hdd : (dd == dd) = true := beq_self_eq_true dd
        go_wp2_with fail
        have hm1 : intOf (.int .i64 0 : Value) = 0 := rfl
        go_loopw [12] (fun s12 wz => ∃ j : Nat, s12 = .int .i64 ((j : Int) - 1) ∧ j ≤ r1.l.length + 2 ∧ wz = we) (fun s12 _ => r1.l.length + 2 - (intOf s12 + 1).toNat)
        case atStart => exact ⟨0, rfl, by omega, rfl⟩
        case round =>
          obtain ⟨j, rfl, hj, hwz⟩ := hrel
          rw [hwz]
          clear hwz
          have HJ := Lib.hid hj
          obtain ⟨z0, z1⟩ := blk_cells HQ3.out.top
          have hfew := HFEW.out
          by_cases hjl : j < r1.l.length + 2
          · have hd3 : decide ((j : Int) - 1 ≤ (r1.l.length : Int)) = true := decide_eq_true (by omega)
            have HJL := Lib.hid hjl
            go_wp2_with fail
            refine (outcome_any we ((j : Int) - 1) HR3.out).mono ?_
            rintro e wd ⟨rfl, hwd⟩
            rw [hwd]
            clear hwd wd
            go_wp2_with fail
            refine (routcome_any we ((j : Int) - 1) HQ3.out).mono ?_
            rintro e wd ⟨rfl, hwd⟩
            rw [hwd]
            clear hwd wd
            generalize r1.outcome ((j : Int) - 1) = oc
            have hoc : (oc == oc) = true := beq_self_eq_true oc
            go_wp2_with fail
            go_roundw
            case rel => exact ⟨j + 1, by go_num, HJL.out, trivial⟩
            case measure => have := HJL.out; simp [intOf]; omega
          · have hd3 : decide ((j : Int) - 1 ≤ (r1.l.length : Int)) = false := decide_eq_false (by omega)
            clear hj
            go_wp2_with fail
            go_roundw
            case rel => exact ⟨i + 1, r1, by go_num, by have := HL1.out; omega, HLT.out, HF1.out, HS1.out, HR3.out, HQ3.out, HT3.out, HZ3.out, HB3.out⟩
            case measure => have := HL1.out; simp [intOf]; omega
      · have hd1 : decide (i < nb) = true := decide_eq_true hlt
        have hd2 : decide (i < 100) = false := decide_eq_false hl
        have hd2' : decide ((i : Int) < 100) = false := decide_eq_false (by omega)
        clear hlt hl
        go_wp2_with fail
        all_goals
          go_ret
          exact ⟨rfl, HB.out⟩
    · have hd1 : decide (i < nb) = false := decide_eq_false hlt
      clear hlt
      go_wp2_with fail
      all_goals
        go_ret
        exact ⟨rfl, HB.out⟩
end Go.Proofs.Ytpogiondpbfjkaa
