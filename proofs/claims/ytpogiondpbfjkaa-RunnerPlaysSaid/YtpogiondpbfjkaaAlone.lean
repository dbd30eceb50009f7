/- RunnerAlone walked. -/
import Derived.Test.YtpogiondpbfjkaaArr
import Derived.Test.YtpogiondpbfjkaaAli
namespace Go.Proofs.Ytpogiondpbfjkaa
open Go.RowKit Go.Conc
theorem sizesL_bd (ds : Nat → Int) (n : Nat) : (sizesL ds n).length ≤ 8 ∧ (sizesL ds n).sum ≤ 40 := by
  refine ⟨by rw [sizesL_length]; omega, ?_⟩
  have h : ∀ l : List Nat, (∀ x ∈ l, x ≤ 4) → l.sum ≤ 4 * l.length := by
    intro l hl
    induction l with
    | nil => simp
    | cons a t ih =>
      have := ih (fun x hx => hl x (by simp [hx]))
      have := hl a (by simp)
      simp only [List.sum_cons, List.length_cons]; omega
  have h1 := h (sizesL ds n) (fun x hx => by
    unfold sizesL at hx
    obtain ⟨i, _, rfl⟩ := List.mem_map.1 hx
    have := modN_lt 5 (ds i) (by decide); omega)
  rw [sizesL_length] at h1; omega
theorem ainv_bd {L : List Nat} {N : Nat} {r : Rn} {X : List (Int × Int)} {T : Nat → Int} {i : Nat} (h : AInv L N r X T i) (hL : L.length ≤ 8) : i ≤ 40 := by
  obtain ⟨h1, _, _, h4⟩ := h
  rcases h4 with ⟨t, hal, _, hi, _⟩ | ⟨hdn, _, hi, _⟩
  · have a := hal.stage
    have b := hal.t4
    rw [h1] at a; omega
  · have a := hdn.stage
    rw [h1] at a; omega
theorem cnt_step (a b j x : Nat) (t : Int) : (if x < a then 4 else if x < a + (j + 1) then t else if x < b then t - 1 else 0) = if x = a + j then t else if x < a then 4 else if x < a + j then t else if x < b then t - 1 else 0 := by
  by_cases h1 : x < a
  · have : x ≠ a + j := by omega
    simp [h1, this]
  · by_cases h2 : x = a + j
    · subst h2
      rw [if_neg h1, if_pos (by omega), if_pos rfl]
    · by_cases h3 : x < a + j
      · have : x < a + (j + 1) := by omega
        simp [h1, h2, h3, this]
      · have : ¬ x < a + (j + 1) := by omega
        simp [h1, h2, h3, this]
theorem cnt_end (a b x : Nat) (t : Int) : (if x < a then 4 else if x < b then t else 0) = if x < a then (4 : Int) else if x < b then t else if x < b then t - 1 else 0 := by
  by_cases h1 : x < a
  · simp [h1]
  · by_cases h2 : x < b
    · simp [h1, h2]
    · simp [h1, h2]
theorem RowsAt.at {w : World} {A : Option Addr} {L : List Nat} (h : RowsAt w A L) {i : Nat} (hi : i < L.length) : ∃ g, A = some ⟨g, 0, none⟩ ∧ g < w.heap.size ∧ ∃ Ai ci, w.cell? ⟨g, i, none⟩ = some (.slice Ai (L.getD i 0) ci) := by
  rcases h with h | ⟨g, h1, h2, h3⟩
  · rw [h] at hi; simp at hi
  · exact ⟨g, h1, h2, h3 i hi⟩
set_option maxHeartbeats 8000000 in
set_option maxRecDepth 100000 in
theorem alone_any (O : Option Addr) (na ca : Nat) (ds : Nat → Int) (O1 : Option Addr) (nb cb : Nat) (dt : Nat → Int) (hna : na ≤ 9223372036854775807) (hnb : nb ≤ 9223372036854775807) (w : World) (ha : IntsIn w O na ds) (hb : IntsIn w O1 nb dt) : Calls Try.prog 7 #[.slice O na ca, .slice O1 nb cb] w (TestIs w true) := by
  have HA := Lib.hid ha
  have HAB := Lib.hid hb
  clear ha hb
  obtain ⟨hL8, hLs⟩ := sizesL_bd ds na
  go_enter Try.func7, Try.ntmps7
  go_wp2_with fail
  refine (stages_any O na ca ds hna w HA.out).mono ?_
  rintro e w1 ⟨v1, rfl, ho1, hb1⟩
  obtain ⟨A1, c1, rfl⟩ := ho1.slice
  have HB1 := Lib.hid hb1
  have HW1 := Lib.hid ho1.rows.2
  clear ho1 hb1
  generalize sizesL ds na = L at *
  go_wp2_with fail
  refine (new_any A1 c1 L (by omega) (by omega) w1 HW1.out).mono ?_
  rintro e w2 ⟨R, G, A, c, S, sc, rfl, hR, hG, hr2, hb2⟩
  have HR2 := Lib.hid hr2
  have HB2 := Lib.hid hb2
  have HRG := Lib.hid (And.intro hR hG)
  have HOK2 := Lib.hid (Rn.Ok.new (L := L) (by omega) (by omega))
  clear hr2 hb2 hR hG
  go_wp2_with fail
  refine (awake_any w2).mono ?_
  rintro e w3 ⟨rfl, hb⟩
  have HB3 := Lib.hid (below_call HB2.out hb)
  have HR3 := Lib.hid (HR2.out.keep hb)
  have HOK3 := Lib.hid HOK2.out
  clear hb
  go_wp2_with fail
  refine (tick_any w3 5 HR3.out HOK3.out).mono ?_
  rw [new_tick]
  intro e w4 hg
  obtain ⟨A4, c4, rfl, hrd, hAn, hr, hok, hm, ho⟩ := gives_slice hg
  have HD4 := Lib.hid hrd
  have HR4 := Lib.hid hr
  have HOK4 := Lib.hid hok
  have HB4 := Lib.hid (HB3.out.trans (hm.below HB3.out.size HRG.out.1 HRG.out.2))
  clear hg hrd hAn hr hok hm ho
  go_wp2_with fail
  refine (reply_any w4 0 1 HR4.out HOK4.out).mono ?_
  rw [new_reply]
  intro e w5 hg
  obtain ⟨A5, c5, rfl, hrd, hAn, hr, hok, hm, ho⟩ := gives_slice hg
  have HD5 := Lib.hid hrd
  have HR5 := Lib.hid hr
  have HOK5 := Lib.hid hok
  have HB5 := Lib.hid (HB4.out.trans (hm.below HB4.out.size HRG.out.1 HRG.out.2))
  clear hg hrd hAn hr hok hm ho
  go_wp2_with fail
  refine (done_any w5 HR5.out).mono ?_
  rintro e wd ⟨rfl, nd, rfl⟩
  have hd : (Rn.new L).done = false := by rfl
  rw [hd]
  clear hd
  have HR6 := Lib.hid (HR5.out.drewN (n := nd))
  have HB6 := Lib.hid (below_drewNs (n := nd) HB5.out)
  have HOK6 := Lib.hid HOK5.out
  generalize w5.drewN nd = w6 at *
  go_wp2_with fail
  refine (stage_any w6 HR6.out).mono ?_
  rintro e wd ⟨rfl, hwd⟩
  rw [hwd]
  clear hwd wd
  have hd : (Rn.new L).stage = 0 := by rfl
  rw [hd]
  clear hd
  go_wp2_with fail
  go_loopw [7, 8] (fun s7 s8 wx => ∃ k : Nat, s8 = .int .i64 k ∧ s7 = .int .i64 ((L.take k).sum : Nat) ∧ k ≤ L.length ∧ wx = w6) (fun _ s8 _ => L.length - (intOf s8).toNat)
  case atStart => exact ⟨0, rfl, rfl, by omega, rfl⟩
  case round =>
    obtain ⟨k, rfl, rfl, hk, hwx⟩ := hrel
    rw [hwx]
    clear hwx
    by_cases hkl : k < L.length
    · have hd : decide (k < L.length) = true := decide_eq_true hkl
      have hkl' : (k : Int) < (L.length : Int) := by omega
      have HKL := Lib.hid hkl
      obtain ⟨g1, hA1, hg1, Ai, ci, hc1⟩ := (HW1.out.keep HB6.out).at hkl
      subst hA1
      have HT := Lib.hid (sum_take_succ L k hkl)
      have HTL := Lib.hid (sum_take_le L (k + 1))
      generalize hm : L.getD k 0 = m at *
      generalize hS : (L.take k).sum = sm at *
      clear hkl hm hS
      have hsm : sm + m ≤ 40 := by have := HT.out; have := HTL.out; omega
      go_wp2_with fail
      go_roundw
      case rel => exact ⟨k + 1, by go_num, by rw [HT.out]; rfl, HKL.out, trivial⟩
      case measure => have := HKL.out; simp [intOf]; omega
    · obtain rfl : k = L.length := by omega
      have hd : decide (L.length < L.length) = false := decide_eq_false (by omega)
      rw [List.take_length]
      have HNE := Lib.hid (rfl : L.sum = L.sum)
      obtain ⟨N, hN⟩ : ∃ N, L.sum = N := ⟨_, rfl⟩
      have HN := Lib.hid hN
      rw [hN] at hLs ⊢
      clear hkl hN HNE
      obtain ⟨i0, hi, hz0, hz1, hz2⟩ := info_parts info3
      have HI := Lib.hid hi
      have HZ0 := Lib.hid hz0
      have HZ1 := Lib.hid hz1
      have HZ2 := Lib.hid hz2
      clear hi hz0 hz1 hz2
      go_wp2_with (at_make; refine wpList_make_full _ rfl (.tmp 61) (.tmp 61) 26 rfl w1.heap.size 3 i0 (.int .i64 0) 1 Try.underlying26 HI.out HZ0.out HZ1.out .i64 .i64 (N : Int) (N : Int) N rfl rfl rfl rfl ?b2 ?b3 ?b4 ?_)
      case b2 => rw [HZ2.out]; omega
      case b3 => simp only [maxLen]; omega
      case b4 => exact HB6.out.size
      intro w7 hown7 hg7
      have HB67 := Lib.hid (show Below w6.heap.size w6 w7 from (Below.refl w6.heap.size w6).grown hg7 (Nat.le_refl _) (fun g hg => by cases hg))
      have HB7 := Lib.hid (HB6.out.trans (HB67.out.mono HB6.out.size))
      have HR7 := Lib.hid (HR6.out.keep HB67.out)
      have HAR7 := Lib.hid (Arr.of_made (B := w1.heap.size) (w := w7) (g := w6.heap.size) (n := N) (by rw [Nat.mul_one]; exact hown7))
      have HL9 := Lib.hid HR6.out.low
      have HG9 := Lib.hid (show R ≠ w6.heap.size ∧ G ≠ w6.heap.size ∧ w1.heap.size ≤ w6.heap.size from ⟨by have := HL9.out.1; omega, by have := HL9.out.2.1; omega, HB6.out.size⟩)
      clear hown7 hg7
      generalize w6.heap.size = g9 at *
      go_wp2_with fail
      refine (start_any w7 HR7.out HOK6.out).mono ?_
      intro e w8 hg
      obtain ⟨A8, c8, rfl, hrd, hAn, hr, hok, hm, ho⟩ := gives_slice hg
      have hinv := ainv_start L (by have := HN.out; omega) (by omega)
      obtain ⟨r0, X0, hx⟩ : ∃ r X, (Rn.new L).start = (r, X) := ⟨_, _, rfl⟩
      rw [hx] at hr hok ho hinv ⊢
      simp only at hr hok ho hinv ⊢
      rw [HN.out] at hinv
      have HR8 := Lib.hid hr
      have HOK8 := Lib.hid hok
      have HO8 := Lib.hid (ho.mono HB7.out.size)
      have HAR8 := Lib.hid (HAR7.out.moved hm (Ne.symm HG9.out.1) (Ne.symm HG9.out.2.1))
      have HB8 := Lib.hid (HB7.out.trans (hm.below HB7.out.size HRG.out.1 HRG.out.2))
      have HINV := Lib.hid hinv
      clear hg hrd hAn hr hok hm ho hx hinv
      go_wp2_with fail
      go_loopw [10, 11] (fun s10 s11 wr => ∃ (r : Rn) (i : Nat) (X : List (Int × Int)) (Ax : Option Addr) (cx : Nat) (T : Nat → Int), s10 = .slice Ax X.length cx ∧ s11 = .int .i64 i ∧ OwnS w1.heap.size wr (.slice Ax X.length cx) X ∧ RunAt wr R G A c S sc r ∧ r.Ok ∧ AInv L N r X T i ∧ Arr wr g9 N T ∧ Below w1.heap.size w1 wr ∧ i ≤ 100) (fun _ s11 _ => 200 - (intOf s11).toNat)
      case atStart => exact ⟨r0, 0, X0, A8, c8, _, rfl, rfl, HO8.out, HR8.out, HOK8.out, HINV.out, HAR8.out, HB8.out, by omega⟩
      case round =>
        obtain ⟨r, i, X, Ax, cx, T, rfl, rfl, hown, hrun, hok, hinv, harr, hbel, hi100⟩ := hrel
        have HO := Lib.hid hown
        have HR := Lib.hid hrun
        have HOK := Lib.hid hok
        have HAR := Lib.hid harr
        have HB := Lib.hid hbel
        have hd200 : decide (i < 200) = true := decide_eq_true (by omega)
        have hd200' : decide ((i : Int) < 200) = true := decide_eq_true (by omega)
        obtain ⟨hrs, hrn, hrnow, hst⟩ := hinv
        have HRS := Lib.hid hrs
        have HRN := Lib.hid hrn
        have HRW := Lib.hid hrnow
        clear hown hrun hok harr hbel hrs hrn hrnow
        go_wp2_with fail
        refine (done_any wr HR.out).mono ?_
        rintro e wd ⟨rfl, nd, rfl⟩
        have HRd := Lib.hid (HR.out.drewN (n := nd))
        have HOd := Lib.hid (HO.out.drewN (n := nd))
        have HARd := Lib.hid (HAR.out.drewN (m := nd))
        have HBd := Lib.hid (below_drewNs (n := nd) HB.out)
        generalize wr.drewN nd = wd at *
        rcases hst with ⟨t, hal, rfl, hit, hT⟩ | ⟨hdn, rfl, hit, hT⟩
        · have HAL := Lib.hid hal
          have HIT := Lib.hid hit
          have HTT := Lib.hid hT
          rw [al_done hal]
          clear hal hit hT
          go_wp2_with fail
          have hlen40 : (r.stageL t).length ≤ 40 := by have := stageL_length r t; have := HOK.out.fin_le; have := HRN.out; omega
          have hbl : r.fin ≤ N := by have := HOK.out.fin_le; have := HRN.out; omega
          have HBL := Lib.hid hbl
          go_loopw [12] (fun s12 wx => ∃ j : Nat, s12 = .int .i64 j ∧ j ≤ (r.stageL t).length ∧ Arr wx g9 N (fun x => if x < r.first then 4 else if x < r.first + j then t else if x < r.fin then t - 1 else 0) ∧ RunAt wx R G A c S sc r ∧ OwnS w1.heap.size wx (.slice Ax (r.stageL t).length cx) (r.stageL t) ∧ Below w1.heap.size w1 wx) (fun s12 _ => (r.stageL t).length - (intOf s12).toNat)
          case atStart => exact ⟨0, rfl, by omega, HARd.out.eq (fun x hx => by rw [HTT.out x hx]; by_cases h : x < r.first <;> simp [h]), HRd.out, HOd.out, HBd.out⟩
          case round =>
            obtain ⟨j, rfl, hj, harr, hrun, hown, hbel⟩ := hrel
            have HARj := Lib.hid harr
            have HRj := Lib.hid hrun
            have HOj := Lib.hid hown
            have HBj := Lib.hid hbel
            clear harr hrun hown hbel
            by_cases hjl : j < (r.stageL t).length
            · have hdj : decide (j < (r.stageL t).length) = true := decide_eq_true hjl
              have hjl' : (j : Int) < ((r.stageL t).length : Int) := by omega
              have HJL := Lib.hid hjl
              have hsl := stageL_length r t
              have hjf : j < r.fin - r.first := by omega
              obtain ⟨A0, c0, hsv, _, _, hrd⟩ := HOj.out.slice
              simp only [Value.slice.injEq] at hsv
              obtain ⟨rfl, _, rfl⟩ := hsv
              obtain ⟨g, hA, hgl, q0, q1⟩ := hrd.at (stageL_get r t j hjf)
              subst hA
              simp only at q0
              have hno : r.first + j < N := by omega
              have hno' : ((r.first + j : Nat) : Int) < (N : Int) := by omega
              have ht0 : (0 : Int) ≤ ((r.first + j : Nat) : Int) := by omega
              have hcell := HARj.out.cell hno
              have hmelt := HARj.out.melt
              have hNO := Lib.hid hno
              have hTj : (if r.first + j < r.first then (4 : Int) else if r.first + j < r.first + j then t else if r.first + j < r.fin then t - 1 else 0) = t - 1 := by rw [if_neg (by omega), if_neg (by omega), if_pos (by omega)]
              rw [hTj] at hcell
              generalize hy : r.first + j = y at *
              have HY := Lib.hid hy
              have HJF := Lib.hid hjf
              have ht1 := HAL.out.t1
              have ht4 := HAL.out.t4
              have HT1 := Lib.hid ht1
              have hd0 : decide ((y : Int) < 0) = false := decide_eq_false (by omega)
              have hdN : decide (N ≤ y) = false := decide_eq_false (by omega)
              have hdN' : decide ((N : Int) ≤ (y : Int)) = false := decide_eq_false (by omega)
              have hinc : wrap64 (t - 1 + 1) = t := by rw [IntWalk.wrap64_in _ (by omega)]; omega
              clear hjl hsl hjf hTj hy hrd q1
              go_wp2_with fail
              have HARk := Lib.hid (show Arr (wr.setCell ⟨g9, y, none⟩ (.int .i64 t)) g9 N (fun x => if x < r.first then 4 else if x < r.first + (j + 1) then t else if x < r.fin then t - 1 else 0) from (HARj.out.set y hno t).eq (fun x _ => by rw [← HY.out]; exact cnt_step _ _ _ _ _))
              have HRk := Lib.hid (show RunAt (wr.setCell ⟨g9, y, none⟩ (.int .i64 t)) R G A c S sc r from HRj.out.below (HL9.out.eq HRS.out) (Below.setCell (Below.refl g9 wr) (Nat.le_refl _) (.int .i64 t)))
              have HOk := Lib.hid (show OwnS w1.heap.size (wr.setCell ⟨g9, y, none⟩ (.int .i64 t)) _ _ from HOj.out.arr HARj.out)
              have HBk := Lib.hid (show Below w1.heap.size w1 (wr.setCell ⟨g9, y, none⟩ (.int .i64 t)) from Below.setCell HBj.out HG9.out.2.2 (.int .i64 t))
              go_roundw
              case rel => exact ⟨j + 1, by go_num, HJL.out, HARk.out, HRk.out, HOk.out, HBk.out⟩
              case measure => have := HJL.out; simp [intOf]; omega
            · obtain rfl : j = (r.stageL t).length := by omega
              have hdj : decide ((r.stageL t).length < (r.stageL t).length) = false := decide_eq_false (by omega)
              clear hjl
              have HARe := Lib.hid (show Arr wr g9 N (fun x => if x < r.first then 4 else if x < r.fin then t else 0) from HARj.out.eq (fun x _ => by
                  have h1 := stageL_length r t
                  have h2 := HAL.out.some
                  have h3 : r.first + (r.stageL t).length = r.fin := by omega
                  rw [h3]; exact cnt_end _ _ _ _))
              by_cases hib : i < nb
              · have hdb : decide (i < nb) = true := decide_eq_true hib
                have hib' : (i : Int) < (nb : Int) := by omega
                obtain ⟨b, off, hO1, hbl, hc⟩ := HAB.out.at hib
                subst hO1
                have hcw := keep_cell (HB1.out.trans (HBj.out.mono HB1.out.size)) hc
                obtain ⟨W, hW, hW1, hW2⟩ : ∃ W : Int, wrap64 (10 + wrap64 ((IntKind.u64.wrap (dt i)).tmod 20)) = W ∧ 10 ≤ W ∧ W ≤ 29 := by
                    have h1 := modN_eq 20 (dt i) (by decide) (by decide)
                    have h2 := modN_lt 20 (dt i) (by decide)
                    refine ⟨10 + modN 20 (dt i), ?_, by omega, by omega⟩
                    show wrap64 (10 + wrap64 ((IntKind.u64.wrap (dt i)).tmod ((20 : Nat) : Int))) = _
                    rw [h1, IntWalk.wrap64_in _ (by omega)]
                have HWW := Lib.hid hW
                clear hib hc hW
                go_upto_region 24 with fail
                simp only [HWW.out]
                go_wp2_with fail
                refine (tick_any wr W HRj.out HOK.out).mono ?_
                intro e w9 hg
                have hinv := ainv_step HRS.out HRN.out HRW.out HAL.out HIT.out (by omega) W (hW1) (hW2)
                obtain ⟨r9, X9, hx⟩ : ∃ r9 X9, r.tick W = (r9, X9) := ⟨_, _, rfl⟩
                rw [hx] at hg hinv
                simp only at hinv
                obtain ⟨A9, c9, rfl, hrd, hAn, hr, hok, hm, ho⟩ := gives_slice hg
                simp only at hr hok ho ⊢
                have HR9 := Lib.hid hr
                have HOK9 := Lib.hid hok
                have HO9 := Lib.hid (ho.mono HBj.out.size)
                have HAR9 := Lib.hid (HARe.out.moved hm (Ne.symm HG9.out.1) (Ne.symm HG9.out.2.1))
                have HB9 := Lib.hid (HBj.out.trans (hm.below HBj.out.size HRG.out.1 HRG.out.2))
                have HI9 := Lib.hid hinv
                clear hg hrd hAn hr hok hm ho hx hinv
                go_wp2_with fail
                go_roundw
                case rel => exact ⟨r9, i + 1, X9, A9, c9, _, rfl, by go_num, HO9.out, HR9.out, HOK9.out, HI9.out, HAR9.out, HB9.out, by have := ainv_bd HI9.out (by omega); omega⟩
                case measure => simp [intOf]; omega
              · have hdb : decide (i < nb) = false := decide_eq_false hib
                clear hib
                go_wp2_with fail
                refine (tick_any wr 10 HRj.out HOK.out).mono ?_
                intro e w9 hg
                have hinv := ainv_step HRS.out HRN.out HRW.out HAL.out HIT.out (by omega) 10 (by decide) (by decide)
                obtain ⟨r9, X9, hx⟩ : ∃ r9 X9, r.tick 10 = (r9, X9) := ⟨_, _, rfl⟩
                rw [hx] at hg hinv
                simp only at hinv
                obtain ⟨A9, c9, rfl, hrd, hAn, hr, hok, hm, ho⟩ := gives_slice hg
                simp only at hr hok ho ⊢
                have HR9 := Lib.hid hr
                have HOK9 := Lib.hid hok
                have HO9 := Lib.hid (ho.mono HBj.out.size)
                have HAR9 := Lib.hid (HARe.out.moved hm (Ne.symm HG9.out.1) (Ne.symm HG9.out.2.1))
                have HB9 := Lib.hid (HBj.out.trans (hm.below HBj.out.size HRG.out.1 HRG.out.2))
                have HI9 := Lib.hid hinv
                clear hg hrd hAn hr hok hm ho hx hinv
                go_wp2_with fail
                go_roundw
                case rel => exact ⟨r9, i + 1, X9, A9, c9, _, rfl, by go_num, HO9.out, HR9.out, HOK9.out, HI9.out, HAR9.out, HB9.out, by have := ainv_bd HI9.out (by omega); omega⟩
                case measure => simp [intOf]; omega
        · have HDN := Lib.hid hdn
          have HTT := Lib.hid hT
          rw [dn_done hdn]
          clear hdn hit hT
          go_wp2_with fail
          go_loopw [14] (fun s14 wx => ∃ k : Nat, s14 = .int .i64 k ∧ k ≤ N ∧ wx = wd) (fun s14 _ => N - (intOf s14).toNat)
          case atStart => exact ⟨0, rfl, by omega, rfl⟩
          case round =>
            obtain ⟨k, rfl, hk, hwx⟩ := hrel
            rw [hwx]
            clear hwx
            by_cases hkN : k < N
            · have hdk : decide (k < N) = true := decide_eq_true hkN
              have hkN' : (k : Int) < (N : Int) := by omega
              have hcell := HARd.out.cell hkN
              rw [HTT.out k hkN] at hcell
              have hmelt := HARd.out.melt
              have HKN := Lib.hid hkN
              clear hkN
              go_wp2_with fail
              refine (outcome_any wd k HRd.out).mono ?_
              rintro e wx ⟨rfl, hwx⟩
              rw [hwx]
              clear hwx wx
              rw [outcome_dn HDN.out k (by rw [HRN.out]; exact HKN.out)]
              go_wp2_with fail
              go_roundw
              case rel => exact ⟨k + 1, by go_num, HKN.out, trivial⟩
              case measure => have := HKN.out; simp [intOf]; omega
            · obtain rfl : k = N := by omega
              have hdk : decide (k < k) = false := decide_eq_false (by omega)
              clear hkN
              go_wp2_with fail
              refine (done_any wd HRd.out).mono ?_
              rintro e we ⟨rfl, ne, rfl⟩
              rw [dn_done HDN.out]
              have HRe := Lib.hid (HRd.out.drewN (n := ne))
              have HBe := Lib.hid (below_drewNs (n := ne) HBd.out)
              generalize wd.drewN ne = we at *
              go_wp2_with fail
              refine (start_any we HRe.out HOK.out).mono ?_
              rw [start_on HDN.out.started]
              intro e wf hg
              obtain ⟨Af, cf, rfl, hrd, hAn, hr, hok, hm, ho⟩ := gives_slice hg
              have HRf := Lib.hid hr
              have HBf := Lib.hid (HBe.out.trans (hm.below HBe.out.size HRG.out.1 HRG.out.2))
              clear hg hrd hAn hr hok hm ho
              go_wp2_with fail
              refine (reply_any wf 0 1 HRf.out HOK.out).mono ?_
              rw [reply_dn HDN.out]
              intro e wg hg
              obtain ⟨Ag, cg, rfl, hrd, hAn, hr, hok, hm, ho⟩ := gives_slice hg
              have HBg := Lib.hid (HBf.out.trans (hm.below HBf.out.size HRG.out.1 HRG.out.2))
              clear hg hrd hAn hr hok hm ho
              go_wp2_with fail
              refine (start_nil wg).mono ?_
              rintro e wx ⟨rfl, hwx⟩
              rw [hwx]
              clear hwx wx
              go_wp2_with fail
              refine (tick_nil 1 wg).mono ?_
              rintro e wh ⟨rfl, hbx⟩
              have HBwh := Lib.hid (HBg.out.trans (hbx.mono HBg.out.size))
              clear hbx
              go_wp2_with fail
              refine (outcome_nil wh 0).mono ?_
              rintro e wx ⟨rfl, hwx⟩
              rw [hwx]
              clear hwx wx
              go_wp2_with fail
              refine (stage_nil wh).mono ?_
              rintro e wx ⟨rfl, hwx⟩
              rw [hwx]
              clear hwx wx
              go_wp2_with fail
              refine (done_nil wh).mono ?_
              rintro e wi ⟨rfl, ni, rfl⟩
              have HBwi := Lib.hid (below_drewNs (n := ni) HBwh.out)
              generalize wh.drewN ni = wi at *
              go_wp2_with fail
              refine (reply_nil 0 1 wi).mono ?_
              rintro e wj ⟨rfl, hbx⟩
              have HBwj := Lib.hid (HBwi.out.trans (hbx.mono HBwi.out.size))
              clear hbx
              go_wp2_with fail
              go_ret
              exact ⟨rfl, HB1.out.trans (HBwj.out.mono HB1.out.size)⟩
end Go.Proofs.Ytpogiondpbfjkaa
