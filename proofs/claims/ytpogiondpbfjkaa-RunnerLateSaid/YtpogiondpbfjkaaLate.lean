/- RunnerLate walked. -/
import Derived.Test.YtpogiondpbfjkaaAw
namespace Go.Proofs.Ytpogiondpbfjkaa
open Go.RowKit Go.Conc
def la1 : Rn := ⟨[⟨1, 10, 0⟩, ⟨1, 10, 0⟩, ⟨0, 0, 0⟩], [2, 1], 0, 0, true, 0⟩
def la2 : Rn := ⟨[⟨1, 10, 2⟩, ⟨1, 10, 0⟩, ⟨0, 0, 0⟩], [2, 1], 0, 0, true, 0⟩
def la3 : Rn := ⟨[⟨1, 10, 2⟩, ⟨1, 10, 1⟩, ⟨1, 10, 0⟩], [2, 1], 1, 2, true, 0⟩
def la4 : Rn := ⟨[⟨1, 10, 2⟩, ⟨1, 10, 1⟩, ⟨1, 10, 1⟩], [2, 1], 2, 3, true, 0⟩
theorem la_start : (Rn.new [2, 1]).start = (la1, [(0, 1), (1, 1)]) := by kernel_rfl
theorem la_a (x : Int) (h : 2 ≤ x) : la1.reply x 1 = (la1, []) := reply_no (by intro hh; have := hh.2.2.1; simp [la1, Rn.fin] at this; omega)
theorem la_b : la1.reply (-1) 1 = (la1, []) := by kernel_rfl
theorem la_c (x : Int) (h1 : x ≠ 1) (h2 : x ≠ 2) : la1.reply 0 x = (la1, []) := reply_no (by intro hh; have := hh.2.2.2.2; omega)
theorem la_d : la1.reply 0 2 = (la2, []) := by kernel_rfl
theorem la_e : la2.reply 0 1 = (la2, []) := by kernel_rfl
theorem la_f : la2.reply 1 1 = (la3, [(2, 1)]) := by kernel_rfl
theorem la_g : la3.reply 2 1 = (la4, []) := by kernel_rfl
theorem la_sizes : sizesL (fun i => if i = 0 then 2 else 1) 2 = [2, 1] := by kernel_rfl
set_option maxHeartbeats 2000000 in
theorem late_any (kind no : Int) (w : World) : Calls Try.prog 3 #[.int .i64 kind, .int .i64 no] w (TestIs w true) := by
  have HX := Lib.hid (show 2 ≤ wrap64 (2 + wrap64 ((IntKind.u64.wrap no).tmod 50)) from by
    have h1 := modN_eq 50 no (by decide) (by decide)
    have h2 := modN_lt 50 no (by decide)
    show 2 ≤ wrap64 (2 + wrap64 ((IntKind.u64.wrap no).tmod ((50 : Nat) : Int)))
    rw [h1, IntWalk.wrap64_in _ (by omega)]; omega)
  go_enter Try.func3, Try.ntmps3
  go_wp2_with fail
  refine (stages_any _ 2 2 (fun i => if i = 0 then 2 else 1) (by decide) _ ints_two).mono ?_
  rw [la_sizes]
  rintro e w1 ⟨v1, rfl, ho1, hb1⟩
  obtain ⟨A1, c1, rfl⟩ := ho1.slice
  have HB1 := Lib.hid (below_call (below_new (Below.refl w.heap.size w) _) hb1)
  have HW1 := Lib.hid ho1.rows.2
  clear ho1 hb1
  go_wp2_with fail
  refine (new_any A1 c1 [2, 1] (by decide) (by decide) w1 HW1.out).mono ?_
  rintro e w2 ⟨R, G, A, c, S, sc, rfl, hR, hG, hr2, hb2⟩
  have HR2 := Lib.hid hr2
  have HB2 := Lib.hid (below_call HB1.out hb2)
  have HRG := Lib.hid (show w.heap.size ≤ R ∧ w.heap.size ≤ G by have := HB1.out.size; omega)
  have HOK2 := Lib.hid (Rn.Ok.new (L := [2, 1]) (by decide) (by decide))
  clear hr2 hb2 hR hG
  go_wp2_with fail
  refine (awake_any w2).mono ?_
  rintro e w3 ⟨rfl, hb⟩
  have HB3 := Lib.hid (below_call HB2.out hb)
  have HR3 := Lib.hid (HR2.out.keep hb)
  have HOK3 := Lib.hid HOK2.out
  clear hb
  go_wp2_with fail
  refine (start_any w3 HR3.out HOK3.out).mono ?_
  rw [la_start]
  intro e w4 hg
  obtain ⟨A4, c4, rfl, hrd, hAn, hr, hok, hm, ho⟩ := gives_slice hg
  have HD4 := Lib.hid hrd
  have HR4 := Lib.hid hr
  have HOK4 := Lib.hid hok
  have HB4 := Lib.hid (HB3.out.trans (hm.below HB3.out.size HRG.out.1 HRG.out.2))
  clear hg hrd hAn hr hok hm ho
  go_wp2_with fail
  refine (reply_any w4 _ 1 HR4.out HOK4.out).mono ?_
  rw [la_a _ HX.out]
  intro e w5 hg
  obtain ⟨A5, c5, rfl, hrd, hAn, hr, hok, hm, ho⟩ := gives_slice hg
  have HD5 := Lib.hid hrd
  have HR5 := Lib.hid hr
  have HOK5 := Lib.hid hok
  have HB5 := Lib.hid (HB4.out.trans (hm.below HB4.out.size HRG.out.1 HRG.out.2))
  clear hg hrd hAn hr hok hm ho
  go_wp2_with fail
  refine (reply_any w5 (-1) 1 HR5.out HOK5.out).mono ?_
  rw [la_b]
  intro e w6 hg
  obtain ⟨A6, c6, rfl, hrd, hAn, hr, hok, hm, ho⟩ := gives_slice hg
  have HD6 := Lib.hid hrd
  have HR6 := Lib.hid hr
  have HOK6 := Lib.hid hok
  have HB6 := Lib.hid (HB5.out.trans (hm.below HB5.out.size HRG.out.1 HRG.out.2))
  clear hg hrd hAn hr hok hm ho
  by_cases h1 : kind = 1
  · subst h1
    go_wp2_with fail
    refine (reply_any w6 0 3 HR6.out HOK6.out).mono ?_
    rw [la_c 3 (by decide) (by decide)]
    intro e w7 hg
    obtain ⟨A7, c7, rfl, hrd, hAn, hr, hok, hm, ho⟩ := gives_slice hg
    have HD7 := Lib.hid hrd
    have HR7 := Lib.hid hr
    have HOK7 := Lib.hid hok
    have HB7 := Lib.hid (HB6.out.trans (hm.below HB6.out.size HRG.out.1 HRG.out.2))
    clear hg hrd hAn hr hok hm ho
    go_wp2_with fail
    refine (reply_any w7 0 2 HR7.out HOK7.out).mono ?_
    rw [la_d]
    intro e w8 hg
    obtain ⟨A8, c8, rfl, hrd, hAn, hr, hok, hm, ho⟩ := gives_slice hg
    have HD8 := Lib.hid hrd
    have HR8 := Lib.hid hr
    have HOK8 := Lib.hid hok
    have HB8 := Lib.hid (HB7.out.trans (hm.below HB7.out.size HRG.out.1 HRG.out.2))
    clear hg hrd hAn hr hok hm ho
    go_wp2_with fail
    refine (reply_any w8 0 1 HR8.out HOK8.out).mono ?_
    rw [la_e]
    intro e w9 hg
    obtain ⟨A9, c9, rfl, hrd, hAn, hr, hok, hm, ho⟩ := gives_slice hg
    have HD9 := Lib.hid hrd
    have HR9 := Lib.hid hr
    have HOK9 := Lib.hid hok
    have HB9 := Lib.hid (HB8.out.trans (hm.below HB8.out.size HRG.out.1 HRG.out.2))
    clear hg hrd hAn hr hok hm ho
    go_wp2_with fail
    refine (outcome_any w9 0 HR9.out).mono ?_
    rintro e wd ⟨rfl, hwd⟩
    rw [hwd]
    clear hwd wd
    have hd : la2.outcome 0 = 2 := by rfl
    rw [hd]
    clear hd
    go_wp2_with fail
    refine (outcome_any w9 2 HR9.out).mono ?_
    rintro e wd ⟨rfl, hwd⟩
    rw [hwd]
    clear hwd wd
    have hd : la2.outcome 2 = 0 := by rfl
    rw [hd]
    clear hd
    go_wp2_with fail
    refine (stage_any w9 HR9.out).mono ?_
    rintro e wd ⟨rfl, hwd⟩
    rw [hwd]
    clear hwd wd
    have hd : la2.stage = 0 := by rfl
    rw [hd]
    clear hd
    go_wp2_with fail
    refine (reply_any w9 1 1 HR9.out HOK9.out).mono ?_
    rw [la_f]
    intro e w10 hg
    obtain ⟨A10, c10, rfl, hrd, hAn, hr, hok, hm, ho⟩ := gives_slice hg
    have HD10 := Lib.hid hrd
    have HR10 := Lib.hid hr
    have HOK10 := Lib.hid hok
    have HB10 := Lib.hid (HB9.out.trans (hm.below HB9.out.size HRG.out.1 HRG.out.2))
    clear hg hrd hAn hr hok hm ho
    go_wp2_with fail
    refine (plain_any A10 _ c10 _ [(2, 1)] (by decide) _ (HD10.out.keep (below_new (Below.refl _ _) _)) (readS_one rfl)).mono ?_
    rintro e w11 ⟨rfl, hb⟩
    have HB11 := Lib.hid (HB10.out.trans (((below_call (below_new (Below.refl w10.heap.size w10) _) hb)).mono HB10.out.size))
    have HR11 := Lib.hid (HR10.out.keep (below_call (below_new (Below.refl _ _) _) hb))
    have HOK11 := Lib.hid HOK10.out
    clear hb
    go_wp2_with fail
    refine (stage_any w11 HR11.out).mono ?_
    rintro e wd ⟨rfl, hwd⟩
    rw [hwd]
    clear hwd wd
    have hd : la3.stage = 1 := by rfl
    rw [hd]
    clear hd
    go_wp2_with fail
    refine (done_any w11 HR11.out).mono ?_
    rintro e wd ⟨rfl, nd, rfl⟩
    have hd : la3.done = false := by rfl
    rw [hd]
    clear hd
    have HR12 := Lib.hid (HR11.out.drewN (n := nd))
    have HB12 := Lib.hid (below_drewNs (n := nd) HB11.out)
    have HOK12 := Lib.hid HOK11.out
    generalize w11.drewN nd = w12 at *
    go_wp2_with fail
    refine (reply_any w12 2 1 HR12.out HOK12.out).mono ?_
    rw [la_g]
    intro e w13 hg
    obtain ⟨A13, c13, rfl, hrd, hAn, hr, hok, hm, ho⟩ := gives_slice hg
    have HD13 := Lib.hid hrd
    have HR13 := Lib.hid hr
    have HOK13 := Lib.hid hok
    have HB13 := Lib.hid (HB12.out.trans (hm.below HB12.out.size HRG.out.1 HRG.out.2))
    clear hg hrd hAn hr hok hm ho
    go_wp2_with fail
    refine (done_any w13 HR13.out).mono ?_
    rintro e wd ⟨rfl, nd, rfl⟩
    have hd : la4.done = true := by rfl
    rw [hd]
    clear hd
    have HR14 := Lib.hid (HR13.out.drewN (n := nd))
    have HB14 := Lib.hid (below_drewNs (n := nd) HB13.out)
    have HOK14 := Lib.hid HOK13.out
    generalize w13.drewN nd = w14 at *
    go_wp2_with fail
    refine (stage_any w14 HR14.out).mono ?_
    rintro e wd ⟨rfl, hwd⟩
    rw [hwd]
    clear hwd wd
    have hd : la4.stage = 2 := by rfl
    rw [hd]
    clear hd
    go_wp2_with fail
    go_ret
    exact ⟨rfl, HB14.out⟩
  · by_cases h2 : kind = 2
    · subst h2
      clear h1
      go_wp2_with fail
      refine (reply_any w6 0 3 HR6.out HOK6.out).mono ?_
      rw [la_c 3 (by decide) (by decide)]
      intro e w7 hg
      obtain ⟨A7, c7, rfl, hrd, hAn, hr, hok, hm, ho⟩ := gives_slice hg
      have HD7 := Lib.hid hrd
      have HR7 := Lib.hid hr
      have HOK7 := Lib.hid hok
      have HB7 := Lib.hid (HB6.out.trans (hm.below HB6.out.size HRG.out.1 HRG.out.2))
      clear hg hrd hAn hr hok hm ho
      go_wp2_with fail
      refine (reply_any w7 0 2 HR7.out HOK7.out).mono ?_
      rw [la_d]
      intro e w8 hg
      obtain ⟨A8, c8, rfl, hrd, hAn, hr, hok, hm, ho⟩ := gives_slice hg
      have HD8 := Lib.hid hrd
      have HR8 := Lib.hid hr
      have HOK8 := Lib.hid hok
      have HB8 := Lib.hid (HB7.out.trans (hm.below HB7.out.size HRG.out.1 HRG.out.2))
      clear hg hrd hAn hr hok hm ho
      go_wp2_with fail
      refine (reply_any w8 0 1 HR8.out HOK8.out).mono ?_
      rw [la_e]
      intro e w9 hg
      obtain ⟨A9, c9, rfl, hrd, hAn, hr, hok, hm, ho⟩ := gives_slice hg
      have HD9 := Lib.hid hrd
      have HR9 := Lib.hid hr
      have HOK9 := Lib.hid hok
      have HB9 := Lib.hid (HB8.out.trans (hm.below HB8.out.size HRG.out.1 HRG.out.2))
      clear hg hrd hAn hr hok hm ho
      go_wp2_with fail
      refine (outcome_any w9 0 HR9.out).mono ?_
      rintro e wd ⟨rfl, hwd⟩
      rw [hwd]
      clear hwd wd
      have hd : la2.outcome 0 = 2 := by rfl
      rw [hd]
      clear hd
      go_wp2_with fail
      refine (outcome_any w9 2 HR9.out).mono ?_
      rintro e wd ⟨rfl, hwd⟩
      rw [hwd]
      clear hwd wd
      have hd : la2.outcome 2 = 0 := by rfl
      rw [hd]
      clear hd
      go_wp2_with fail
      refine (stage_any w9 HR9.out).mono ?_
      rintro e wd ⟨rfl, hwd⟩
      rw [hwd]
      clear hwd wd
      have hd : la2.stage = 0 := by rfl
      rw [hd]
      clear hd
      go_wp2_with fail
      refine (reply_any w9 1 1 HR9.out HOK9.out).mono ?_
      rw [la_f]
      intro e w10 hg
      obtain ⟨A10, c10, rfl, hrd, hAn, hr, hok, hm, ho⟩ := gives_slice hg
      have HD10 := Lib.hid hrd
      have HR10 := Lib.hid hr
      have HOK10 := Lib.hid hok
      have HB10 := Lib.hid (HB9.out.trans (hm.below HB9.out.size HRG.out.1 HRG.out.2))
      clear hg hrd hAn hr hok hm ho
      go_wp2_with fail
      refine (plain_any A10 _ c10 _ [(2, 1)] (by decide) _ (HD10.out.keep (below_new (Below.refl _ _) _)) (readS_one rfl)).mono ?_
      rintro e w11 ⟨rfl, hb⟩
      have HB11 := Lib.hid (HB10.out.trans (((below_call (below_new (Below.refl w10.heap.size w10) _) hb)).mono HB10.out.size))
      have HR11 := Lib.hid (HR10.out.keep (below_call (below_new (Below.refl _ _) _) hb))
      have HOK11 := Lib.hid HOK10.out
      clear hb
      go_wp2_with fail
      refine (stage_any w11 HR11.out).mono ?_
      rintro e wd ⟨rfl, hwd⟩
      rw [hwd]
      clear hwd wd
      have hd : la3.stage = 1 := by rfl
      rw [hd]
      clear hd
      go_wp2_with fail
      refine (done_any w11 HR11.out).mono ?_
      rintro e wd ⟨rfl, nd, rfl⟩
      have hd : la3.done = false := by rfl
      rw [hd]
      clear hd
      have HR12 := Lib.hid (HR11.out.drewN (n := nd))
      have HB12 := Lib.hid (below_drewNs (n := nd) HB11.out)
      have HOK12 := Lib.hid HOK11.out
      generalize w11.drewN nd = w12 at *
      go_wp2_with fail
      refine (reply_any w12 2 1 HR12.out HOK12.out).mono ?_
      rw [la_g]
      intro e w13 hg
      obtain ⟨A13, c13, rfl, hrd, hAn, hr, hok, hm, ho⟩ := gives_slice hg
      have HD13 := Lib.hid hrd
      have HR13 := Lib.hid hr
      have HOK13 := Lib.hid hok
      have HB13 := Lib.hid (HB12.out.trans (hm.below HB12.out.size HRG.out.1 HRG.out.2))
      clear hg hrd hAn hr hok hm ho
      go_wp2_with fail
      refine (done_any w13 HR13.out).mono ?_
      rintro e wd ⟨rfl, nd, rfl⟩
      have hd : la4.done = true := by rfl
      rw [hd]
      clear hd
      have HR14 := Lib.hid (HR13.out.drewN (n := nd))
      have HB14 := Lib.hid (below_drewNs (n := nd) HB13.out)
      have HOK14 := Lib.hid HOK13.out
      generalize w13.drewN nd = w14 at *
      go_wp2_with fail
      refine (stage_any w14 HR14.out).mono ?_
      rintro e wd ⟨rfl, hwd⟩
      rw [hwd]
      clear hwd wd
      have hd : la4.stage = 2 := by rfl
      rw [hd]
      clear hd
      go_wp2_with fail
      go_ret
      exact ⟨rfl, HB14.out⟩
    · have H1 := Lib.hid h1
      have H2 := Lib.hid h2
      have e1 : (kind == 1) = false := beq_eq_false_iff_ne.2 h1
      have e2 : (kind == 2) = false := beq_eq_false_iff_ne.2 h2
      clear h1 h2
      go_wp2_with fail
      refine (reply_any w6 0 kind HR6.out HOK6.out).mono ?_
      rw [la_c kind H1.out H2.out]
      intro e w7 hg
      obtain ⟨A7, c7, rfl, hrd, hAn, hr, hok, hm, ho⟩ := gives_slice hg
      have HD7 := Lib.hid hrd
      have HR7 := Lib.hid hr
      have HOK7 := Lib.hid hok
      have HB7 := Lib.hid (HB6.out.trans (hm.below HB6.out.size HRG.out.1 HRG.out.2))
      clear hg hrd hAn hr hok hm ho
      go_wp2_with fail
      refine (reply_any w7 0 2 HR7.out HOK7.out).mono ?_
      rw [la_d]
      intro e w8 hg
      obtain ⟨A8, c8, rfl, hrd, hAn, hr, hok, hm, ho⟩ := gives_slice hg
      have HD8 := Lib.hid hrd
      have HR8 := Lib.hid hr
      have HOK8 := Lib.hid hok
      have HB8 := Lib.hid (HB7.out.trans (hm.below HB7.out.size HRG.out.1 HRG.out.2))
      clear hg hrd hAn hr hok hm ho
      go_wp2_with fail
      refine (reply_any w8 0 1 HR8.out HOK8.out).mono ?_
      rw [la_e]
      intro e w9 hg
      obtain ⟨A9, c9, rfl, hrd, hAn, hr, hok, hm, ho⟩ := gives_slice hg
      have HD9 := Lib.hid hrd
      have HR9 := Lib.hid hr
      have HOK9 := Lib.hid hok
      have HB9 := Lib.hid (HB8.out.trans (hm.below HB8.out.size HRG.out.1 HRG.out.2))
      clear hg hrd hAn hr hok hm ho
      go_wp2_with fail
      refine (outcome_any w9 0 HR9.out).mono ?_
      rintro e wd ⟨rfl, hwd⟩
      rw [hwd]
      clear hwd wd
      have hd : la2.outcome 0 = 2 := by rfl
      rw [hd]
      clear hd
      go_wp2_with fail
      refine (outcome_any w9 2 HR9.out).mono ?_
      rintro e wd ⟨rfl, hwd⟩
      rw [hwd]
      clear hwd wd
      have hd : la2.outcome 2 = 0 := by rfl
      rw [hd]
      clear hd
      go_wp2_with fail
      refine (stage_any w9 HR9.out).mono ?_
      rintro e wd ⟨rfl, hwd⟩
      rw [hwd]
      clear hwd wd
      have hd : la2.stage = 0 := by rfl
      rw [hd]
      clear hd
      go_wp2_with fail
      refine (reply_any w9 1 1 HR9.out HOK9.out).mono ?_
      rw [la_f]
      intro e w10 hg
      obtain ⟨A10, c10, rfl, hrd, hAn, hr, hok, hm, ho⟩ := gives_slice hg
      have HD10 := Lib.hid hrd
      have HR10 := Lib.hid hr
      have HOK10 := Lib.hid hok
      have HB10 := Lib.hid (HB9.out.trans (hm.below HB9.out.size HRG.out.1 HRG.out.2))
      clear hg hrd hAn hr hok hm ho
      go_wp2_with fail
      refine (plain_any A10 _ c10 _ [(2, 1)] (by decide) _ (HD10.out.keep (below_new (Below.refl _ _) _)) (readS_one rfl)).mono ?_
      rintro e w11 ⟨rfl, hb⟩
      have HB11 := Lib.hid (HB10.out.trans (((below_call (below_new (Below.refl w10.heap.size w10) _) hb)).mono HB10.out.size))
      have HR11 := Lib.hid (HR10.out.keep (below_call (below_new (Below.refl _ _) _) hb))
      have HOK11 := Lib.hid HOK10.out
      clear hb
      go_wp2_with fail
      refine (stage_any w11 HR11.out).mono ?_
      rintro e wd ⟨rfl, hwd⟩
      rw [hwd]
      clear hwd wd
      have hd : la3.stage = 1 := by rfl
      rw [hd]
      clear hd
      go_wp2_with fail
      refine (done_any w11 HR11.out).mono ?_
      rintro e wd ⟨rfl, nd, rfl⟩
      have hd : la3.done = false := by rfl
      rw [hd]
      clear hd
      have HR12 := Lib.hid (HR11.out.drewN (n := nd))
      have HB12 := Lib.hid (below_drewNs (n := nd) HB11.out)
      have HOK12 := Lib.hid HOK11.out
      generalize w11.drewN nd = w12 at *
      go_wp2_with fail
      refine (reply_any w12 2 1 HR12.out HOK12.out).mono ?_
      rw [la_g]
      intro e w13 hg
      obtain ⟨A13, c13, rfl, hrd, hAn, hr, hok, hm, ho⟩ := gives_slice hg
      have HD13 := Lib.hid hrd
      have HR13 := Lib.hid hr
      have HOK13 := Lib.hid hok
      have HB13 := Lib.hid (HB12.out.trans (hm.below HB12.out.size HRG.out.1 HRG.out.2))
      clear hg hrd hAn hr hok hm ho
      go_wp2_with fail
      refine (done_any w13 HR13.out).mono ?_
      rintro e wd ⟨rfl, nd, rfl⟩
      have hd : la4.done = true := by rfl
      rw [hd]
      clear hd
      have HR14 := Lib.hid (HR13.out.drewN (n := nd))
      have HB14 := Lib.hid (below_drewNs (n := nd) HB13.out)
      have HOK14 := Lib.hid HOK13.out
      generalize w13.drewN nd = w14 at *
      go_wp2_with fail
      refine (stage_any w14 HR14.out).mono ?_
      rintro e wd ⟨rfl, hwd⟩
      rw [hwd]
      clear hwd wd
      have hd : la4.stage = 2 := by rfl
      rw [hd]
      clear hd
      go_wp2_with fail
      go_ret
      exact ⟨rfl, HB14.out⟩
end Go.Proofs.Ytpogiondpbfjkaa
