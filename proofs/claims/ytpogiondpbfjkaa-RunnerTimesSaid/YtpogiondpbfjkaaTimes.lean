/- RunnerTimes walked. -/
import Derived.Test.YtpogiondpbfjkaaTm
namespace Go.Proofs.Ytpogiondpbfjkaa
open Go.RowKit Go.Conc
theorem sz_one (n : Nat) (h1 : 1 ≤ n) (h4 : n ≤ 4) : sizesL (fun _ => (n : Int)) 1 = [n] := by
  rcases four h1 h4 with rfl | rfl | rfl | rfl
  all_goals kernel_rfl
theorem tm_ok (n : Nat) (now due t : Int) (h4 : n ≤ 4) : (tm n now due t).Ok := ⟨by simp [tm], by simp [tm], by simp [tm]; omega, by simp [tm], by simp [tm]⟩
theorem td_ok (n : Nat) (now due : Int) (h4 : n ≤ 4) : (td n now due).Ok := ⟨by simp [td], by simp [td], by simp [td]; omega, by simp [td], by simp [td]⟩
set_option maxHeartbeats 4000000 in
set_option maxRecDepth 100000 in
theorem times_any (O : Option Addr) (na ca : Nat) (ds : Nat → Int) (nn : Int) (hna : na ≤ 9223372036854775807) (w : World) (ha : IntsIn w O na ds) : Calls Try.prog 4 #[.slice O na ca, .int .i64 nn] w (TestIs w true) := by
  have HA := Lib.hid ha
  clear ha
  obtain ⟨n, hn, hn1, hn4⟩ : ∃ n : Nat, wrap64 (1 + wrap64 ((IntKind.u64.wrap nn).tmod 4)) = (n : Int) ∧ 1 ≤ n ∧ n ≤ 4 := by
    have h1 := modN_eq 4 nn (by decide) (by decide)
    have h2 := modN_lt 4 nn (by decide)
    refine ⟨1 + modN 4 nn, ?_, by omega, by omega⟩
    show wrap64 (1 + wrap64 ((IntKind.u64.wrap nn).tmod ((4 : Nat) : Int))) = _
    rw [h1, IntWalk.wrap64_in _ (by omega)]; omega
  have HN := Lib.hid hn
  have HN14 := Lib.hid (And.intro hn1 hn4)
  clear hn
  go_enter Try.func4, Try.ntmps4
  go_upto_region 2 with fail
  simp only [HN.out]
  go_wp2_with fail
  refine (stages_any _ 1 1 (fun _ => (n : Int)) (by decide) _ ints_one).mono ?_
  rw [sz_one n hn1 hn4]
  rintro e w1 ⟨v1, rfl, ho1, hb1⟩
  obtain ⟨A1, c1, rfl⟩ := ho1.slice
  have HB1 := Lib.hid (below_call (below_new (Below.refl w.heap.size w) _) hb1)
  have HW1 := Lib.hid ho1.rows.2
  clear ho1 hb1
  go_wp2_with fail
  refine (new_any A1 c1 [n] (by simp) (by simp; omega) w1 HW1.out).mono ?_
  rintro e w2 ⟨R, G, A, c, S, sc, rfl, hR, hG, hr2, hb2⟩
  have HR2 := Lib.hid hr2
  have HB2 := Lib.hid (below_call HB1.out hb2)
  have HRG := Lib.hid (show w.heap.size ≤ R ∧ w.heap.size ≤ G by have := HB1.out.size; omega)
  have HOK2 := Lib.hid (Rn.Ok.new (L := [n]) (by simp; omega) (by simp))
  clear hr2 hb2 hR hG
  go_wp2_with fail
  refine (awake_any w2).mono ?_
  rintro e w3 ⟨rfl, hb⟩
  have HB3 := Lib.hid (below_call HB2.out hb)
  have HR3 := Lib.hid (HR2.out.keep hb)
  have HOK3 := Lib.hid HOK2.out
  clear hb
  go_wp2_with fail
  refine (start_any w3 HR3.out HOK3.out).mono ?_
  rw [tm_start n hn1 hn4]
  intro e w4 hg
  obtain ⟨A4, c4, rfl, hrd, hAn, hr, hok, hm, ho⟩ := gives_slice hg
  have HD4 := Lib.hid hrd
  have HR4 := Lib.hid hr
  have HOK4 := Lib.hid hok
  have HB4 := Lib.hid (HB3.out.trans (hm.below HB3.out.size HRG.out.1 HRG.out.2))
  clear hg hrd hAn hr hok hm ho
  simp only [sentsL_length]
  go_wp2_with fail
  go_loopw [6, 7, 8, 9] (fun s6 s7 s8 s9 wr => ∃ (now due t : Int) (i : Nat) (r : Rn), s6 = .int .i64 now ∧ s7 = .int .i64 due ∧ s8 = .int .i64 t ∧ s9 = .int .i64 i ∧ i ≤ 60 ∧ i ≤ na ∧ 0 ≤ now ∧ now ≤ 15 * i ∧ 0 ≤ due ∧ due ≤ now + 10 ∧ 1 ≤ t ∧ t ≤ 4 ∧ RunAt wr R G A c S sc r ∧ r.Ok ∧ (r = tm n now due t ∨ r = td n now due) ∧ Below w.heap.size w wr) (fun _ _ _ s9 _ => 60 - (intOf s9).toNat)
  case atStart => exact ⟨0, 10, 1, 0, _, rfl, rfl, rfl, rfl, by omega, by omega, by omega, by omega, by omega, by omega, by omega, by omega, HR4.out, HOK4.out, .inl rfl, HB4.out⟩
  case round =>
    obtain ⟨now, due, t, i, r, rfl, rfl, rfl, rfl, hi60, hina, hn0, hnb, hd0, hdb, ht1, ht4, hr, hok, hst, hb⟩ := hrel
    have HRr := Lib.hid hr
    have HOKr := Lib.hid hok
    have HBr := Lib.hid hb
    have HTN := Lib.hid (tick_neg r (-1) (by decide))
    clear hr hok hb
    by_cases hlt : i < na
    · by_cases hl6 : i < 60
      · have hd1 : decide (i < na) = true := decide_eq_true hlt
        have hd6 : decide (i < 60) = true := decide_eq_true hl6
        have hd6' : decide ((i : Int) < 60) = true := decide_eq_true (by omega)
        have HLT := Lib.hid hlt
        have HL6 := Lib.hid hl6
        obtain ⟨b, off, rfl, hbl, hc⟩ := HA.out.at hlt
        have hcw := keep_cell HBr.out hc
        have hkm : wrap64 ((IntKind.u64.wrap (ds i)).tmod 15) = (modN 15 (ds i) : Int) := modN_eq 15 (ds i) (by decide) (by decide)
        have hkl := modN_lt 15 (ds i) (by decide)
        have HKM := Lib.hid hkm
        generalize modN 15 (ds i) = k at *
        clear hlt hl6 hc hkm
        go_wp2_with fail
        refine (done_any wr HRr.out).mono ?_
        rintro e wd ⟨rfl, nd, rfl⟩
        have HRd := Lib.hid (HRr.out.drewN (n := nd))
        have HBd := Lib.hid (below_drewNs (n := nd) HBr.out)
        have hcd : (wr.drewN nd).cell? ⟨b, off + i, none⟩ = some (.int .i64 (ds i)) := hcw
        generalize wr.drewN nd = wd at *
        clear hcw
        rcases hst with rfl | rfl
        · rw [tm_done]
          go_upto_region 10 with fail
          simp only [HKM.out]
          go_wp2_with fail
          have hbd : now ≤ 10000 := by omega
          by_cases hdue : now + (k : Int) < due
          · have hdd : decide (now + (k : Int) < due) = true := decide_eq_true hdue
            refine (tick_any wd (k : Int) HRd.out HOKr.out).mono ?_
            rw [tm_early n now due t k hn1 hn0 (by omega) (by omega) hbd hdue]
            intro e w9 hg
            obtain ⟨A9, c9, rfl, hrd, hAn, hr, hok, hm, ho⟩ := gives_slice hg
            have HR9 := Lib.hid hr
            have HOK9 := Lib.hid hok
            have HB9 := Lib.hid (HBd.out.trans (hm.below HBd.out.size HRG.out.1 HRG.out.2))
            have HDU := Lib.hid hdue
            clear hg hrd hAn hr hok hm ho hdue
            go_wp2_with fail
            go_roundw
            case rel => exact ⟨now + k, due, t, i + 1, _, rfl, rfl, rfl, by go_num, by have := HL6.out; omega, HLT.out, by omega, by omega, by omega, by have := HDU.out; omega, ht1, ht4, HR9.out, HOK9.out, .inl rfl, HB9.out⟩
            case measure => have := HL6.out; simp [intOf]; omega
          · have hdd : decide (now + (k : Int) < due) = false := decide_eq_false hdue
            by_cases ht : t < 4
            · have htt : decide (t < 4) = true := decide_eq_true ht
              refine (tick_any wd (k : Int) HRd.out HOKr.out).mono ?_
              rw [tm_send n now due t k hn1 hn4 hn0 (by omega) (by omega) hbd (by omega) (by omega) ht]
              intro e w9 hg
              obtain ⟨A9, c9, rfl, hrd, hAn, hr, hok, hm, ho⟩ := gives_slice hg
              have HR9 := Lib.hid hr
              have HOK9 := Lib.hid hok
              have HD9 := Lib.hid hrd
              have HB9 := Lib.hid (HBd.out.trans (hm.below HBd.out.size HRG.out.1 HRG.out.2))
              have HT := Lib.hid ht
              clear hg hrd hAn hr hok hm ho hdue ht
              simp only [sentsL_length]
              go_wp2_with fail
              go_loopw [12] (fun s12 wx => ∃ j : Nat, s12 = .int .i64 j ∧ j ≤ n ∧ wx = w9) (fun s12 _ => n - (intOf s12).toNat)
              case atStart => exact ⟨0, rfl, by omega, rfl⟩
              case round =>
                obtain ⟨j, rfl, hjn, rfl⟩ := hrel
                by_cases hjl : j < n
                · have hdj : decide (j < n) = true := decide_eq_true hjl
                  have hjl' : (j : Int) < (n : Int) := by omega
                  have HJL := Lib.hid hjl
                  obtain ⟨g, hA, hgl, q0, q1⟩ := HD9.out.at (sentsL_get n (t + 1) j hjl)
                  subst hA
                  simp only at q0 q1
                  clear hjl
                  go_wp2_with fail
                  go_roundw
                  case rel => exact ⟨j + 1, by go_num, HJL.out, trivial⟩
                  case measure => have := HJL.out; simp [intOf]; omega
                · obtain rfl : j = n := by omega
                  have hdj : decide (j < j) = false := decide_eq_false (by omega)
                  clear hjl
                  go_wp2_with fail
                  go_roundw
                  case rel => exact ⟨now + k, now + k + 10, t + 1, i + 1, _, rfl, rfl, rfl, by go_num, by have := HL6.out; omega, HLT.out, by omega, by omega, by omega, by omega, by omega, by have := HT.out; omega, HR9.out, HOK9.out, .inl rfl, HB9.out⟩
                  case measure => have := HL6.out; simp [intOf]; omega
            · have htt : decide (t < 4) = false := decide_eq_false ht
              obtain rfl : t = 4 := by omega
              refine (tick_any wd (k : Int) HRd.out HOKr.out).mono ?_
              rw [tm_lose n now due k hn1 hn4 hn0 (by omega) (by omega) hbd (by omega)]
              intro e w9 hg
              obtain ⟨A9, c9, rfl, hrd, hAn, hr, hok, hm, ho⟩ := gives_slice hg
              have HR9 := Lib.hid hr
              have HOK9 := Lib.hid hok
              have HB9 := Lib.hid (HBd.out.trans (hm.below HBd.out.size HRG.out.1 HRG.out.2))
              clear hg hrd hAn hr hok hm ho hdue ht
              go_wp2_with fail
              refine (done_any w9 HR9.out).mono ?_
              rintro e wd2 ⟨rfl, nd2, rfl⟩
              rw [td_done]
              have HR10 := Lib.hid (HR9.out.drewN (n := nd2))
              have HB10 := Lib.hid (below_drewNs (n := nd2) HB9.out)
              generalize w9.drewN nd2 = w10 at *
              go_wp2_with fail
              refine (outcome_any w10 0 HR10.out).mono ?_
              rintro e w11 ⟨rfl, hwd⟩
              rw [hwd]
              clear hwd w11
              rw [td_outcome n _ _ hn1]
              go_wp2_with fail
              go_roundw
              case rel => exact ⟨now + k, due, 4, i + 1, _, rfl, rfl, rfl, by go_num, by have := HL6.out; omega, HLT.out, by omega, by omega, by omega, by omega, by omega, by omega, HR10.out, HOK9.out, .inr rfl, HB10.out⟩
              case measure => have := HL6.out; simp [intOf]; omega
        · rw [td_done]
          go_wp2_with fail
          refine (tick_any wd (-1) HRd.out HOKr.out).mono ?_
          rw [HTN.out]
          intro e w9 hg
          obtain ⟨A9, c9, rfl, hrd, hAn, hr, hok, hm, ho⟩ := gives_slice hg
          have HB9 := Lib.hid (HBd.out.trans (hm.below HBd.out.size HRG.out.1 HRG.out.2))
          clear hg hrd hAn hr hok hm ho
          go_wp2_with fail
          go_ret
          exact ⟨rfl, HB9.out⟩
      · have hd1 : decide (i < na) = true := decide_eq_true hlt
        have hd6 : decide (i < 60) = false := decide_eq_false hl6
        have hd6' : decide ((i : Int) < 60) = false := decide_eq_false (by omega)
        clear hlt hl6
        go_wp2_with fail
        all_goals
          refine (tick_any wr (-1) HRr.out HOKr.out).mono ?_
          rw [HTN.out]
          intro e w9 hg
          obtain ⟨A9, c9, rfl, hrd, hAn, hr, hok, hm, ho⟩ := gives_slice hg
          have HB9 := Lib.hid (HBr.out.trans (hm.below HBr.out.size HRG.out.1 HRG.out.2))
          clear hg hrd hAn hr hok hm ho
          go_wp2_with fail
          go_ret
          exact ⟨rfl, HB9.out⟩
    · have hd1 : decide (i < na) = false := decide_eq_false hlt
      clear hlt
      go_wp2_with fail
      refine (tick_any wr (-1) HRr.out HOKr.out).mono ?_
      rw [HTN.out]
      intro e w9 hg
      obtain ⟨A9, c9, rfl, hrd, hAn, hr, hok, hm, ho⟩ := gives_slice hg
      have HB9 := Lib.hid (HBr.out.trans (hm.below HBr.out.size HRG.out.1 HRG.out.2))
      clear hg hrd hAn hr hok hm ho
      go_wp2_with fail
      go_ret
      exact ⟨rfl, HB9.out⟩
end Go.Proofs.Ytpogiondpbfjkaa
