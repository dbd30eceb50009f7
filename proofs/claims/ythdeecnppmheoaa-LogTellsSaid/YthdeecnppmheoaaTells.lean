/- LogTells walked. -/
import Derived.Test.YthdeecnppmheoaaSame
namespace Go.Proofs.Ythdeecnppmheoaa
open Go.RowKit
set_option maxHeartbeats 1000000 in
theorem rscan_nil (A : Option Addr) (c : Nat) (w : World) : Calls Try.prog 10 #[.slice A 0 c] w (RScanIs w []) := by
  have HN := Lib.hid (fun A' cap' => show Calls Try.prog 21 #[.slice A' 0 cap'] w (fun e w' => RecIs w [] e w') from rec_any A' 0 cap' [] rfl (by decide) (Nat.zero_le _) (fun x hx => by simp at hx) w (.inl rfl))
  simp only [RecIs, recAt_z0] at HN
  have HS := Lib.hid (show scanA [] = ([], 0) from scanF_none recAt_z0 _ _)
  go_enter Try.func10, Try.ntmps10
  go_wp2_with fail
  refine wp_loop_rounds 1 ?_
  rw [rounds_succ]
  go_wp2_with fail
  all_goals
    refine (HN.out _ _).mono ?_
    rintro e w1 ⟨rfl, hb1⟩
    have HB1 := Lib.hid hb1
    clear hb1
    go_wp2_with fail
    go_quiet (fail)
    go_wp2_with fail
    go_ret2
    refine ⟨.slice none 0 0, by rw [HS.out]; rfl, ?_, ?_⟩
    · rw [HS.out]; exact Recs.nil _ _
    · (repeat (first | (with_reducible exact HB1.out) | (with_reducible refine below_new ?_ _) | (with_reducible refine Below.drew ?_) | (with_reducible refine below_drewNs ?_) | (with_reducible refine below_set ?_ (by omega))))
theorem scanF_data (f : Nat) : ∀ (l : List Int) (was : Option Int), Bytes8 l → Data8 (scanF f l was).1 ∧ (scanF f l was).1.length ≤ f := by
  induction f with
  | zero => exact fun l was _ => ⟨fun r hr => by simp [scanF] at hr, by simp [scanF]⟩
  | succ f ih =>
    intro l was h8
    rcases ho : recAt l with _ | ⟨⟨q, k, d⟩, K⟩
    · rw [scanF_none ho]; exact ⟨fun r hr => by simp at hr, by simp⟩
    · have hd : Bytes8 d := by
        unfold recAt at ho
        split at ho
        · simp only [Option.some.injEq, Prod.mk.injEq] at ho
          obtain ⟨⟨_, _, rfl⟩, _⟩ := ho
          exact bytes8_take (bytes8_drop h8 _) _
        · cases ho
      rw [scanF, ho]
      simp only
      split
      · exact ⟨fun r hr => by simp at hr, by simp⟩
      · obtain ⟨h1, h2⟩ := ih (l.drop (64 * K)) (some q) (bytes8_drop h8 _)
        refine ⟨fun r hr => ?_, by simp; exact h2⟩
        rcases List.mem_cons.1 hr with rfl | hr
        · exact hd
        · exact h1 r hr
set_option maxHeartbeats 4000000 in
theorem tells_any (q k : Int) (hq0 : 0 ≤ q) (hq1 : q ≤ 4294967295) (hk0 : 0 ≤ k) (hk1 : k ≤ 255) (A : Option Addr) (c : Nat) (l : List Int) (hlc : l.length ≤ c) (hAc : A = none → c = 0) (h8 : Bytes8 l) (w : World) (hA : Read8 w A l) :
    Calls Try.prog 3 #[.int .u32 q, .int .u8 k, .slice A l.length c] w fun e w' => e = .returned (.bool true) ∧ Below w.heap.size w w' := by
  have HAW := Lib.hid (fun wx => awake_any wx)
  have HA := Lib.hid hA
  have H8 := Lib.hid h8
  clear hA h8
  by_cases hbig : (l.length : Int) ≤ 3000
  · have HOWN := Lib.hid (own_any A l.length c l 71 rfl (by omega) w HA.out hAc)
    have HRS := Lib.hid (show ∀ wx, Read8 wx A l → Calls Try.prog 10 #[.slice A l.length c] wx (RScanIs wx l) from fun wx hx => by
      rcases hx with rfl | ⟨b, off, rfl, hb, hc⟩
      · exact rscan_nil A c wx
      · exact rscan_any b off l.length c l rfl (by omega) hlc H8.out wx hb hc)
    have HSC := Lib.hid (fun (wx : World) g (hx : RowAt wx g (l ++ [71, 71, 71])) => scan_any g 0 l.length (l.length + 3) l rfl (by omega) (by omega) H8.out wx hx.lt (fun i hi => by
      have := hx.cells i (by simp; omega)
      rwa [List.getD_eq_getElem?_getD, List.getElem?_append_left hi, ← List.getD_eq_getElem?_getD] at this))
    have HRD := Lib.hid (fun (wx : World) g (hx : RowAt wx g (l ++ [71, 71, 71])) => show Read8 wx (some ⟨g, 0, none⟩) l from by
      have := read8_take hx.lt hx.cells l.length
      rwa [List.take_left' rfl] at this)
    have HD := Lib.hid (scanF_data (l.length + 1) l none H8.out)
    have HPL := Lib.hid (packF_length q k l)
    have HP8 := Lib.hid (packF_8 (q := q) (k := k) (d := l) hq0 hq1 hk0 hk1 (by omega) H8.out)
    go_enter Try.func3, Try.ntmps3
    go_wp2_with fail
    refine HOWN.out.mono ?_
    rintro e w1 ⟨g, rfl, hr1, hg1, hb1⟩
    have HR1 := Lib.hid hr1
    have HB1 := Lib.hid hb1
    clear hr1 hb1
    go_wp2_with fail
    refine (HSC.out _ g HR1.out).mono ?_
    rintro e w2 ⟨v2, rfl, hv2, hb2⟩
    obtain ⟨A2, c2, rfl⟩ := recs_shape hv2
    have HV2 := Lib.hid hv2
    have HR2 := Lib.hid (HR1.out.keep hb2)
    have HB2 := Lib.hid (below_call HB1.out hb2)
    clear hv2 hb2
    go_wp2_with fail
    refine (HRS.out _ (HA.out.keep HB2.out)).mono ?_
    rintro e w3 ⟨v3, rfl, hv3, hb3⟩
    obtain ⟨A3, c3, rfl⟩ := recs_shape hv3
    have HV3 := Lib.hid hv3
    have HV32 := Lib.hid (HV2.out.keep hb3)
    have HR3 := Lib.hid (HR2.out.keep hb3)
    have HB3 := Lib.hid (below_call HB2.out hb3)
    clear hv3 hb3
    obtain ⟨gs, hgs⟩ : ∃ gs, (scanA l).1 = gs := ⟨_, rfl⟩
    obtain ⟨nn, hnn⟩ : ∃ nn, (scanA l).2 = nn := ⟨_, rfl⟩
    rw [show (scanF (l.length + 1) l none).1 = (scanA l).1 from rfl, hgs] at HD
    simp only [hgs, hnn] at HV3 HV32 ⊢
    clear hgs hnn
    go_wp2_with fail
    refine (HAW.out _).mono ?_
    rintro e w4 ⟨rfl, hb4⟩
    have HV34 := Lib.hid (HV3.out.keep hb4)
    have HV24 := Lib.hid (HV32.out.keep hb4)
    have HR4 := Lib.hid (HR3.out.keep hb4)
    have HB4 := Lib.hid (below_call HB3.out hb4)
    clear hb4
    go_wp2_with fail
    refine (sum_any (some ⟨g, 0, none⟩) l.length (l.length + 3) l rfl w4 (by omega) H8.out (HRD.out _ g HR4.out)).mono ?_
    rintro e w4 ⟨rfl, rfl⟩
    go_wp2_with fail
    refine (rsum_any A l.length c l rfl w4 (by omega) H8.out (HA.out.keep HB4.out)).mono ?_
    rintro e w4 ⟨rfl, rfl⟩
    go_wp2_with fail
    refine (pack_any q k hq0 hq1 hk0 hk1 (some ⟨g, 0, none⟩) l.length (l.length + 3) l rfl (by omega) H8.out w4 (HRD.out _ g HR4.out)).mono ?_
    rintro e w5 ⟨g5, rfl, hr5, hg5, hb5⟩
    have HP5 := Lib.hid hr5
    have HV35 := Lib.hid (HV34.out.keep hb5)
    have HV25 := Lib.hid (HV24.out.keep hb5)
    have HR5 := Lib.hid (HR4.out.keep hb5)
    have HB5 := Lib.hid (below_call HB4.out hb5)
    clear hr5 hb5
    go_wp2_with fail
    refine (rpack_any q k hq0 hq1 hk0 hk1 A l.length c l rfl (by omega) H8.out w5 (HA.out.keep HB5.out) hAc).mono ?_
    rintro e w6 ⟨A6, c6, rfl, ho6, hb6⟩
    have hb6 := hb6 _ (Below.refl _ _)
    have HO6 := Lib.hid ho6
    have HP6 := Lib.hid (HP5.out.keep hb6)
    have HV36 := Lib.hid (HV35.out.keep hb6)
    have HV26 := Lib.hid (HV25.out.keep hb6)
    have HR6 := Lib.hid (HR5.out.keep hb6)
    have HB6 := Lib.hid (below_call HB5.out hb6)
    clear ho6 hb6
    generalize packF q k l = P at *
    go_wp2_with fail
    refine (bytes_any (some ⟨g5, 0, none⟩) A6 P.length P.length P.length c6 P P rfl rfl HP8.out HP8.out w6 (.inr ⟨g5, 0, rfl, HP6.out.lt, HP6.out.cells⟩) HO6.out.read).mono ?_
    rintro e w6 ⟨rfl, rfl⟩
    have hdd : decide (P = P) = true := decide_eq_true rfl
    rw [hdd]
    clear hdd
    go_wp2_with fail
    refine (sameR_any _ _ A2 A3 c2 c3 gs w6 (by have := HD.out.2; omega) HD.out.1 HV26.out HV36.out).mono ?_
    rintro e w7 ⟨rfl, hb7⟩
    have HR7 := Lib.hid (HR6.out.keep hb7)
    have HB7 := Lib.hid (below_call HB6.out hb7)
    clear hb7
    go_wp2_with fail
    refine (kept_any g A c l 71 w7 (by omega) HR7.out (HA.out.keep HB7.out)).mono ?_
    rintro e w8 ⟨rfl, hb8⟩
    have HB8 := Lib.hid (below_call HB7.out hb8)
    clear hb8
    go_wp2_with fail
    go_ret
    exact ⟨rfl, HB8.out⟩
  · have hbig' : (3000 : Int) < (l.length : Int) := by omega
    go_enter Try.func3, Try.ntmps3
    go_wp2_with fail
    refine (HAW.out _).mono ?_
    rintro e w4 ⟨rfl, hb4⟩
    have HB4 := Lib.hid hb4
    clear hb4
    go_wp2_with fail
    go_ret
    exact ⟨rfl, HB4.out⟩
end Go.Proofs.Ythdeecnppmheoaa
