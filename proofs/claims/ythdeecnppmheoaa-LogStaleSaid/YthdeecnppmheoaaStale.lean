/- LogStale walked. -/
import Derived.Test.YthdeecnppmheoaaApp
import Derived.Deep.CutBlock
import Derived.Deep.DeepCutAuto
namespace Go.Proofs.Ythdeecnppmheoaa
open Go.RowKit
set_option maxHeartbeats 1000000 in
set_option maxRecDepth 100000 in
theorem stale_any (Oa Ob : Option Addr) (na ca nb cb : Nat) (da db : Nat → List Int) (sq el : Int) (hs0 : 0 ≤ sq) (hs1 : sq ≤ 4294967295) (he0 : 0 ≤ el) (he1 : el ≤ 4294967295) (hna : na ≤ 9223372036854775807) (hnb : nb ≤ 9223372036854775807) (w : World) (ha : RowsIn w Oa na da) (hb : RowsIn w Ob nb db) :
    Calls Try.prog 6 #[.slice Oa na ca, .slice Ob nb cb, .int .u32 sq, .int .u32 el] w fun e w' => e = .returned (.bool true) ∧ Below w.heap.size w w' := by
  have HRA := Lib.hid ha
  have HRB := Lib.hid hb
  clear ha hb
  go_enter Try.func6, Try.ntmps6
  go_upto_block 0 with fail
  have hS : 1000 ≤ 1000 + sq % 100000 ∧ 1000 + sq % 100000 ≤ 100999 := by omega
  have hE : 1 ≤ 1 + el % 900 ∧ 1 + el % 900 ≤ 900 := by omega
  generalize 1000 + sq % 100000 = S at *
  generalize 1 + el % 900 = E at *
  obtain ⟨hS0, hS1⟩ := hS
  obtain ⟨hE0, hE1⟩ := hE
  go_cut [9, 10] (fun s9 s10 wx => ∃ (n : Nat) (v : Value), s10 = .int .i64 n ∧ s9 = v ∧ n ≤ 5 ∧ GoodTo da 200 n ∧ Own8 w.heap.size wx v (joinF (recsF S 1 da n)) ∧ Below w.heap.size w wx)
  case first =>
    go_wp2_with fail
    go_loopw [9, 10, 11] (fun s9 s10 s11 wr => ∃ (k : Nat) (v : Value), s11 = .int .i64 k ∧ s10 = .int .i64 k ∧ s9 = v ∧ k ≤ 5 ∧ k ≤ na ∧ GoodTo da 200 k ∧ Own8 w.heap.size wr v (joinF (recsF S 1 da k)) ∧ Below w.heap.size w wr) (fun _ _ s11 _ => 5 - (intOf s11).toNat)
    case atStart => exact ⟨0, _, rfl, rfl, rfl, by omega, by omega, fun i hi => absurd hi (Nat.not_lt_zero _), Own8.nil _ _, Below.refl _ _⟩
    case round =>
      obtain ⟨k, v, rfl, rfl, rfl, hk5, hka, hgood, hown, hbel⟩ := hrel
      have HG := Lib.hid hgood
      have HO := Lib.hid hown
      have HB := Lib.hid hbel
      clear hgood hown hbel
      by_cases hlt : k < na
      · by_cases hl5 : k < 5
        · obtain ⟨b, off, rfl, hbl, A, c, hc, hdc, hdm, hAc, hd8, hdr⟩ := HRA.out.at hlt
          have HD8 := Lib.hid hd8
          have HDR := Lib.hid (hdr.keep HB.out)
          have hcw := keep_cell HB.out hc
          clear hc hd8 hdr
          obtain ⟨d, hd⟩ : ∃ d, da k = d := ⟨_, rfl⟩
          have HGS := Lib.hid (fun h8 hl => goodTo_succ HG.out hd h8 hl)
          have HJ := Lib.hid (show joinF (recsF S 1 da (k + 1)) = joinF (recsF S 1 da k) ++ packF (S + k) 1 d by rw [recsF_succ, joinF_append, joinF_one, hd])
          have HJL := Lib.hid (join_bd S 1 da 200 5 k HG.out hk5 (by decide))
          rw [hd] at HD8 HDR hcw hdc hdm
          have HPL := Lib.hid (packF_length (S + k) 1 d)
          generalize joinF (recsF S 1 da k) = J at *
          clear hd
          by_cases hbig : (d.length : Int) ≤ 200
          · have HP := Lib.hid (fun wx hx => pack_any (S + k) 1 (by omega) (by omega) (by decide) (by decide) A d.length c d rfl (by omega) HD8.out wx hx)
            generalize packF (S + k) 1 d = P at *
            have hw1 : (k : Int) % 4294967296 = (k : Int) := by omega
            have hw2 : (S + (k : Int)) % 4294967296 = S + (k : Int) := by omega
            go_wp2_with fail
            refine (HP.out _ HDR.out).mono ?_
            rintro e w1 ⟨g, rfl, hr1, hg1, hb1⟩
            have HO1 := Lib.hid (HO.out.keep hb1)
            have HB1 := Lib.hid (below_call HB.out hb1)
            have HR1 := Lib.hid hr1
            clear hb1 hr1 hw1 hw2 hcw
            go_wp2_with (at_builtin; refine append8 rfl (.tmp 46) (.tmp 55) rfl w.heap.size _ J rfl HO1.out (some ⟨g, 0, none⟩) P.length P.length P rfl rfl ?hA (fun h => by cases h) ?hmax ?hbase ?_)
            case hA => exact .inr ⟨g, 0, rfl, HR1.out.lt, HR1.out.cells⟩
            case hmax => rw [HPL.out]; have := HJL.out; omega
            case hbase => exact HB1.out.size
            intro A2 c2 w2 hown2 hb2 hg2
            have HB2 := Lib.hid (hb2 _ HB1.out)
            clear hb2 hg2
            go_wp2_with fail
            go_roundw
            case rel => exact ⟨k + 1, _, by go_num, by go_num, rfl, by omega, by omega, HGS.out HD8.out (by omega), by rw [HJ.out]; exact hown2.out, HB2.out⟩
            case measure => simp [intOf]; omega
          · have HA := Lib.hid (fun wx => awake_any wx)
            have hbig' : (200 : Int) < (d.length : Int) := by omega
            go_wp2_with fail
            refine (HA.out _).mono ?_
            rintro e w1 ⟨rfl, hb1⟩
            have HB1 := Lib.hid (below_call HB.out hb1)
            clear hb1
            go_wp2_with fail
            go_ret
            exact ⟨rfl, HB1.out⟩
        · have hg : decide ((k : Int) < 5) = false := decide_eq_false (by omega)
          go_wp2_with fail
          go_meet
          exact ⟨k, _, rfl, rfl, by omega, HG.out, HO.out, HB.out⟩
      · have hg : decide ((k : Int) < (na : Int)) = false := decide_eq_false (by omega)
        go_wp2_with fail
        go_meet
        exact ⟨k, _, rfl, rfl, by omega, HG.out, HO.out, HB.out⟩
  case rest =>
    obtain ⟨n, v, rfl, rfl, hn5, hgood, hown, hbel⟩ := hcut
    have HG := Lib.hid hgood
    have HO := Lib.hid hown
    have HB := Lib.hid hbel
    clear hgood hown hbel
    have HA := Lib.hid (fun wx => awake_any wx)
    by_cases h0 : n = 0
    · have hz : ((n : Int) == 0) = true := by simp [h0]
      clear h0
      go_wp2_with fail
      refine (HA.out _).mono ?_
      rintro e w1 ⟨rfl, hb1⟩
      have HB1 := Lib.hid (below_call HB.out hb1)
      clear hb1
      go_wp2_with fail
      go_ret
      exact ⟨rfl, HB1.out⟩
    · have hz : ((n : Int) == 0) = false := by simp; omega
      have HJA := Lib.hid (join_bd S 1 da 200 5 n HG.out hn5 (by decide))
      have HGA := HG
      clear HG
      obtain ⟨JA, hJA⟩ : ∃ JA, joinF (recsF S 1 da n) = JA := ⟨_, rfl⟩
      rw [hJA] at HO HJA
      have HJAE := Lib.hid hJA
      have hJAL := HJA.out
      clear hJA
      go_upto_block 2 with fail
      go_cut [9] (fun s9 wx => ∃ (m : Nat) (v : Value), s9 = v ∧ m ≤ 5 ∧ GoodTo db 200 m ∧ Own8 w.heap.size wx v (JA ++ joinF (recsF E 2 db m)) ∧ Below w.heap.size w wx)
      case first =>
        go_wp2_with fail
        go_loopw [9, 12] (fun s9 s11 wr => ∃ (k : Nat) (v : Value), s11 = .int .i64 k ∧ s9 = v ∧ k ≤ 5 ∧ k ≤ nb ∧ GoodTo db 200 k ∧ Own8 w.heap.size wr v (JA ++ joinF (recsF E 2 db k)) ∧ Below w.heap.size w wr) (fun _ s11 _ => 5 - (intOf s11).toNat)
        case atStart => exact ⟨0, _, rfl, rfl, by omega, by omega, fun i hi => absurd hi (Nat.not_lt_zero _), by simpa [recsF, joinF] using HO.out, HB.out⟩
        case round =>
          obtain ⟨k, v, rfl, rfl, hk5, hka, hgood, hown, hbel⟩ := hrel
          clear HO HB
          have HG := Lib.hid hgood
          have HO := Lib.hid hown
          have HB := Lib.hid hbel
          clear hgood hown hbel
          by_cases hlt : k < nb
          · by_cases hl5 : k < 5
            · obtain ⟨b, off, rfl, hbl, A, c, hc, hdc, hdm, hAc, hd8, hdr⟩ := HRB.out.at hlt
              have HD8 := Lib.hid hd8
              have HDR := Lib.hid (hdr.keep HB.out)
              have hcw := keep_cell HB.out hc
              clear hc hd8 hdr
              obtain ⟨d, hd⟩ : ∃ d, db k = d := ⟨_, rfl⟩
              have HGS := Lib.hid (fun h8 hl => goodTo_succ HG.out hd h8 hl)
              have HJ := Lib.hid (show joinF (recsF E 2 db (k + 1)) = joinF (recsF E 2 db k) ++ packF (E + k) 2 d by rw [recsF_succ, joinF_append, joinF_one, hd])
              have HJL := Lib.hid (join_bd E 2 db 200 5 k HG.out hk5 (by decide))
              rw [hd] at HD8 HDR hcw hdc hdm
              have HPL := Lib.hid (packF_length (E + k) 2 d)
              generalize joinF (recsF E 2 db k) = J at *
              clear hd
              by_cases hbig : (d.length : Int) ≤ 200
              · have HP := Lib.hid (fun wx hx => pack_any (E + k) 2 (by omega) (by omega) (by decide) (by decide) A d.length c d rfl (by omega) HD8.out wx hx)
                generalize packF (E + k) 2 d = P at *
                have hw1 : (k : Int) % 4294967296 = (k : Int) := by omega
                have hw2 : (E + (k : Int)) % 4294967296 = E + (k : Int) := by omega
                go_wp2_with fail
                refine (HP.out _ HDR.out).mono ?_
                rintro e w1 ⟨g, rfl, hr1, hg1, hb1⟩
                have HO1 := Lib.hid (HO.out.keep hb1)
                have HB1 := Lib.hid (below_call HB.out hb1)
                have HR1 := Lib.hid hr1
                clear hb1 hr1 hw1 hw2 hcw
                go_wp2_with (at_builtin; refine append8 rfl (.tmp 79) (.tmp 88) rfl w.heap.size _ (JA ++ J) rfl HO1.out (some ⟨g, 0, none⟩) P.length P.length P rfl rfl ?hA (fun h => by cases h) ?hmax ?hbase ?_)
                case hA => exact .inr ⟨g, 0, rfl, HR1.out.lt, HR1.out.cells⟩
                case hmax => rw [HPL.out, List.length_append]; have := HJL.out; omega
                case hbase => exact HB1.out.size
                intro A2 c2 w2 hown2 hb2 hg2
                have HB2 := Lib.hid (hb2 _ HB1.out)
                clear hb2 hg2
                go_wp2_with fail
                go_roundw
                case rel => exact ⟨k + 1, _, by go_num, rfl, by omega, by omega, HGS.out HD8.out (by omega), by rw [HJ.out, ← List.append_assoc]; simpa using hown2.out, HB2.out⟩
                case measure => simp [intOf]; omega
              · have HA := Lib.hid (fun wx => awake_any wx)
                have hbig' : (200 : Int) < (d.length : Int) := by omega
                go_wp2_with fail
                refine (HA.out _).mono ?_
                rintro e w1 ⟨rfl, hb1⟩
                have HB1 := Lib.hid (below_call HB.out hb1)
                clear hb1
                go_wp2_with fail
                go_ret
                exact ⟨rfl, HB1.out⟩
            · have hg : decide ((k : Int) < 5) = false := decide_eq_false (by omega)
              go_wp2_with fail
              go_meet
              exact ⟨k, _, rfl, by omega, HG.out, HO.out, HB.out⟩
          · have hg : decide ((k : Int) < (nb : Int)) = false := decide_eq_false (by omega)
            go_wp2_with fail
            go_meet
            exact ⟨k, _, rfl, by omega, HG.out, HO.out, HB.out⟩
      case rest =>
        obtain ⟨m, v, rfl, hm5, hgood, hown, hbel⟩ := hcut
        clear HO HB
        have hn0 : 0 < n := by omega
        have hlB := join_bd E 2 db 200 5 m hgood hm5 (by decide)
        have HX8 := Lib.hid (show Bytes8 (JA ++ joinF (recsF E 2 db m)) from fun x hx => by
          rw [List.mem_append] at hx
          rcases hx with hx | hx
          · rw [← HJAE.out] at hx
            exact join_8 HGA.out (by decide) (by omega) (by omega) (by decide) (by decide) x hx
          · exact join_8 hgood (by decide) (by omega) (by omega) (by decide) (by decide) x hx)
        have HSX := Lib.hid (show scanA (JA ++ joinF (recsF E 2 db m)) = (recsF S 1 da n, blocksF (recsF S 1 da n)) by rw [← HJAE.out]; exact scan_stale S E 1 2 da db n m hn0 (by omega) hS0 (by omega) (by omega) hE1)
        have HRL := Lib.hid (recsF_length S 1 da n)
        have hxne : JA ++ joinF (recsF E 2 db m) ≠ [] := fun h => by
          have h1 : JA = [] := (List.append_eq_nil_iff.1 h).1
          rw [← HJAE.out] at h1
          have h2 := congrArg List.length h1
          rw [joinF_length] at h2
          have h3 := blocksF_le (recsF S 1 da n)
          rw [recsF_length] at h3
          simp at h2
          omega
        have hXL : (JA ++ joinF (recsF E 2 db m)).length ≤ 128000 := by rw [List.length_append]; omega
        generalize recsF S 1 da n = RA at *
        generalize JA ++ joinF (recsF E 2 db m) = X at *
        generalize blocksF RA = kA at *
        obtain ⟨Ax, cx, hv, hAc, hcx⟩ := hown.slice
        subst hv
        obtain ⟨g, rfl, _, hg0, hglt, _, hX8⟩ := hown.row hxne
        have HB := Lib.hid hbel
        have HXC := Lib.hid hX8
        have HSC := Lib.hid (scan_any g 0 X.length cx X rfl (by omega) hcx HX8.out wc hglt hX8)
        clear hgood hown hbel hX8 hxne hlB
        go_wp2_with fail
        refine HSC.out.mono ?_
        rintro e w1 ⟨v1, rfl, hv1, hb1⟩
        rw [HSX.out] at hv1 ⊢
        obtain ⟨A1, c1, rfl⟩ := recs_shape hv1
        rw [HRL.out]
        have HB1 := Lib.hid (below_call HB.out hb1)
        have HX1 := Lib.hid (Has8.keep HXC.out hb1)
        have hg1 : g < w1.heap.size := Nat.lt_of_lt_of_le hglt hb1.size
        clear hv1 hb1 HSC HSX
        obtain ⟨i0, hi, hz0, hz1, hz2⟩ := info_parts info5
        have HI := Lib.hid hi
        have HZ0 := Lib.hid hz0
        have HZ1 := Lib.hid hz1
        have HZ2 := Lib.hid hz2
        clear hi hz0 hz1 hz2
        go_wp2_with (at_make; refine wpList_make_full _ rfl (.const (.int .i64 64)) (.const (.int .i64 64)) 23 rfl w1.heap.size 5 i0 (.int .u8 0) 1 Try.underlying23 HI.out HZ0.out HZ1.out .i64 .i64 64 64 64 rfl rfl rfl rfl ?b2 ?b3 ?b4 ?_)
        case b2 => rw [HZ2.out]; decide
        case b3 => simp only [maxLen]; decide
        case b4 => exact Nat.le_refl _
        intro w2 hown2 hgr2
        have R2 := Lib.hid (show RowAt w2 w1.heap.size (z 64) from row_made (B := w1.heap.size) (by simpa [Value.cells] using hown2))
        have b2 : Below w1.heap.size w1 w2 := (Below.refl _ _).grown hgr2 (Nat.le_refl _) (fun g hg => by cases hg)
        have HB2 := Lib.hid b2
        have HX2 := Lib.hid (Has8.keep HX1.out b2)
        have hg2 : g < w2.heap.size := Nat.lt_of_lt_of_le hg1 b2.size
        have hh2 : w1.heap.size ≤ w2.heap.size := b2.size
        clear hown2 hgr2 b2
        go_wp2_with (at_builtin; refine append8 rfl (.tmp 95) (.tmp 96) rfl w1.heap.size _ (z 64) rfl ?hown (some ⟨g, 0, none⟩) X.length cx X rfl rfl ?hA (fun h => by cases h) ?hmax ?hbase ?_)
        case hown => exact RowAt.own R2.out (Nat.le_refl _) (by decide)
        case hA => exact .inr ⟨g, 0, rfl, hg2, HX2.out⟩
        case hmax => rw [show (z 64).length = 64 from rfl]; omega
        case hbase => exact hh2
        intro A3 c3 w3 hown3 hb3 hgr3
        have HB3 := Lib.hid (below_call HB1.out (hb3 w1 HB2.out))
        have HSY := Lib.hid (scan_gap X)
        have HY8 := Lib.hid (bytes8_append (bytes8_z 64) HX8.out)
        have hYL : (z 64 ++ X).length ≤ 128064 := by rw [List.length_append, show (z 64).length = 64 from rfl]; omega
        have hYne : z 64 ++ X ≠ [] := fun h => by have := congrArg List.length h; rw [List.length_append, show (z 64).length = 64 from rfl] at this; simp at this
        clear hb3 hgr3
        generalize z 64 ++ X = Y at *
        obtain ⟨g3, rfl, _, _, hg3, hc3, hY⟩ := hown3.out.row hYne
        have HSC3 := Lib.hid (scan_any g3 0 Y.length c3 Y rfl (by omega) hc3 HY8.out w3 hg3 hY)
        clear hY hYne hc3 hown3
        go_wp2_with fail
        refine HSC3.out.mono ?_
        rintro e w4 ⟨v4, rfl, hv4, hb4⟩
        rw [HSY.out] at hv4 ⊢
        obtain ⟨A4, c4, rfl⟩ := recs_shape hv4
        have HB4 := Lib.hid (below_call HB3.out hb4)
        clear hv4 hb4 HSC3 HSY hg3
        have HP5 := Lib.hid (fun wx => pack_any S 1 (by omega) (by omega) (by decide) (by decide) none 0 0 [] rfl (by decide) (fun x hx => by simp at hx) wx (.inl rfl))
        have HP6 := Lib.hid (fun wx => pack_any (S + 1) 1 (by omega) (by omega) (by decide) (by decide) none 0 0 [] rfl (by decide) (fun x hx => by simp at hx) wx (.inl rfl))
        have HP7 := Lib.hid (fun wx => pack_any 0 1 (by decide) (by decide) (by decide) (by decide) none 0 0 [] rfl (by decide) (fun x hx => by simp at hx) wx (.inl rfl))
        have HL5 := Lib.hid (show (packF S 1 []).length = 64 from packF_length S 1 [])
        have HL6 := Lib.hid (show (packF (S + 1) 1 []).length = 64 from packF_length (S + 1) 1 [])
        have HL7 := Lib.hid (show (packF 0 1 []).length = 64 from packF_length 0 1 [])
        have HS5 := Lib.hid (scan_first S 1 [] (packF (S + 1) 1 []) (by omega))
        have HS7 := Lib.hid (scan_zero 1 [])
        have HP58 := Lib.hid (packF_8 (q := S) (k := 1) (d := []) (by omega) (by omega) (by decide) (by decide) (by decide) (fun x hx => by simp at hx))
        have HP68 := Lib.hid (packF_8 (q := S + 1) (k := 1) (d := []) (by omega) (by omega) (by decide) (by decide) (by decide) (fun x hx => by simp at hx))
        have HP78 := Lib.hid (packF_8 (q := 0) (k := 1) (d := []) (by decide) (by decide) (by decide) (by decide) (by decide) (fun x hx => by simp at hx))
        generalize packF S 1 [] = P5 at *
        generalize packF (S + 1) 1 [] = P6 at *
        generalize packF 0 1 [] = P7 at *
        go_wp2_with fail
        refine (HP5.out _).mono ?_
        rintro e w5 ⟨g5, rfl, hr5, hgg5, hb5⟩
        have HB5 := Lib.hid (below_call HB4.out hb5)
        have HR5 := Lib.hid hr5
        clear hr5 hb5 hgg5
        go_wp2_with (at_builtin; refine append_z64 rfl (.tmp 104) rfl g5 P5 rfl HR5.out ?hmax ?_)
        case hmax => rw [HL5.out]; decide
        intro c6 w6 hown6 hb6
        have HB6 := Lib.hid hb6
        clear hb6
        have hw6 : (S + 1) % 4294967296 = S + 1 := by omega
        go_wp2_with fail
        refine (HP6.out _).mono ?_
        rintro e w7 ⟨g7, rfl, hr7, hgg7, hb7⟩
        have HO7 := Lib.hid (hown6.out.keep hb7)
        have HB7 := Lib.hid (below_call HB6.out hb7)
        have HR7 := Lib.hid hr7
        clear hr7 hb7 hgg7 hown6 hw6
        go_wp2_with (at_builtin; refine append8 rfl (.tmp 105) (.tmp 108) rfl w5.heap.size _ (P5 ++ z 64) rfl ?hown (some ⟨g7, 0, none⟩) P6.length P6.length P6 rfl rfl ?hA (fun h => by cases h) ?hmax ?hbase ?_)
        case hown => exact HO7.out
        case hA => exact .inr ⟨g7, 0, rfl, HR7.out.lt, HR7.out.cells⟩
        case hmax => rw [List.length_append, HL5.out, HL6.out, show (z 64).length = 64 from rfl]; decide
        case hbase => exact HB7.out.size
        intro A8 c8 w8 hown8 hb8 hgr8
        have HB8 := Lib.hid (below_call HB5.out (hb8 _ HB7.out))
        clear hb8 hgr8
        have HY8' := Lib.hid (bytes8_append HP58.out (bytes8_append (bytes8_z 64) HP68.out))
        have hZL : (P5 ++ (z 64 ++ P6)).length = 192 := by rw [List.length_append, List.length_append, HL5.out, HL6.out]; rfl
        generalize P5 ++ (z 64 ++ P6) = Z at *
        have HZL := Lib.hid hZL
        have hZne : Z ≠ [] := fun h => by rw [h] at hZL; simp at hZL
        clear hZL
        obtain ⟨g8, rfl, _, _, hg8, hc8, hZ⟩ := hown8.out.row hZne
        have HSC8 := Lib.hid (scan_any g8 0 Z.length c8 Z rfl (by rw [HZL.out]; decide) hc8 HY8'.out w8 hg8 hZ)
        clear hZ hZne hc8 hown8 hg8
        go_wp2_with fail
        refine HSC8.out.mono ?_
        rintro e w9 ⟨v9, rfl, hv9, hb9⟩
        rw [HS5.out] at hv9 ⊢
        obtain ⟨A9, c9, rfl⟩ := recs_shape hv9
        have HB9 := Lib.hid (below_call HB8.out hb9)
        clear hv9 hb9 HSC8 HS5
        go_wp2_with fail
        refine (HP7.out _).mono ?_
        rintro e w10 ⟨g10, rfl, hr10, hgg10, hb10⟩
        have HSC10 := Lib.hid (scan_any g10 0 P7.length P7.length P7 rfl (by rw [HL7.out]; decide) (Nat.le_refl _) HP78.out w10 hr10.lt hr10.cells)
        have HB10 := Lib.hid (below_call HB9.out hb10)
        clear hr10 hb10 hgg10
        go_wp2_with fail
        refine HSC10.out.mono ?_
        rintro e w11 ⟨v11, rfl, hv11, hb11⟩
        rw [HS7.out] at hv11 ⊢
        obtain ⟨A11, c11, rfl⟩ := recs_shape hv11
        have HB11 := Lib.hid (below_call HB10.out hb11)
        clear hv11 hb11 HSC10 HS7
        go_wp2_with fail
        refine (HA.out _).mono ?_
        rintro e w12 ⟨rfl, hb12⟩
        have HB12 := Lib.hid (below_call HB11.out hb12)
        clear hb12
        go_wp2_with fail
        go_ret
        exact ⟨rfl, HB12.out⟩
end Go.Proofs.Ythdeecnppmheoaa
