/- LogSizes walked. -/
import Derived.Test.YthdeecnppmheoaaChanged
import Derived.OwnWalk
namespace Go.Proofs.Ythdeecnppmheoaa
open Go.RowKit
theorem u64_mod (x : Int) (m : Nat) (hm : 0 < m) (hmm : m < 4294967296) : ∃ r : Nat, r < m ∧ wrap64 ((IntKind.u64.wrap x).tmod (m : Int)) = (r : Int) := by
  have h0 : 0 ≤ IntKind.u64.wrap x := by unfold IntKind.wrap; simp [IntKind.signed, IntKind.bits]; omega
  rw [Int.tmod_eq_emod_of_nonneg h0]
  have h1 := Int.emod_nonneg (IntKind.u64.wrap x) (b := (m : Int)) (by omega)
  have h2 := Int.emod_lt_of_pos (IntKind.u64.wrap x) (b := (m : Int)) (by omega)
  generalize IntKind.u64.wrap x % (m : Int) = y at *
  exact ⟨y.toNat, by omega, by rw [IntWalk.wrap64_in _ (by omega)]; omega⟩
theorem bytes8_set {l : List Int} (h : Bytes8 l) (i : Nat) (v : Int) (h0 : 0 ≤ v) (h1 : v ≤ 255) : Bytes8 (l.set i v) := fun x hx => by
  rcases List.mem_or_eq_of_mem_set hx with h' | rfl
  · exact h x h'
  · exact ⟨h0, h1⟩
theorem wrap8_bd (v : Int) : 0 ≤ IntKind.u8.wrap v ∧ IntKind.u8.wrap v ≤ 255 := by unfold IntKind.wrap; simp [IntKind.signed, IntKind.bits]; omega
theorem flip_ne (x b : Int) (hx0 : 0 ≤ x) (hx1 : x ≤ 255) (hb0 : 0 ≤ b) (hb1 : b ≤ 255) : 0 ≤ bits .xor .u8 x (bits .or .u8 b 1) ∧ bits .xor .u8 x (bits .or .u8 b 1) ≤ 255 ∧ bits .xor .u8 x (bits .or .u8 b 1) ≠ x := by
  obtain ⟨a, rfl⟩ := Int.eq_ofNat_of_zero_le hx0
  obtain ⟨c, rfl⟩ := Int.eq_ofNat_of_zero_le hb0
  rw [show (1 : Int) = ((1 : Nat) : Int) from rfl, (bits_nat .u8 8 (by decide) wraps_u8 c 1 (by omega) (by decide)).2]
  have hc : c ||| 1 < 256 := Nat.or_lt_two_pow (n := 8) (by omega) (by decide)
  have hn : c ||| 1 ≠ 0 := fun h => by
    have := @Nat.right_le_or c 1; omega
  generalize c ||| 1 = d at *
  have ha' : a % 2 ^ 8 = a := Nat.mod_eq_of_lt (by omega)
  have hd' : d % 2 ^ 8 = d := Nat.mod_eq_of_lt (by omega)
  have hlt : a ^^^ d < 2 ^ 8 := Nat.xor_lt_two_pow (by omega) (by omega)
  have e : bits .xor .u8 (a : Int) (d : Int) = ((a ^^^ d : Nat) : Int) := by
    show IntKind.u8.wrap (((BitVec.ofInt 8 (a : Int) ^^^ BitVec.ofInt 8 (d : Int)).toNat : Nat) : Int) = _
    rw [BitVec.ofInt_natCast, BitVec.ofInt_natCast, BitVec.toNat_xor, BitVec.toNat_ofNat, BitVec.toNat_ofNat, ha', hd']
    exact wraps_u8 ((a ^^^ d : Nat) : Int) (by omega) (by omega)
  rw [e]
  refine ⟨by omega, by omega, fun h => hn ?_⟩
  have h' : a ^^^ d = a := by omega
  have := congrArg (a ^^^ ·) h'
  simpa [← Nat.xor_assoc] using this
theorem recs_slice {a : Nat} {w : World} {v : Value} {gs : List Rec} (h : Recs a w v gs) : ∃ A c, v = .slice A gs.length c := by
  obtain ⟨xs, ⟨hx, hr⟩, hv⟩ := h
  rcases hr with ⟨rfl, hz⟩ | ⟨g, cap, cur, rfl, _⟩
  · exact ⟨none, 0, by rw [hz]⟩
  · exact ⟨_, _, rfl⟩
theorem scanA_none {l : List Int} (h : recAt l = none) : scanA l = ([], 0) := scanF_none h _ _
theorem scanA_one {l : List Int} {q k : Int} {d : List Int} {K : Nat} (h : recAt l = some ((q, k, d), K)) (hq : 1 ≤ q) (hl : l.length = K * 64) : scanA l = ([(q, k, d)], K) := by
  have hd : l.drop (64 * K) = [] := List.drop_eq_nil_of_le (by omega)
  have hs : stopF q none = false := by simp [stopF]; omega
  have hz : recAt [] = none := by simpa [z] using recAt_z 0
  unfold scanA
  rw [scanF, h]
  simp only [hs, hd]
  rw [scanF_none hz]
  simp
set_option maxHeartbeats 4000000 in
theorem sizes_any (n at_ by_ : Int) (hb0 : 0 ≤ by_) (hb1 : by_ ≤ 255) (w : World) : Calls Try.prog 5 #[.int .i64 n, .int .i64 at_, .int .u8 by_] w fun e w' => e = .returned (.bool true) ∧ Below w.heap.size w w' := by
  obtain ⟨i0, hi, hz0, hz1, hz2⟩ := info_parts info5
  have HI := Lib.hid hi
  have HZ0 := Lib.hid hz0
  have HZ1 := Lib.hid hz1
  have HZ2 := Lib.hid hz2
  clear hi hz0 hz1 hz2
  obtain ⟨m, hm, hmeq⟩ := u64_mod n 300 (by decide) (by decide)
  have hmeq : wrap64 ((IntKind.u64.wrap n).tmod 300) = (m : Int) := hmeq
  go_enter Try.func5, Try.ntmps5
  go_wp2_with (at_make; refine wpList_make_full _ rfl (.tmp 18) (.tmp 18) 23 rfl w.heap.size 5 i0 (.int .u8 0) 1 Try.underlying23 HI.out HZ0.out HZ1.out .i64 .i64 _ _ m rfl rfl hmeq hmeq ?b2 ?b3 ?b4 ?_)
  case b2 => rw [HZ2.out]; omega
  case b3 => simp only [maxLen]; omega
  case b4 => exact Nat.le_refl _
  intro w1 hown hg1
  have R1 := Lib.hid (show RowAt w1 w.heap.size (List.replicate m 0) from row_made (B := w.heap.size) (by simpa [Value.cells] using hown))
  have B1 := Lib.hid (show Below w.heap.size w w1 from (Below.refl _ _).grown hg1 (Nat.le_refl _) (fun g hg => by cases hg))
  clear hown hg1
  go_wp2_with fail
  clear hmeq
  go_loopw [22] (fun s22 wr => ∃ (k : Nat) (l : List Int), s22 = .int .i64 k ∧ k ≤ m ∧ l.length = m ∧ Bytes8 l ∧ RowAt wr w.heap.size l ∧ Below w.heap.size w wr) (fun s22 _ => m - (intOf s22).toNat)
  case atStart => exact ⟨0, List.replicate m 0, rfl, Nat.zero_le _, by simp, fun x hx => by rw [List.eq_of_mem_replicate hx]; decide, R1.out, B1.out⟩
  case round =>
    obtain ⟨k, l, rfl, hk, hl, h8, hr, hb⟩ := hrel
    have HR := Lib.hid hr
    have HB := Lib.hid hb
    have H8 := Lib.hid h8
    have HL := Lib.hid hl
    clear hr hb h8 R1 B1
    by_cases hlt : k < m
    · have hc := HR.out.cell k (by omega)
      have hz := HR.out.melted k
      clear hl
      go_wp2
      go_roundw
      case rel => exact ⟨k + 1, l.set k (IntKind.u8.wrap k), by go_num, by omega, by rw [List.length_set]; exact HL.out, bytes8_set H8.out k _ (wrap8_bd _).1 (wrap8_bd _).2, HR.out.set k _, below_set HB.out (Nat.le_refl _)⟩
      case measure => simp [intOf]; omega
    · obtain rfl : k = m := by omega
      obtain rfl := hl
      have HP := Lib.hid (fun (wx : World) (hx : RowAt wx w.heap.size l) => pack_any 5 3 (by decide) (by decide) (by decide) (by decide) (some ⟨w.heap.size, 0, none⟩) l.length l.length l rfl (by omega) H8.out wx (.inr ⟨_, 0, rfl, hx.lt, hx.cells⟩))
      have HPL := Lib.hid (packF_length 5 3 l)
      have HP8 := Lib.hid (packF_8 (q := 5) (k := 3) (d := l) (by decide) (by decide) (by decide) (by decide) (by omega) H8.out)
      have HPC := Lib.hid (fun a y => recAt_changed 5 3 l HP8.out a y)
      have HPD := Lib.hid (fun a y => recAt_pad 5 3 l (by decide) a y)
      have HPW := Lib.hid (pack_facts 5 3 l).2.2.2.2
      generalize packF 5 3 l = P at *
      obtain ⟨K, hK⟩ : ∃ K, (l.length + 81) / 64 = K := ⟨_, rfl⟩
      rw [hK] at HPL HPD HPW
      have HK := Lib.hid hK
      have hK1 : l.length + 18 ≤ K * 64 := by omega
      have hK2 : K * 64 ≤ l.length + 81 := by omega
      have hke : (18 + (l.length : Int) + 64 - 1) / 64 = (K : Int) := by omega
      clear hK
      go_wp2_with fail
      refine (HP.out _ HR.out).mono ?_
      rintro e w2 ⟨g, rfl, hr2, hg2, hb2⟩
      rw [HPL.out]
      have R2 := Lib.hid hr2
      have hgw : w.heap.size ≤ g := Nat.le_trans HB.out.size hg2
      have B2 := Lib.hid (below_call HB.out hb2)
      clear hr2 hb2
      have HA := Lib.hid (fun wx => awake_any wx)
      go_wp2_with fail
      refine (HA.out _).mono ?_
      rintro e w3 ⟨rfl, hb3⟩
      have R3 := Lib.hid (R2.out.keep hb3)
      have B3 := Lib.hid (below_call B2.out hb3)
      clear hb3
      have cl := R3.out.cell (K * 64 - 1) (by rw [HPL.out]; omega)
      rw [HPW.out] at cl
      have q1' : (1 : Int) ≤ (K : Int) * 64 := by omega
      have q2' : IntKind.i64.wrap ((K : Int) * 64 - 1) = (K : Int) * 64 - 1 := IntWalk.i64_in _ (by omega)
      have q3' : ((K : Int) * 64 - 1).toNat = K * 64 - 1 := by omega
      have q4' : (K : Int) * 64 - 1 < (K : Int) * 64 := by omega
      obtain ⟨p, hp, hpe⟩ := u64_mod at_ (K * 64) (by omega) (by omega)
      have hpe : wrap64 ((IntKind.u64.wrap at_).tmod ((K : Int) * 64)) = (p : Int) := by simpa using hpe
      by_cases hin : 8 ≤ p ∧ p < 12
      · have i1 : (8 : Int) ≤ (p : Int) := by omega
        have i2 : (p : Int) < 12 := by omega
        go_wp2_with fail
        go_ret
        exact ⟨rfl, B3.out⟩
      · have cp := R3.out.cell p (by rw [HPL.out]; omega)
        have zp := R3.out.melted p
        obtain ⟨x0, x1⟩ := bytes8_get HP8.out p
        obtain ⟨y0, y1, yne⟩ := flip_ne (P.getD p 0) by_ x0 x1 hb0 hb1
        have HY := Lib.hid y0
        have HY1 := Lib.hid y1
        have HYN := Lib.hid yne
        have hp1 : (p : Int) < (K : Int) * 64 := by omega
        clear y0 y1 yne x0 x1
        rcases (show p < 8 ∨ (12 ≤ p ∧ p < 17 + l.length) ∨ (17 + l.length ≤ p ∧ p < K * 64 - 1) ∨ (17 + l.length ≤ p ∧ K * 64 - 1 ≤ p) by omega) with h1 | h1 | h1 | h1
        · have i1 : (p : Int) < 8 := by omega
          have i3 : (p : Int) < 17 + (l.length : Int) := by omega
          have HEND := Lib.hid (show scanA (P.set p (bits .xor .u8 (P.getD p 0) (bits .or .u8 by_ 1))) = ([], 0) from scanA_none (HPC.out p _ (by rw [HPL.out]; exact hp) (by omega) (by rw [HPL.out]; omega) HY.out HY1.out HYN.out))
          have HSC := Lib.hid (fun wx hx => scan_any g 0 (K * 64) (K * 64) (P.set p (bits .xor .u8 (P.getD p 0) (bits .or .u8 by_ 1))) (by rw [List.length_set, HPL.out]) (by omega) (Nat.le_refl _) (bytes8_set HP8.out _ _ HY.out HY1.out) wx (RowAt.lt hx) (RowAt.cells hx))
          have HRX := Lib.hid (R3.out.set p (bits .xor .u8 (P.getD p 0) (bits .or .u8 by_ 1)))
          go_wp2_with fail
          clear cp zp
          refine (HSC.out _ HRX.out).mono ?_
          rintro e w4 ⟨v, rfl, hv, hb4⟩
          rw [HEND.out] at hv ⊢
          have HB4 := Lib.hid (below_call (below_set B3.out hgw) hb4)
          obtain ⟨A4, c4, rfl⟩ := recs_slice hv
          clear hv hb4 HSC HRX HEND
          go_wp2_with fail
          go_ret
          exact ⟨rfl, HB4.out⟩
        · have i1 : (8 : Int) ≤ (p : Int) := by omega
          have i2 : (12 : Int) ≤ (p : Int) := by omega
          have i3 : (p : Int) < 17 + (l.length : Int) := by omega
          have HEND := Lib.hid (show scanA (P.set p (bits .xor .u8 (P.getD p 0) (bits .or .u8 by_ 1))) = ([], 0) from scanA_none (HPC.out p _ (by rw [HPL.out]; exact hp) (by omega) (by rw [HPL.out]; omega) HY.out HY1.out HYN.out))
          have HSC := Lib.hid (fun wx hx => scan_any g 0 (K * 64) (K * 64) (P.set p (bits .xor .u8 (P.getD p 0) (bits .or .u8 by_ 1))) (by rw [List.length_set, HPL.out]) (by omega) (Nat.le_refl _) (bytes8_set HP8.out _ _ HY.out HY1.out) wx (RowAt.lt hx) (RowAt.cells hx))
          have HRX := Lib.hid (R3.out.set p (bits .xor .u8 (P.getD p 0) (bits .or .u8 by_ 1)))
          go_wp2_with fail
          clear cp zp
          refine (HSC.out _ HRX.out).mono ?_
          rintro e w4 ⟨v, rfl, hv, hb4⟩
          rw [HEND.out] at hv ⊢
          have HB4 := Lib.hid (below_call (below_set B3.out hgw) hb4)
          obtain ⟨A4, c4, rfl⟩ := recs_slice hv
          clear hv hb4 HSC HRX HEND
          go_wp2_with fail
          go_ret
          exact ⟨rfl, HB4.out⟩
        · have i1 : (8 : Int) ≤ (p : Int) := by omega
          have i2 : (12 : Int) ≤ (p : Int) := by omega
          have i3 : 17 + (l.length : Int) ≤ (p : Int) := by omega
          have i4 : (p : Int) < (K : Int) * 64 - 1 := by omega
          have HEND := Lib.hid (show scanA (P.set p (bits .xor .u8 (P.getD p 0) (bits .or .u8 by_ 1))) = ([(5, 3, l)], K) from scanA_one (HPD.out p _ (by omega) (by rw [HPL.out]; omega)) (by decide) (by rw [List.length_set, HPL.out]))
          have HSC := Lib.hid (fun wx hx => scan_any g 0 (K * 64) (K * 64) (P.set p (bits .xor .u8 (P.getD p 0) (bits .or .u8 by_ 1))) (by rw [List.length_set, HPL.out]) (by omega) (Nat.le_refl _) (bytes8_set HP8.out _ _ HY.out HY1.out) wx (RowAt.lt hx) (RowAt.cells hx))
          have HRX := Lib.hid (R3.out.set p (bits .xor .u8 (P.getD p 0) (bits .or .u8 by_ 1)))
          go_wp2_with fail
          clear cp zp
          refine (HSC.out _ HRX.out).mono ?_
          rintro e w4 ⟨v, rfl, hv, hb4⟩
          rw [HEND.out] at hv ⊢
          have HB4 := Lib.hid (below_call (below_set B3.out hgw) hb4)
          obtain ⟨A4, c4, rfl⟩ := recs_slice hv
          clear hv hb4 HSC HRX HEND
          go_wp2_with fail
          go_ret
          exact ⟨rfl, HB4.out⟩
        · have i1 : (8 : Int) ≤ (p : Int) := by omega
          have i2 : (12 : Int) ≤ (p : Int) := by omega
          have i3 : 17 + (l.length : Int) ≤ (p : Int) := by omega
          have i4 : decide ((p : Int) < (K : Int) * 64 - 1) = false := decide_eq_false (by omega)
          have HEND := Lib.hid (show scanA (P.set p (bits .xor .u8 (P.getD p 0) (bits .or .u8 by_ 1))) = ([], 0) from scanA_none (HPC.out p _ (by rw [HPL.out]; exact hp) (by omega) (by rw [HPL.out]; omega) HY.out HY1.out HYN.out))
          have HSC := Lib.hid (fun wx hx => scan_any g 0 (K * 64) (K * 64) (P.set p (bits .xor .u8 (P.getD p 0) (bits .or .u8 by_ 1))) (by rw [List.length_set, HPL.out]) (by omega) (Nat.le_refl _) (bytes8_set HP8.out _ _ HY.out HY1.out) wx (RowAt.lt hx) (RowAt.cells hx))
          have HRX := Lib.hid (R3.out.set p (bits .xor .u8 (P.getD p 0) (bits .or .u8 by_ 1)))
          go_wp2_with fail
          clear cp zp
          refine (HSC.out _ HRX.out).mono ?_
          rintro e w4 ⟨v, rfl, hv, hb4⟩
          rw [HEND.out] at hv ⊢
          have HB4 := Lib.hid (below_call (below_set B3.out hgw) hb4)
          obtain ⟨A4, c4, rfl⟩ := recs_slice hv
          clear hv hb4 HSC HRX HEND
          go_wp2_with fail
          go_ret
          exact ⟨rfl, HB4.out⟩
end Go.Proofs.Ythdeecnppmheoaa
