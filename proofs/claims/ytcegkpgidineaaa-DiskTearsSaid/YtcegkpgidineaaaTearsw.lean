/- DiskTears: the walk. -/
import Derived.Test.YtcegkpgidineaaaTears
namespace Go.Proofs.Ytcegkpgidineaaa
open Go.RowKit
theorem Moved.rowAt {w w' : World} {D G g : Nat} {l : List Int} (h : Moved w w' D G) (hr : RowAt w g l) (h1 : g ≠ D) (h2 : g ≠ G) : RowAt w' g l := (h.block g hr.lt h1 h2).trans hr
theorem Moved.fresh {w w' : World} {D G a : Nat} {A : Option Addr} {l : List Int} (h : Moved w w' D G) (hf : Fresh8 a w A l) (h1 : D < a) (h2 : G < a) : Fresh8 a w' A l := by
  rcases hf with hf | ⟨b, off, cur, sp, rfl, hab, hb, hc⟩
  · exact .inl hf
  · have e := h.block b (obj_lt hb) (by omega) (by omega)
    exact .inr ⟨b, off, cur, sp, rfl, hab, e.trans hb, fun i hi => (World.cell?_of_block e).trans (hc i hi)⟩
theorem u64_mod (x : Int) (m : Nat) (hm : 0 < m) (hmm : m < 4294967296) : ∃ r : Nat, r < m ∧ wrap64 ((IntKind.u64.wrap x).tmod (m : Int)) = (r : Int) := by
  have h0 : 0 ≤ IntKind.u64.wrap x := by unfold IntKind.wrap; simp [IntKind.signed, IntKind.bits]; omega
  rw [Int.tmod_eq_emod_of_nonneg h0]
  have h1 := Int.emod_nonneg (IntKind.u64.wrap x) (b := (m : Int)) (by omega)
  have h2 := Int.emod_lt_of_pos (IntKind.u64.wrap x) (b := (m : Int)) (by omega)
  generalize IntKind.u64.wrap x % (m : Int) = y at *
  exact ⟨y.toNat, by omega, by rw [IntWalk.wrap64_in _ (by omega)]; omega⟩
theorem wr_whole (l x : List Int) (a : Nat) (hx : x.length = 128) (ha : a < 14) : wrF 16 l 0 false false a x = (0, spl l (a * 64) x, 0, false) := by
  have ht : there 16 (a : Int) ((x.length : Int) / 64) = true := by rw [hx]; simp [there]; omega
  unfold wrF
  rw [if_neg (by rw [ht]; simp [hx]), if_neg (by decide)]
  simp [cntF]
theorem wr_cut (l x : List Int) (a m : Nat) (hx : x.length = 128) (ha : a < 14) : wrF 16 l m true false a x = (if m < 128 then 25 else 0, spl l (a * 64) (x.take (min 128 m)), (m : Int) - (min 128 m : Nat), decide (m < 128)) := by
  have ht : there 16 (a : Int) ((x.length : Int) / 64) = true := by rw [hx]; simp [there]; omega
  unfold wrF
  rw [if_neg (by rw [ht]; simp [hx]), if_neg (by decide)]
  have hd : (min 128 m < 128) = (m < 128) := by simp; omega
  simp [cntF, hx, hd]
theorem wr_none (l : List Int) (a m : Nat) (ha : a < 14) : wrF 16 l m true false a [] = ((0 : Int), l, (m : Int), false) := by
  have ht : there 16 (a : Int) 0 = true := by simp [there]; omega
  unfold wrF
  rw [if_neg (by simp [ht]), if_neg (by decide)]
  simp [cntF, spl]
theorem wr_torn (l x : List Int) (a : Nat) (m : Int) (hx : x.length % 64 = 0) (ha : a + x.length / 64 ≤ 16) : wrF 16 l m true true a x = (25, l, m, true) := by
  have ht : there 16 (a : Int) ((x.length : Int) / 64) = true := by simp [there]; omega
  unfold wrF
  rw [if_neg (by rw [ht]; simp [hx]), if_pos rfl]
theorem bytes8_spl {l cs : List Int} {off : Nat} (h : Bytes8 l) (hc : Bytes8 cs) : Bytes8 (spl l off cs) := bytes8_append (bytes8_take h _) (bytes8_append hc (bytes8_drop h _))
theorem piece_all (l : List Int) (h : l.length = 1024) : piece l 0 16 = l := by
  unfold piece; rw [show (0 : Int).toNat * 64 = 0 from rfl, List.drop_zero, List.take_of_length_le (by rw [h]; decide)]
set_option maxHeartbeats 1000000 in
set_option maxRecDepth 100000 in
theorem tears_any (Aa Ab : Option Addr) (ca cb : Nat) (la lb : List Int) (at_ to_ cut : Int) (hla : la.length ≤ ca) (hlb : lb.length ≤ cb) (h8a : Bytes8 la) (h8b : Bytes8 lb) (w : World) (hA : Read8 w Aa la) (hB : Read8 w Ab lb) :
    Calls Try.prog 4 #[.slice Aa la.length ca, .slice Ab lb.length cb, .int .i64 at_, .int .i64 to_, .int .i64 cut] w fun e w' => e = .returned (.bool true) ∧ Below w.heap.size w w' := by
  have HAW := Lib.hid (fun wx => awake_any wx)
  have HA := Lib.hid hA
  have HB := Lib.hid hB
  have H8A := Lib.hid h8a
  have H8B := Lib.hid h8b
  clear hA hB h8a h8b
  by_cases hba : (300 : Int) < (la.length : Int)
  · go_enter Try.func4, Try.ntmps4
    go_wp2_with fail
    refine (HAW.out w).mono ?_
    rintro e w1 ⟨rfl, hb1⟩
    have HB1 := Lib.hid hb1
    clear hb1
    go_wp2_with fail
    go_ret
    exact ⟨rfl, HB1.out⟩
  have hba' : (la.length : Int) ≤ 300 := by omega
  by_cases hbb : (300 : Int) < (lb.length : Int)
  · clear hba
    go_enter Try.func4, Try.ntmps4
    go_wp2_with fail
    refine (HAW.out w).mono ?_
    rintro e w1 ⟨rfl, hb1⟩
    have HB1 := Lib.hid hb1
    clear hb1
    go_wp2_with fail
    go_ret
    exact ⟨rfl, HB1.out⟩
  have hbb' : (lb.length : Int) ≤ 300 := by omega
  clear hba hbb
  obtain ⟨a, ha, hae⟩ := u64_mod at_ 14 (by decide) (by decide)
  obtain ⟨t, ht, hte⟩ := u64_mod to_ 14 (by decide) (by decide)
  obtain ⟨m, hm, hme⟩ := u64_mod cut 300 (by decide) (by decide)
  have hae : wrap64 ((IntKind.u64.wrap at_).tmod 14) = (a : Int) := hae
  have hte : wrap64 ((IntKind.u64.wrap to_).tmod 14) = (t : Int) := hte
  have hme : wrap64 ((IntKind.u64.wrap cut).tmod 300) = (m : Int) := hme
  have HX8 := Lib.hid (fillF_8 2 H8A.out)
  have HY8 := Lib.hid (fillF_8 2 H8B.out)
  have HXL := Lib.hid (fillF_length 2 la)
  have HYL := Lib.hid (fillF_length 2 lb)
  have HFA := Lib.hid (fun wx hx => fill_any 2 (by decide) Aa ca la (by omega) wx hx)
  have HFB := Lib.hid (fun wx hx => fill_any 2 (by decide) Ab cb lb (by omega) wx hx)
  generalize fillF 2 la = x at *
  generalize fillF 2 lb = y at *
  go_enter Try.func4, Try.ntmps4
  go_wp2_with fail
  refine (new_any 16 w).mono ?_
  rintro e w1 ⟨hb1, hh⟩
  rw [if_pos (by decide)] at hh
  obtain ⟨D, G, rfl, hD, hG, hd⟩ := hh
  have HB1 := Lib.hid hb1
  have HD1 := Lib.hid (show DiskAt w1 D G 16 (z 1024) 0 false false from hd)
  clear hb1 hd
  go_wp2_with fail
  refine (HAW.out w1).mono ?_
  rintro e w2 ⟨rfl, hb2⟩
  have HB2 := Lib.hid (below_call HB1.out hb2)
  have HD2 := Lib.hid (HD1.out.keep hb2)
  clear hb2
  go_wp2_with fail
  refine (HFA.out w2 (HA.out.keep HB2.out)).mono ?_
  rintro e w3 ⟨gx, rfl, hr3, hg3, hb3⟩
  have l1 := blk_lt HD2.out.top
  have l2 := HD2.out.row.lt
  have HB3 := Lib.hid (below_call HB2.out hb3)
  have HD3 := Lib.hid (HD2.out.keep hb3)
  have HX3 := Lib.hid hr3
  have nx : gx ≠ D ∧ gx ≠ G := ⟨by omega, by omega⟩
  have hs3 := hb3.size
  clear hb3 hr3
  go_wp2_with fail
  refine (HFB.out w3 (HB.out.keep HB3.out)).mono ?_
  rintro e w4 ⟨gy, rfl, hr4, hg4, hb4⟩
  have HB4 := Lib.hid (below_call HB3.out hb4)
  have HD4 := Lib.hid (HD3.out.keep hb4)
  have HX4 := Lib.hid (HX3.out.keep hb4)
  have HY4 := Lib.hid hr4
  have ny : gy ≠ D ∧ gy ≠ G := ⟨by omega, by omega⟩
  have hs4 := hb4.size
  have hD4 : D < w4.heap.size := by omega
  have hG4 : G < w4.heap.size := by omega
  clear hb4 hr4 hg3 hg4 l1 l2 hs3 hs4
  simp only [HXL.out, HYL.out]
  have hxl : x.length = 128 := HXL.out
  have hyl : y.length = 128 := HYL.out
  have HXL := Lib.hid hxl
  have HYL := Lib.hid hyl
  clear hxl hyl
  go_wp2_with fail
  simp only [hae, hte, hme]
  clear hae hte hme
  have HWX := Lib.hid (write_any w4 HD4.out (by decide) (by decide) a (some ⟨gx, 0, none⟩) 128 x (by rw [HXL.out]; decide) (by rw [HXL.out]; decide) (.inr ⟨gx, 0, rfl, HX4.out.lt, HX4.out.cells⟩) (fun b off e => by cases e; exact nx))
  rw [wr_whole (z 1024) x a HXL.out ha, HXL.out] at HWX
  refine HWX.out.mono ?_
  rintro e w5 ⟨rfl, hd5, hm5⟩
  have HL1 := Lib.hid (show (spl (z 1024) (a * 64) x).length = 1024 by rw [spl_len (by rw [HXL.out]; simp [z]; omega)]; simp [z])
  have HL18 := Lib.hid (show Bytes8 (spl (z 1024) (a * 64) x) from bytes8_spl (bytes8_z _) HX8.out)
  generalize spl (z 1024) (a * 64) x = l1 at *
  have HD5 := Lib.hid (show DiskAt w5 D G 16 l1 0 false false from hd5)
  have HB5 := Lib.hid (HB4.out.trans (hm5.below HB4.out.size hD hG))
  have HX5 := Lib.hid (hm5.rowAt HX4.out nx.1 nx.2)
  have HY5 := Lib.hid (hm5.rowAt HY4.out ny.1 ny.2)
  have hD5 : D < w5.heap.size := Nat.lt_of_lt_of_le hD4 hm5.size
  have hG5 : G < w5.heap.size := Nat.lt_of_lt_of_le hG4 hm5.size
  clear hd5 hm5 HWX hD4 hG4
  go_wp2_with fail
  refine (read_any w5 HD5.out 0 16).mono ?_
  rintro e w6 ⟨hb6, hh⟩
  rw [if_pos (by decide), piece_all l1 HL1.out] at hh
  obtain ⟨Aw, cw, rfl, hf6⟩ := hh
  rw [show (16 : Int).toNat * 64 = 1024 from rfl]
  have HD6 := Lib.hid (HD5.out.keep hb6)
  have HB6 := Lib.hid (below_call HB5.out hb6)
  have HX6 := Lib.hid (HX5.out.keep hb6)
  have HY6 := Lib.hid (HY5.out.keep hb6)
  have HF6 := Lib.hid hf6
  clear hb6 hf6
  go_wp2_with fail
  refine (cut_any w6 HD6.out m).mono ?_
  rintro e w7 ⟨rfl, hd7, hm7⟩
  have HD7 := Lib.hid (show DiskAt w7 D G 16 l1 (m : Int) true false from by rw [show max (m : Int) 0 = (m : Int) by omega] at hd7; exact hd7)
  have HB7 := Lib.hid (HB6.out.trans (hm7.below HB6.out.size hD hG))
  have HX7 := Lib.hid (hm7.rowAt HX6.out nx.1 nx.2)
  have HY7 := Lib.hid (hm7.rowAt HY6.out ny.1 ny.2)
  have HF7 := Lib.hid (hm7.fresh HF6.out hD5 hG5)
  clear hd7 hm7
  have HWY := Lib.hid (write_any w7 HD7.out (by omega) (by omega) t (some ⟨gy, 0, none⟩) 128 y (by rw [HYL.out]; decide) (by rw [HYL.out]; decide) (.inr ⟨gy, 0, rfl, HY7.out.lt, HY7.out.cells⟩) (fun b off e => by cases e; exact ny))
  rw [wr_cut l1 y t m HYL.out ht, HYL.out] at HWY
  obtain ⟨p, hp⟩ : ∃ p, min 128 m = p := ⟨_, rfl⟩
  rw [hp] at HWY
  have hp1 : p ≤ 128 := by omega
  have hp2 : p ≤ m := by omega
  have HP := Lib.hid hp
  clear hp
  go_wp2_with fail
  refine HWY.out.mono ?_
  rintro e w8 ⟨rfl, hd8, hm8⟩
  have HL2 := Lib.hid (show (spl l1 (t * 64) (y.take (p))).length = 1024 by rw [spl_len (by rw [List.length_take, HYL.out, HL1.out]; omega)]; exact HL1.out)
  generalize hl2 : spl l1 (t * 64) (y.take (p)) = l2 at hd8 HL2
  have HL2E := Lib.hid hl2
  clear hl2
  have HL28' := Lib.hid (show Bytes8 l2 from by rw [← HL2E.out]; exact bytes8_spl HL18.out (bytes8_take HY8.out _))
  have HD8 := Lib.hid (show DiskAt w8 D G 16 l2 ((m : Int) - (p : Nat)) true (decide (m < 128)) from hd8)
  have HB8 := Lib.hid (HB7.out.trans (hm8.below HB7.out.size hD hG))
  have HX8' := Lib.hid (hm8.rowAt HX7.out nx.1 nx.2)
  have HY8' := Lib.hid (hm8.rowAt HY7.out ny.1 ny.2)
  have HF8 := Lib.hid (hm8.fresh HF7.out hD5 hG5)
  clear hd8 hm8 HWY
  simp only
  obtain ⟨tr, htr⟩ : ∃ tr, decide (m < 128) = tr := ⟨_, rfl⟩
  obtain ⟨M, hM⟩ : ∃ M : Nat, (m : Int) - (p : Nat) = (M : Int) := ⟨m - p, by omega⟩
  rw [htr, hM] at HD8
  have HTR := Lib.hid htr
  have HMB := Lib.hid (show M ≤ 300 by omega)
  rw [show (if m < 128 then (25 : Int) else 0) = if tr then 25 else 0 by rw [← htr]; simp]
  obtain ⟨cd8, hcd8⟩ : ∃ cd8 : Int, (if tr then 25 else 0) = cd8 := ⟨_, rfl⟩
  rw [hcd8]
  have HCD8 := Lib.hid hcd8
  clear htr hM hcd8
  have HWN := Lib.hid (write_any w8 HD8.out (by omega) (by have := HMB.out; omega) a none 0 [] (by decide) (by decide) (.inl rfl) (fun b off e => by cases e))
  obtain ⟨M9, cd9, hcd9, hR9, hM9⟩ : ∃ (M9 : Nat) (cd : Int), (cd = if tr then 25 else 0) ∧ wrF 16 l2 M true tr a [] = (cd, l2, (M9 : Int), tr) ∧ M9 ≤ 300 := by
    rcases tr with _ | _
    · exact ⟨M, 0, rfl, wr_none l2 a M ha, HMB.out⟩
    · exact ⟨M, 25, rfl, wr_torn l2 [] a M rfl (by simp; omega), HMB.out⟩
  rw [hR9] at HWN
  have HCD9 := Lib.hid hcd9
  have HM9 := Lib.hid hM9
  clear hR9 hcd9 hM9
  go_wp2_with fail
  refine HWN.out.mono ?_
  rintro e w9 ⟨rfl, hd9, hm9⟩
  have HD9 := Lib.hid (show DiskAt w9 D G 16 l2 (M9 : Int) true tr from hd9)
  have HB9 := Lib.hid (HB8.out.trans (hm9.below HB8.out.size hD hG))
  have HX9 := Lib.hid (hm9.rowAt HX8'.out nx.1 nx.2)
  have HY9 := Lib.hid (hm9.rowAt HY8'.out ny.1 ny.2)
  have HF9 := Lib.hid (hm9.fresh HF8.out hD5 hG5)
  clear hd9 hm9 HWN
  simp only
  go_wp2_with fail
  refine (read_any w9 HD9.out 0 16).mono ?_
  rintro e w10 ⟨hb10, hh⟩
  rw [if_pos (by decide), piece_all l2 HL2.out] at hh
  obtain ⟨An, cn, rfl, hf10⟩ := hh
  rw [show (16 : Int).toNat * 64 = 1024 from rfl]
  have HD10 := Lib.hid (HD9.out.keep hb10)
  have HB10 := Lib.hid (below_call HB9.out hb10)
  have HX10 := Lib.hid (HX9.out.keep hb10)
  have HY10 := Lib.hid (HY9.out.keep hb10)
  have HF10 := Lib.hid (HF9.out.keep hb10)
  have HN10 := Lib.hid hf10
  have hD10 : D < w10.heap.size := blk_lt HD10.out.top
  have hG10 : G < w10.heap.size := HD10.out.row.lt
  clear hb10 hf10
  obtain ⟨bw, offw, rfl, _, _⟩ := HF10.out.read.at (i := 0) (by rw [HL1.out]; decide)
  go_wp2_with (at_builtin; refine append8 rfl (.const (.slice none 0 0)) (.tmp 98) rfl w10.heap.size _ [] rfl (Own8.nil _ _) (some ⟨bw, offw, none⟩) 1024 cw l1 rfl HL1.out.symm HF10.out.read (fun h => by cases h) ?hmax ?hbase ?_)
  case hmax => decide
  case hbase => exact Nat.le_refl _
  intro A11 c11 w11 hown11 hb11 _
  have b11 := hb11 w10 (Below.refl _ _)
  have hl1ne : l1 ≠ [] := fun h => by have := HL1.out; rw [h] at this; cases this
  obtain ⟨g11, rfl, _, hg11, _, hc11, _⟩ := hown11.out.row hl1ne
  have HF11 := Lib.hid hown11.out.filled
  rw [HL1.out] at hc11 ⊢
  have HD11 := Lib.hid (HD10.out.keep b11)
  have HB11 := Lib.hid (below_call HB10.out b11)
  have HX11 := Lib.hid (HX10.out.keep b11)
  have HY11 := Lib.hid (HY10.out.keep b11)
  have HN11 := Lib.hid (HN10.out.read.keep b11)
  have hY11 := HY10.out.lt
  clear hown11 hb11 hl1ne b11
  go_upto_region 18 with fail
  have hmin : min (m : Int) 128 = (p : Int) := by have := HP.out; omega
  go_cut [] (fun wx => Filled wx g11 c11 l2 ∧ Moved w11 wx g11 g11)
  case first =>
    have u1 : IntKind.i64.wrap ((t : Int) * 64) = (t : Int) * 64 := IntWalk.i64_in _ (by omega)
    have u2 : ((t : Int) * 64).toNat = t * 64 := by omega
    have u3 : (0 : Int) ≤ (t : Int) * 64 := by omega
    have u4 : (t : Int) * 64 ≤ 1024 := by omega
    have u5 : ¬ c11 = t * 64 := by omega
    have u6 : (t : Int) * 64 ≤ (c11 : Int) := by omega
    have u7 : (p : Int) ≤ 128 := by omega
    have hfl := HF11.out
    have hyt : p = (y.take p).length := by rw [List.length_take, HYL.out]; omega
    have hrd : Read8 w11 (some ⟨gy, 0, none⟩) (y.take p) := read8_take HY11.out.lt HY11.out.cells p
    have HFL := Lib.hid hfl
    have HYTL := Lib.hid hyt
    have HRD := Lib.hid hrd
    clear hfl hyt hrd
    go_region_law (refine step_copy8 rfl (.tmp 103) (.tmp 109) rfl g11 (t * 64) (1024 - t * 64) (c11 - t * 64) (by simp [Act.eval, Act.put]) (some ⟨gy, 0, none⟩) p 128 (by simp [Act.eval, Act.put]) c11 l1 (y.take p) HFL.out HYTL.out (by omega) (by rw [HL1.out]; omega) HRD.out ?_; intro wz hfz hmz)
    all_goals
      go_wp2_with fail
      go_meet
      exact ⟨by rw [← HL2E.out]; exact hfz.out, hmz.os, hmz.tape, hmz.output, hmz.size, hmz.block⟩
  case rest =>
    obtain ⟨hfz, hmz⟩ := hcut
    have hw10 := HB10.out.size
    have hgx := HX10.out.lt
    have hwg : w.heap.size ≤ g11 := by omega
    have HB12 := Lib.hid (HB11.out.trans (hmz.below HB11.out.size hwg hwg))
    have HD12 := Lib.hid (hmz.disk HD11.out (by omega) (by omega) (by omega) (by omega))
    have HX12 := Lib.hid (hmz.rowAt HX11.out (by omega) (by omega))
    obtain ⟨bn, offn, rfl, hbn, _⟩ := HN10.out.read.at (i := 0) (by rw [HL2.out]; decide)
    have hfr : D < w9.heap.size ∧ G < w9.heap.size := ⟨blk_lt HD9.out.top, HD9.out.row.lt⟩
    have nn : bn ≠ D ∧ bn ≠ G := by
      rcases HN10.out with h | ⟨b, o, _, _, e, hab, _⟩
      · have := HL2.out; rw [h] at this; cases this
      · cases e; omega
    have ng : g11 ≠ D ∧ g11 ≠ G := ⟨by omega, by omega⟩
    have HN12 := Lib.hid (hmz.read HN11.out (fun b off e => by cases e; exact ⟨by omega, by omega⟩))
    have HF12 := Lib.hid hfz.reads
    have HL28 := Lib.hid HL28'.out
    have hM9 := HM9.out
    have HWZ := Lib.hid (write_any wc HD12.out (by omega) (by omega) a (some ⟨gx, 0, none⟩) 128 x (by rw [HXL.out]; decide) (by rw [HXL.out]; decide) (.inr ⟨gx, 0, rfl, HX12.out.lt, HX12.out.cells⟩) (fun b off e => by cases e; exact nx))
    rw [HXL.out] at HWZ
    have HRT := Lib.hid (show tr = true → (wrF 16 l2 M9 true tr a x).1 = 25 from fun h => by rw [h, wr_torn l2 x a M9 (by rw [HXL.out]) (by rw [HXL.out]; omega)])
    generalize wrF 16 l2 M9 true tr a x = R at *
    obtain ⟨cdz, lz, mz, tz⟩ := R
    simp only at HWZ HRT
    clear hfz hmz hw10 hgx hwg hbn hfr hM9
    rcases tr with _ | _
    · obtain rfl : cd8 = 0 := HCD8.out.symm
      obtain rfl : cd9 = 0 := HCD9.out
      have hmm : (128 : Int) ≤ (m : Int) := by have := HTR.out; simp at this; omega
      go_wp2_with fail
      refine HWZ.out.mono ?_
      rintro e w13 ⟨rfl, hd13, hm13⟩
      have HD13 := Lib.hid hd13
      have HB13 := Lib.hid (HB12.out.trans (hm13.below HB12.out.size hD hG))
      have HX13 := Lib.hid (hm13.rowAt HX12.out nx.1 nx.2)
      have HN13 := Lib.hid (hm13.read HN12.out (fun b off e => by cases e; exact nn))
      have HF13 := Lib.hid (hm13.read HF12.out (fun b off e => by cases e; exact ng))
      clear hd13 hm13 HWZ
      go_wp2_with fail
      refine (mend_any w13 HD13.out).mono ?_
      rintro e w14 ⟨rfl, hd14, hm14⟩
      have HD14 := Lib.hid hd14
      have HB14 := Lib.hid (HB13.out.trans (hm14.below HB13.out.size hD hG))
      have HX14 := Lib.hid (hm14.rowAt HX13.out nx.1 nx.2)
      have HN14 := Lib.hid (hm14.read HN13.out (fun b off e => by cases e; exact nn))
      have HF14 := Lib.hid (hm14.read HF13.out (fun b off e => by cases e; exact ng))
      clear hd14 hm14
      go_wp2_with fail
      refine (bytes_any (some ⟨bn, offn, none⟩) (some ⟨g11, 0, none⟩) 1024 1024 cn c11 l2 l2 HL2.out.symm HL2.out.symm HL28.out HL28.out w14 HN14.out HF14.out).mono ?_
      rintro e w14 ⟨rfl, rfl⟩
      rw [decide_eq_true (rfl : l2 = l2)]
      go_wp2_with fail
      refine (torn_any w14 HD14.out).mono ?_
      rintro e w14 ⟨rfl, rfl⟩
      have HWL := Lib.hid (write_any w14 HD14.out (by decide) (by decide) a (some ⟨gx, 0, none⟩) 128 x (by rw [HXL.out]; decide) (by rw [HXL.out]; decide) (.inr ⟨gx, 0, rfl, HX14.out.lt, HX14.out.cells⟩) (fun b off e => by cases e; exact nx))
      rw [wr_whole _ x a HXL.out ha, HXL.out] at HWL
      go_wp2_with fail
      refine HWL.out.mono ?_
      rintro e w15 ⟨rfl, hd15, hm15⟩
      have HB15 := Lib.hid (HB14.out.trans (hm15.below HB14.out.size hD hG))
      clear hd15 hm15 HWL
      go_wp2_with fail
      go_ret
      exact ⟨rfl, HB15.out⟩
    · obtain rfl : cd8 = 25 := HCD8.out.symm
      obtain rfl : cd9 = 25 := HCD9.out
      obtain rfl : cdz = 25 := HRT.out rfl
      have hmm : (m : Int) < 128 := by have := HTR.out; simp at this; omega
      go_wp2_with fail
      refine HWZ.out.mono ?_
      rintro e w13 ⟨rfl, hd13, hm13⟩
      have HD13 := Lib.hid hd13
      have HB13 := Lib.hid (HB12.out.trans (hm13.below HB12.out.size hD hG))
      have HX13 := Lib.hid (hm13.rowAt HX12.out nx.1 nx.2)
      have HN13 := Lib.hid (hm13.read HN12.out (fun b off e => by cases e; exact nn))
      have HF13 := Lib.hid (hm13.read HF12.out (fun b off e => by cases e; exact ng))
      clear hd13 hm13 HWZ
      go_wp2_with fail
      refine (mend_any w13 HD13.out).mono ?_
      rintro e w14 ⟨rfl, hd14, hm14⟩
      have HD14 := Lib.hid hd14
      have HB14 := Lib.hid (HB13.out.trans (hm14.below HB13.out.size hD hG))
      have HX14 := Lib.hid (hm14.rowAt HX13.out nx.1 nx.2)
      have HN14 := Lib.hid (hm14.read HN13.out (fun b off e => by cases e; exact nn))
      have HF14 := Lib.hid (hm14.read HF13.out (fun b off e => by cases e; exact ng))
      clear hd14 hm14
      go_wp2_with fail
      refine (bytes_any (some ⟨bn, offn, none⟩) (some ⟨g11, 0, none⟩) 1024 1024 cn c11 l2 l2 HL2.out.symm HL2.out.symm HL28.out HL28.out w14 HN14.out HF14.out).mono ?_
      rintro e w14 ⟨rfl, rfl⟩
      rw [decide_eq_true (rfl : l2 = l2)]
      go_wp2_with fail
      refine (torn_any w14 HD14.out).mono ?_
      rintro e w14 ⟨rfl, rfl⟩
      have HWL := Lib.hid (write_any w14 HD14.out (by decide) (by decide) a (some ⟨gx, 0, none⟩) 128 x (by rw [HXL.out]; decide) (by rw [HXL.out]; decide) (.inr ⟨gx, 0, rfl, HX14.out.lt, HX14.out.cells⟩) (fun b off e => by cases e; exact nx))
      rw [wr_whole _ x a HXL.out ha, HXL.out] at HWL
      go_wp2_with fail
      refine HWL.out.mono ?_
      rintro e w15 ⟨rfl, hd15, hm15⟩
      have HB15 := Lib.hid (HB14.out.trans (hm15.below HB14.out.size hD hG))
      clear hd15 hm15 HWL
      go_wp2_with fail
      go_ret
      exact ⟨rfl, HB15.out⟩
end Go.Proofs.Ytcegkpgidineaaa
