/- blocks; awake. -/
import Derived.Test.YtcegkpgidineaaaWrite
namespace Go.Proofs.Ytcegkpgidineaaa
open Go.RowKit
/-- So many blocks of some bytes. -/
def fillF (n : Nat) (b : List Int) : List Int := (List.range (n * 64)).map fun i => b.getD (i % b.length) 0
theorem fillF_length (n : Nat) (b : List Int) : (fillF n b).length = n * 64 := by simp [fillF]
theorem fillF_8 (n : Nat) {b : List Int} (h : Bytes8 b) : Bytes8 (fillF n b) := fun x hx => by
  obtain ⟨i, _, rfl⟩ := List.mem_map.1 hx
  exact bytes8_get h _
def fillTo (n : Nat) (b : List Int) (k : Nat) : List Int := (List.range k).map (fun i => b.getD (i % b.length) 0) ++ z (n * 64 - k)
theorem fillTo_length (n : Nat) (b : List Int) (k : Nat) (h : k ≤ n * 64) : (fillTo n b k).length = n * 64 := by simp [fillTo, z]; omega
theorem fillTo_set (n : Nat) (b : List Int) (k : Nat) (h : k < n * 64) : (fillTo n b k).set k (b.getD (k % b.length) 0) = fillTo n b (k + 1) := by
  unfold fillTo
  have e : z (n * 64 - k) = 0 :: z (n * 64 - (k + 1)) := by
    unfold z; rw [show n * 64 - k = (n * 64 - (k + 1)) + 1 by omega, List.replicate_succ]
  rw [List.set_append_right _ _ (by simp), e]
  simp [List.range_succ]
theorem fillTo_last (n : Nat) (b : List Int) : fillTo n b (n * 64) = fillF n b := by simp [fillTo, z, fillF]
theorem fillTo_none (n : Nat) : z (n * 64) = fillF n [] := by
  apply List.ext_getElem?
  intro i
  simp only [z, fillF, List.getElem?_replicate, List.getElem?_map]
  split
  · rename_i h; rw [List.getElem?_range h]; rfl
  · rename_i h; rw [List.getElem?_eq_none (by simp; omega)]; rfl
/-- blocks' answer. -/
def FillIs (w : World) (l : List Int) (e : Ending) (w' : World) : Prop :=
  ∃ g, e = .returned (.slice (some ⟨g, 0, none⟩) l.length l.length) ∧ RowAt w' g l ∧ w.heap.size ≤ g ∧ Below w.heap.size w w'
set_option maxHeartbeats 1000000 in
theorem fill_any (n : Nat) (hn : n ≤ 4096) (A : Option Addr) (c : Nat) (b : List Int) (hb : b.length ≤ 4294967295) (w : World) (hA : Read8 w A b) :
    Calls Try.prog 17 #[.int .i64 n, .slice A b.length c] w (FillIs w (fillF n b)) := by
  have HA := Lib.hid hA
  have HF := Lib.hid (fillF_length n b)
  have HL := Lib.hid (fun k hk => fillTo_length n b k hk)
  have HS := Lib.hid (fun k hk => fillTo_set n b k hk)
  have HE := Lib.hid (fillTo_last n b)
  have H0 := Lib.hid (show fillTo n b 0 = z (n * 64) by simp [fillTo])
  have HN := Lib.hid (show b.length = 0 → z (n * 64) = fillF n b from fun h => by rw [List.length_eq_zero_iff.1 h]; exact fillTo_none n)
  generalize fillF n b = F at *
  clear hA
  obtain ⟨i0, hi, hz0, hz1, hz2⟩ := info_parts info5
  have HI := Lib.hid hi
  have HZ0 := Lib.hid hz0
  have HZ1 := Lib.hid hz1
  have HZ2 := Lib.hid hz2
  clear hi hz0 hz1 hz2
  go_enter Try.func17, Try.ntmps17
  go_wp2_with (at_make; refine wpList_make_full _ rfl (.tmp 8) (.tmp 8) 32 rfl w.heap.size 5 i0 (.int .u8 0) 1 Try.underlying32 HI.out HZ0.out HZ1.out .i64 .i64 ((n : Int) * 64) ((n : Int) * 64) (n * 64) rfl rfl (by omega) (by omega) ?b2 ?b3 ?b4 ?_)
  case b2 => rw [HZ2.out]; omega
  case b3 => simp only [maxLen]; omega
  case b4 => exact Nat.le_refl _
  intro w1 hown hg1
  have R1 := Lib.hid (show RowAt w1 w.heap.size (z (n * 64)) from row_made (B := w.heap.size) (by simpa [Value.cells] using hown))
  have B1 := Lib.hid (show Below w.heap.size w w1 from (Below.refl _ _).grown hg1 (Nat.le_refl _) (fun g hg => by cases hg))
  clear hown hg1
  go_wp2_with fail
  go_loopw [6] (fun s6 wr => ∃ k : Nat, s6 = .int .i64 k ∧ k ≤ n * 64 ∧ RowAt wr w.heap.size (fillTo n b k) ∧ Below w.heap.size w wr ∧ (b.length = 0 → k = 0)) (fun s6 _ => n * 64 - (intOf s6).toNat)
  case atStart => exact ⟨0, rfl, Nat.zero_le _, by rw [H0.out]; exact R1.out, B1.out, fun _ => rfl⟩
  case round =>
    obtain ⟨k, rfl, hk, hr, hbl, hz⟩ := hrel
    have HR := Lib.hid hr
    have HB := Lib.hid hbl
    have HZ := Lib.hid hz
    clear hr hbl hz R1 B1
    by_cases hlt : k < n * 64
    · have hlt' : (k : Int) < (n : Int) * 64 := by omega
      by_cases hb0 : 0 < b.length
      · have hkm : k % b.length < b.length := Nat.mod_lt _ hb0
        obtain ⟨bb, off, rfl, _, hc⟩ := (HA.out.keep HB.out).at hkm
        have hr := HR.out.cell k (by rw [HL.out k hk]; exact hlt)
        have hz := HR.out.melted k
        have HSK := Lib.hid (HS.out k hlt)
        have hm1 : (k : Int) % (b.length : Int) = ((k % b.length : Nat) : Int) := by omega
        have hm2 : (0 : Int) ≤ (k : Int) % (b.length : Int) := by omega
        have hm3 : (k : Int) % (b.length : Int) < (b.length : Int) := by omega
        have hm4 : ((k : Int) % (b.length : Int)).toNat = k % b.length := by omega
        have hne : ((b.length : Int) == 0) = false := beq_eq_false_iff_ne.2 (by omega)
        clear hm1
        generalize b.getD (k % b.length) 0 = x at *
        go_wp2
        go_roundw
        case rel => exact ⟨k + 1, by go_num, by omega, by rw [← HSK.out]; exact HR.out.set k x, below_set HB.out (Nat.le_refl _), fun h => by omega⟩
        case measure => simp [intOf]; omega
      · have hb0' : b.length = 0 := by omega
        have hd : decide (0 < b.length) = false := decide_eq_false (by omega)
        obtain rfl : k = 0 := HZ.out hb0'
        have HE0 := Lib.hid (HN.out hb0')
        clear hb0 hb0'
        go_wp2
        go_ret
        exact ⟨w.heap.size, by rw [HF.out]; rfl, by rw [← HE0.out, ← H0.out]; exact HR.out, Nat.le_refl _, HB.out⟩
    · obtain rfl : k = n * 64 := by omega
      go_wp2
      go_ret
      exact ⟨w.heap.size, by rw [HF.out]; rfl, by rw [← HE.out]; exact HR.out, Nat.le_refl _, HB.out⟩
/-- What awake has written. -/
def awL : List Int := 7 :: z 511
theorem aw_write : wrF 8 (z 512) 1 true false 0 (fillF 1 [7]) = (25, awL, 0, true) := by decide +kernel
theorem aw_read : piece awL 0 1 = 7 :: z 63 := by decide +kernel
set_option maxHeartbeats 2000000 in
theorem awake_any (w : World) : Calls Try.prog 8 #[] w fun e w' => e = .returned (.bool true) ∧ Below w.heap.size w w' := by
  have HAR := Lib.hid aw_read
  go_enter Try.func8, Try.ntmps8
  go_wp2_with fail
  refine (new_any 8 w).mono ?_
  rintro e w1 ⟨hb1, hh⟩
  rw [if_pos (by decide)] at hh
  obtain ⟨D, G, rfl, hD, hG, hd⟩ := hh
  have HB1 := Lib.hid hb1
  have HD1 := Lib.hid hd
  clear hb1 hd
  go_wp2_with fail
  refine (cut_any w1 HD1.out 1).mono ?_
  rintro e w2 ⟨rfl, hd2, hm2⟩
  have HD2 := Lib.hid (show DiskAt w2 D G 8 (z 512) 1 true false from hd2)
  have HB2 := Lib.hid (HB1.out.trans (hm2.below HB1.out.size hD hG))
  clear hd2 hm2
  go_wp2_with fail
  refine (fill_any 1 (by decide) (some ⟨w2.heap.size, 0, none⟩) 1 [7] (by decide) _ (.inr ⟨_, 0, rfl, by simp, fun i hi => ?_⟩)).mono ?_
  · obtain rfl : i = 0 := by simp at hi; omega
    simp
  rintro e w3 ⟨g, rfl, hr3, hg3, hb3⟩
  have HD3 := Lib.hid ((HD2.out.keep (below_new (Below.refl _ _) _)).keep hb3)
  have HB3 := Lib.hid (below_call (below_new HB2.out _) hb3)
  have HR3 := Lib.hid hr3
  have hne : g ≠ D ∧ g ≠ G := by
    have l1 := blk_lt HD2.out.top
    have l2 := HD2.out.row.lt
    simp at hg3
    omega
  clear hr3 hb3
  rw [show (fillF 1 [7]).length = 64 from rfl]
  have HWR := Lib.hid (write_any w3 HD3.out (by decide) (by decide) 0 (some ⟨g, 0, none⟩) 64 (fillF 1 [7]) (by decide) (by decide) (.inr ⟨g, 0, rfl, HR3.out.lt, HR3.out.cells⟩) (fun b off e => by cases e; exact hne))
  rw [show (fillF 1 [7]).length = 64 from rfl, aw_write] at HWR
  go_wp2_with fail
  refine HWR.out.mono ?_
  rintro e w4 ⟨rfl, hd4, hm4⟩
  have HD4 := Lib.hid hd4
  have HB4 := Lib.hid (HB3.out.trans (hm4.below HB3.out.size hD hG))
  clear hd4 hm4 HWR
  go_wp2_with fail
  refine (read_any w4 HD4.out 0 1).mono ?_
  rintro e w5 ⟨hb5, hh⟩
  rw [if_pos (by decide)] at hh
  obtain ⟨A, c, rfl, hf⟩ := hh
  simp only [HAR.out] at hf
  obtain ⟨b, off, rfl, _, k0⟩ := hf.read.at (i := 0) (by decide)
  obtain ⟨b', off', e', _, k1⟩ := hf.read.at (i := 1) (by decide)
  cases e'
  have HD5 := Lib.hid (HD4.out.keep hb5)
  have HB5 := Lib.hid (below_call HB4.out hb5)
  rw [show (7 :: z 63 : List Int).getD 0 0 = 7 from rfl, Nat.add_zero] at k0
  rw [show (7 :: z 63 : List Int).getD 1 0 = 0 from rfl] at k1
  rw [show (1 : Int).toNat * 64 = 64 from rfl]
  have HT := Lib.hid (torn_any w5 HD5.out)
  have HBL := Lib.hid (dblocks_any w5 HD5.out)
  clear hb5 hf
  go_wp2_with fail
  refine HT.out.mono ?_; rintro e w5 ⟨rfl, rfl⟩
  go_wp2_with fail
  refine HBL.out.mono ?_; rintro e w5 ⟨rfl, rfl⟩
  go_wp2_with fail
  go_ret
  exact ⟨rfl, HB5.out⟩
end Go.Proofs.Ytcegkpgidineaaa
