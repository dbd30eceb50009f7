/- DiskBounds walked. -/
import Derived.Test.YtcegkpgidineaaaAw
namespace Go.Proofs.Ytcegkpgidineaaa
open Go.RowKit
set_option maxHeartbeats 400000 in
theorem write_nil (a : Int) (A : Option Addr) (n c : Nat) (w : World) : Calls Try.prog 10 #[.pointer none, .int .i64 a, .slice A n c] w fun e w' => e = .returned (.int .i64 2) ∧ w' = w := by
  go_enter Try.func10, Try.ntmps10
  go_wp2
  go_ret
  exact ⟨rfl, rfl⟩
theorem wrF_left (N : Nat) (l : List Int) (left : Int) (torn : Bool) (a : Int) (bl : List Int) : (wrF N l left false torn a bl).2.2.1 = left := by
  unfold wrF; split
  · rfl
  · split
    · rfl
    · simp
theorem tmod20 (x : Int) : -19 ≤ x.tmod 20 ∧ x.tmod 20 ≤ 19 := by
  have h1 := Int.tmod_lt_of_pos x (show (0 : Int) < 20 by decide)
  have h2 := Int.lt_tmod_of_pos x (show (0 : Int) < 20 by decide)
  omega
theorem wrF_code (N K : Nat) (l : List Int) (a : Int) : (wrF N l 0 false false a (z (K * 64))).1 = if there N a K then 0 else 1 := by
  have hz : (z (K * 64)).length = K * 64 := by simp [z]
  have hk : ((K * 64 : Nat) : Int) / 64 = (K : Int) := by omega
  unfold wrF
  rw [hz, hk]
  rcases there N a (K : Int) with _ | _
  · simp
  · rw [if_neg (by simp)]; simp [cntF]
theorem wrF_five (N : Nat) (l : List Int) (left : Int) (cut torn : Bool) (a : Int) : (wrF N l left cut torn a (z 5)).1 = 1 := by
  unfold wrF; rw [if_pos (.inr (by decide))]
theorem make5 (w : World) : (Instr.makeSlice 32 (.int .i64 5) (.int .i64 5)).run Try.prog w = .ok (.slice (some ⟨w.heap.size, 0, none⟩) 5 5) (w.alloc (.cells #[.int .u8 0, .int .u8 0, .int .u8 0, .int .u8 0, .int .u8 0] 5)) := by kernel_rfl
set_option maxHeartbeats 4000000 in
set_option maxRecDepth 100000 in
theorem bounds_any (n a0 k0 : Int) (w : World) : Calls Try.prog 5 #[.int .i64 n, .int .i64 a0, .int .i64 k0] w fun e w' => e = .returned (.bool true) ∧ Below w.heap.size w w' := by
  obtain ⟨ha1, ha2⟩ := tmod20 a0
  obtain ⟨hk1, hk2⟩ := tmod20 k0
  have HAW := Lib.hid (fun wx => awake_any wx)
  obtain ⟨i0, hi, hz0, hz1, hz2⟩ := info_parts info5
  have HI := Lib.hid hi
  have HZ0 := Lib.hid hz0
  have HZ1 := Lib.hid hz1
  have HZ2 := Lib.hid hz2
  clear hi hz0 hz1 hz2
  go_enter Try.func5, Try.ntmps5
  go_wp2_with fail
  refine (new_any n w).mono ?_
  rintro e w1 ⟨hb1, hh⟩
  have HB1 := Lib.hid hb1
  clear hb1
  obtain ⟨p, cd, rfl, hp⟩ : ∃ (p : Option Addr) (cd : Int), e = .returned (.tuple #[.pointer p, .int .i64 cd]) ∧ (if sizeOk n then cd = 0 ∧ p.isSome = true else cd = 1 ∧ p = none) := by
    split at hh
    · rename_i hs
      obtain ⟨D, G, rfl, _⟩ := hh
      exact ⟨_, _, rfl, by rw [if_pos hs]; exact ⟨rfl, rfl⟩⟩
    · rename_i hs
      exact ⟨_, _, hh, by rw [if_neg hs]; exact ⟨rfl, rfl⟩⟩
  have HP := Lib.hid hp
  clear hh hp
  go_upto_region 2 with fail
  go_cut [9] (fun s9 wx => s9 = .bool (sizeOk n) ∧ wx = w1)
  case first =>
    by_cases h1 : n < 8
    · have hs : sizeOk n = false := by simp [sizeOk]; omega
      have HS := Lib.hid hs
      clear hs
      go_wp2_with fail
      go_meet
      exact ⟨by rw [HS.out], rfl⟩
    have h1' : 8 ≤ n := by omega
    by_cases h2 : 4096 < n
    · have HS := Lib.hid (show sizeOk n = false by simp [sizeOk]; omega)
      clear h1
      go_wp2_with fail
      go_meet
      exact ⟨by rw [HS.out], rfl⟩
    have h2' : n ≤ 4096 := by omega
    by_cases h3 : n % 2 = 0
    · have HS := Lib.hid (show sizeOk n = true by simp [sizeOk]; omega)
      have h3' : (n % 2 == 0) = true := beq_iff_eq.2 h3
      clear h1 h2 h3
      go_wp2_with fail
      go_meet
      exact ⟨by rw [HS.out], rfl⟩
    · have HS := Lib.hid (show sizeOk n = false by simp [sizeOk]; omega)
      have h3' : (n % 2 == 0) = false := beq_eq_false_iff_ne.2 h3
      clear h1 h2 h3
      go_wp2_with fail
      go_meet
      exact ⟨by rw [HS.out], rfl⟩
  case rest =>
    obtain ⟨rfl, rfl⟩ := hcut
    go_wp2_with fail
    refine (new_any 10 _).mono ?_
    rintro e w2 ⟨hb2, hh⟩
    rw [if_pos (by decide)] at hh
    obtain ⟨D, G, rfl, hD, hG, hd⟩ := hh
    have HB2 := Lib.hid (below_call HB1.out hb2)
    have HD2 := Lib.hid (show DiskAt w2 D G 10 (z 640) 0 false false from hd)
    clear hb2 hd
    go_wp2_with fail
    generalize a0.tmod 20 = a at *
    generalize k0.tmod 20 = k at *
    refine (read_any w2 HD2.out a k).mono ?_
    rintro e w3 ⟨hb3, hh⟩
    have HB3 := Lib.hid (below_call HB2.out hb3)
    have HD3 := Lib.hid (HD2.out.keep hb3)
    obtain ⟨A3, n3, c3, cd3, rfl, hp3⟩ : ∃ A m c cd, e = .returned (.tuple #[.slice A m c, .int .i64 cd]) ∧ cd = if there 10 a k then 0 else 1 := by
      split at hh
      · rename_i hs
        obtain ⟨A, c, rfl, _⟩ := hh
        exact ⟨_, _, _, _, rfl, by rw [if_pos hs]⟩
      · rename_i hs
        exact ⟨_, _, _, _, hh, by rw [if_neg hs]⟩
    have HP3 := Lib.hid hp3
    clear hh hp3 hb3
    go_upto_region 8 with fail
    go_cut [14] (fun s14 wx => s14 = .bool (there 10 a k) ∧ wx = w3)
    case first =>
      by_cases h1 : a < 0
      · have HS := Lib.hid (show there 10 a k = false by simp [there]; omega)
        go_wp2_with fail
        go_meet
        exact ⟨by rw [HS.out], rfl⟩
      have h1' : 0 ≤ a := by omega
      by_cases h2 : k < 0
      · have HS := Lib.hid (show there 10 a k = false by simp [there]; omega)
        clear h1
        go_wp2_with fail
        go_meet
        exact ⟨by rw [HS.out], rfl⟩
      have h2' : 0 ≤ k := by omega
      have HS := Lib.hid (show there 10 a k = decide (a + k ≤ 10) by simp [there, h1', h2'])
      clear h1 h2
      go_wp2_with fail
      go_meet
      exact ⟨by rw [HS.out], rfl⟩
    case rest =>
      obtain ⟨rfl, rfl⟩ := hcut
      obtain ⟨K, hK, hK2⟩ : ∃ K : Nat, max 0 k = (K : Int) ∧ K ≤ 19 := ⟨(max 0 k).toNat, by omega, by omega⟩
      have HK := Lib.hid (show 0 ≤ k → (K : Int) = k by omega)
      go_wp2_with (at_make; refine wpList_make_full _ rfl (.tmp 72) (.tmp 72) 32 rfl wc.heap.size 5 i0 (.int .u8 0) 1 Try.underlying32 HI.out HZ0.out HZ1.out .i64 .i64 _ _ (K * 64) rfl rfl (by first | (rw [hK]; omega) | omega) (by first | (rw [hK]; omega) | omega) ?b2 ?b3 ?b4 ?_)
      case b2 => rw [HZ2.out]; omega
      case b3 => simp only [maxLen]; omega
      case b4 => exact Nat.le_refl _
      intro w4 hown hg4
      have R4 := Lib.hid (show RowAt w4 wc.heap.size (z (K * 64)) from row_made (B := wc.heap.size) (by simpa [Value.cells] using hown))
      have b4 : Below wc.heap.size wc w4 := (Below.refl _ _).grown hg4 (Nat.le_refl _) (fun g hg => by cases hg)
      have HB4 := Lib.hid (below_call HB3.out b4)
      have HD4 := Lib.hid (HD3.out.keep b4)
      have hzl : (z (K * 64)).length = K * 64 := by simp [z]
      have l1 := blk_lt HD3.out.top
      have l2 := HD3.out.row.lt
      have HWR := Lib.hid (write_any w4 HD4.out (by decide) (by decide) a (some ⟨wc.heap.size, 0, none⟩) (K * 64) (z (K * 64)) (by rw [hzl]; exact Nat.le_refl _) (by rw [hzl]; omega) (.inr ⟨_, 0, rfl, R4.out.lt, R4.out.cells⟩) (fun b off e => by cases e; exact ⟨by omega, by omega⟩))
      rw [hzl] at HWR
      have HC := Lib.hid (wrF_code 10 K (z 640) a)
      have HLF := Lib.hid (wrF_left 10 (z 640) 0 false a (z (K * 64)))
      generalize wrF 10 (z 640) 0 false false a (z (K * 64)) = R at *
      obtain ⟨code, l', left', torn'⟩ := R
      clear hown hg4 b4 l1 l2 hzl hK
      go_wp2_with fail
      refine HWR.out.mono ?_
      rintro e w5 ⟨rfl, hd5, hm5⟩
      have HD5 := Lib.hid hd5
      have HB5 := Lib.hid (HB4.out.trans (hm5.below HB4.out.size (Nat.le_trans (by have := HB1.out.size; omega) hD) (Nat.le_trans (by have := HB1.out.size; omega) hG)))
      clear hd5 hm5 HWR
      simp only at HD5 HC HLF ⊢
      go_wp2_with fail
      refine (cut_nil 1 w5).mono ?_; rintro e w5 ⟨rfl, rfl⟩
      go_wp2_with fail
      refine (mend_nil w5).mono ?_; rintro e w5 ⟨rfl, rfl⟩
      go_wp2_with fail
      refine (read_nil 0 0 w5).mono ?_; rintro e w5 ⟨rfl, rfl⟩
      go_wp2_with fail
      refine (HAW.out w5).mono ?_
      rintro e w6 ⟨rfl, hb6⟩
      have HD6 := Lib.hid (HD5.out.keep hb6)
      have HB6 := Lib.hid (below_call HB5.out hb6)
      clear hb6
      obtain ⟨sz, hs⟩ : ∃ sz, sizeOk n = sz := ⟨_, rfl⟩
      obtain ⟨th, ht⟩ : ∃ th, there 10 a k = th := ⟨_, rfl⟩
      have HTK := Lib.hid (show th = true → 0 ≤ k from fun h => (there_bd (ht.trans h)).2.1)
      have HC2 := Lib.hid (show 0 ≤ k → code = if th then 0 else 1 from fun h => by rw [HC.out, HK.out h, ht])
      rw [hs] at HP
      rw [ht] at HP3
      rw [hs, ht]
      clear hs ht
      have hm5 := fun w => make5 w
      obtain rfl : left' = 0 := HLF.out
      have hwD : w.heap.size ≤ D := Nat.le_trans (by have := HB1.out.size; omega) hD
      have hwG : w.heap.size ≤ G := Nat.le_trans (by have := HB1.out.size; omega) hG
      have HW5 := Lib.hid (write_any (w6.alloc (.cells #[.int .u8 0, .int .u8 0, .int .u8 0, .int .u8 0, .int .u8 0] 5)) (HD6.out.keep (below_new (Below.refl _ _) _)) (by decide) (by decide) 0 (some ⟨w6.heap.size, 0, none⟩) 5 (z 5) (by decide) (by decide) (.inr ⟨_, 0, rfl, by simp, fun i hi => by
        have : i = 0 ∨ i = 1 ∨ i = 2 ∨ i = 3 ∨ i = 4 := by simp [z] at hi; omega
        rcases this with rfl | rfl | rfl | rfl | rfl <;> exact cell_top0 rfl⟩) (fun b off e => by
        cases e
        have l1 := blk_lt HD6.out.top
        have l2 := HD6.out.row.lt
        exact ⟨by omega, by omega⟩))
      rw [show (z 5).length = 5 from rfl] at HW5
      have HC5 := Lib.hid (wrF_five 10 l' 0 false torn' 0)
      generalize wrF 10 l' 0 false torn' 0 (z 5) = R5 at *
      rcases sz with _ | _
      · obtain ⟨rfl, rfl⟩ : cd = 1 ∧ p = none := by simpa using HP.out
        clear HP
        rcases th with _ | _
        · obtain rfl : cd3 = 1 := by simpa using HP3.out
          by_cases hk : k < 0
          · clear HC2
            go_wp2_with fail
            refine HW5.out.mono ?_; rintro e w7 ⟨rfl, hd7, hm7⟩
            rw [HC5.out]
            have HB7 := Lib.hid ((below_new HB6.out _).trans (hm7.below (below_new HB6.out (.cells #[.int .u8 0, .int .u8 0, .int .u8 0, .int .u8 0, .int .u8 0] 5)).size hwD hwG))
            clear hd7 hm7 HW5
            go_wp2_with fail
            refine (write_nil 0 none 0 0 w7).mono ?_; rintro e w7 ⟨rfl, rfl⟩
            go_wp2_with fail
            refine (torn_nil w7).mono ?_; rintro e w7 ⟨rfl, rfl⟩
            go_wp2_with fail
            refine (dblocks_nil w7).mono ?_; rintro e w7 ⟨rfl, rfl⟩
            go_wp2_with fail
            go_ret
            exact ⟨rfl, HB7.out⟩
          · obtain rfl : code = 1 := by simpa using HC2.out (by omega)
            have hk' : 0 ≤ k := by omega
            clear hk
            go_wp2_with fail
            refine HW5.out.mono ?_; rintro e w7 ⟨rfl, hd7, hm7⟩
            rw [HC5.out]
            have HB7 := Lib.hid ((below_new HB6.out _).trans (hm7.below (below_new HB6.out (.cells #[.int .u8 0, .int .u8 0, .int .u8 0, .int .u8 0, .int .u8 0] 5)).size hwD hwG))
            clear hd7 hm7 HW5
            go_wp2_with fail
            refine (write_nil 0 none 0 0 w7).mono ?_; rintro e w7 ⟨rfl, rfl⟩
            go_wp2_with fail
            refine (torn_nil w7).mono ?_; rintro e w7 ⟨rfl, rfl⟩
            go_wp2_with fail
            refine (dblocks_nil w7).mono ?_; rintro e w7 ⟨rfl, rfl⟩
            go_wp2_with fail
            go_ret
            exact ⟨rfl, HB7.out⟩
        · obtain rfl : cd3 = 0 := by simpa using HP3.out
          have hk' : 0 ≤ k := HTK.out rfl
          obtain rfl : code = 0 := by simpa using HC2.out hk'
          go_wp2_with fail
          refine HW5.out.mono ?_; rintro e w7 ⟨rfl, hd7, hm7⟩
          rw [HC5.out]
          have HB7 := Lib.hid ((below_new HB6.out _).trans (hm7.below (below_new HB6.out (.cells #[.int .u8 0, .int .u8 0, .int .u8 0, .int .u8 0, .int .u8 0] 5)).size hwD hwG))
          clear hd7 hm7 HW5
          go_wp2_with fail
          refine (write_nil 0 none 0 0 w7).mono ?_; rintro e w7 ⟨rfl, rfl⟩
          go_wp2_with fail
          refine (torn_nil w7).mono ?_; rintro e w7 ⟨rfl, rfl⟩
          go_wp2_with fail
          refine (dblocks_nil w7).mono ?_; rintro e w7 ⟨rfl, rfl⟩
          go_wp2_with fail
          go_ret
          exact ⟨rfl, HB7.out⟩
      · obtain ⟨rfl, hps⟩ : cd = 0 ∧ p.isSome = true := by simpa using HP.out
        clear HP
        obtain ⟨q, rfl⟩ := Option.isSome_iff_exists.1 hps
        clear hps
        rcases th with _ | _
        · obtain rfl : cd3 = 1 := by simpa using HP3.out
          by_cases hk : k < 0
          · clear HC2
            go_wp2_with fail
            refine HW5.out.mono ?_; rintro e w7 ⟨rfl, hd7, hm7⟩
            rw [HC5.out]
            have HB7 := Lib.hid ((below_new HB6.out _).trans (hm7.below (below_new HB6.out (.cells #[.int .u8 0, .int .u8 0, .int .u8 0, .int .u8 0, .int .u8 0] 5)).size hwD hwG))
            clear hd7 hm7 HW5
            go_wp2_with fail
            refine (write_nil 0 none 0 0 w7).mono ?_; rintro e w7 ⟨rfl, rfl⟩
            go_wp2_with fail
            refine (torn_nil w7).mono ?_; rintro e w7 ⟨rfl, rfl⟩
            go_wp2_with fail
            refine (dblocks_nil w7).mono ?_; rintro e w7 ⟨rfl, rfl⟩
            go_wp2_with fail
            go_ret
            exact ⟨rfl, HB7.out⟩
          · obtain rfl : code = 1 := by simpa using HC2.out (by omega)
            have hk' : 0 ≤ k := by omega
            clear hk
            go_wp2_with fail
            refine HW5.out.mono ?_; rintro e w7 ⟨rfl, hd7, hm7⟩
            rw [HC5.out]
            have HB7 := Lib.hid ((below_new HB6.out _).trans (hm7.below (below_new HB6.out (.cells #[.int .u8 0, .int .u8 0, .int .u8 0, .int .u8 0, .int .u8 0] 5)).size hwD hwG))
            clear hd7 hm7 HW5
            go_wp2_with fail
            refine (write_nil 0 none 0 0 w7).mono ?_; rintro e w7 ⟨rfl, rfl⟩
            go_wp2_with fail
            refine (torn_nil w7).mono ?_; rintro e w7 ⟨rfl, rfl⟩
            go_wp2_with fail
            refine (dblocks_nil w7).mono ?_; rintro e w7 ⟨rfl, rfl⟩
            go_wp2_with fail
            go_ret
            exact ⟨rfl, HB7.out⟩
        · obtain rfl : cd3 = 0 := by simpa using HP3.out
          have hk' : 0 ≤ k := HTK.out rfl
          obtain rfl : code = 0 := by simpa using HC2.out hk'
          go_wp2_with fail
          refine HW5.out.mono ?_; rintro e w7 ⟨rfl, hd7, hm7⟩
          rw [HC5.out]
          have HB7 := Lib.hid ((below_new HB6.out _).trans (hm7.below (below_new HB6.out (.cells #[.int .u8 0, .int .u8 0, .int .u8 0, .int .u8 0, .int .u8 0] 5)).size hwD hwG))
          clear hd7 hm7 HW5
          go_wp2_with fail
          refine (write_nil 0 none 0 0 w7).mono ?_; rintro e w7 ⟨rfl, rfl⟩
          go_wp2_with fail
          refine (torn_nil w7).mono ?_; rintro e w7 ⟨rfl, rfl⟩
          go_wp2_with fail
          refine (dblocks_nil w7).mono ?_; rintro e w7 ⟨rfl, rfl⟩
          go_wp2_with fail
          go_ret
          exact ⟨rfl, HB7.out⟩
end Go.Proofs.Ytcegkpgidineaaa
