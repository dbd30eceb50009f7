/- next: the record that stands. -/
import Derived.Test.YthdeecnppmheoaaNext
namespace Go.Proofs.Ythdeecnppmheoaa
open Go.RowKit
theorem Has8.set {w : World} {b off : Nat} {l : List Int} {a : Addr} {v : Value} (h : Has8 w b off l) (hne : a.block ≠ b) : Has8 (w.setCell a v) b off l := fun i hi => cell_far hne (h i hi)
set_option maxHeartbeats 6000000 in
theorem next_ok (b off n c : Nat) (l : List Int) (hn : n = l.length) (h64 : (64 : Int) ≤ (n : Int)) (hmax : n ≤ 140737488351232) (hc : n ≤ c) (h8 : Bytes8 l) (w : World) (hlt : b < w.heap.size) (hcell : Has8 w b off l) (hm : l.take 4 = magic) (hk : (numAt l 8 + 81) / 64 ≤ n / 64) (hw : l.getD ((numAt l 8 + 81) / 64 * 64 - 1) 0 = 1) (hsum : (numAt l (13 + numAt l 8) : Int) = sumF ((l.drop 4).take (numAt l 8 + 9))) :
    Calls Try.prog 19 #[.slice (some ⟨b, off, none⟩) n c] w (IsRec w (numAt l 4) (l.getD 12 0) ((l.drop 13).take (numAt l 8)) ((numAt l 8 + 81) / 64)) := by
  have kc := magic_const w
  have HP := Lib.hid (hasPrefix_any b off n c (some ⟨w.heap.size + 1, 0, none⟩) 4 4 l magic hn rfl (by omega) hc h8 magic8 _ (by simp; omega) (fun i hi => cell_old (cell_old (hcell i hi))) (magic_read w))
  have HM := Lib.hid (decide_eq_true hm)
  obtain ⟨_, hN⟩ := numAt_eq h8 8
  have HG := Lib.hid (fun wx hx => get_at b off 8 (n - 8) (c - 8) l h8 (by omega) (by omega) wx hx)
  have HB := Lib.hid (blocks_nat (numAt l 8) hN)
  have hlast := hcell ((numAt l 8 + 81) / 64 * 64 - 1) (by omega)
  have HH := Lib.hid hcell
  have HG2 := Lib.hid (fun wx hx => get_at b off (13 + numAt l 8) (n - (13 + numAt l 8)) (c - (13 + numAt l 8)) l h8 (by omega) (by omega) wx hx)
  have HS2 := Lib.hid (fun wx hx => sum_any (some ⟨b, off + 4, none⟩) (13 + numAt l 8 - 4) (c - 4) ((l.drop 4).take (numAt l 8 + 9)) (by simp; omega) wx (by simp; omega) (bytes8_take (bytes8_drop h8 4) _) hx)
  have HR2 := Lib.hid (fun wx (hx : Has8 wx b off l) (hb : b < wx.heap.size) => has8_mid hx hb 4 (numAt l 8 + 9))
  have HSN := Lib.hid (show ((numAt l (13 + numAt l 8) : Int) == sumF ((l.drop 4).take (numAt l 8 + 9))) = true from beq_iff_eq.2 hsum)
  have HG4 := Lib.hid (fun wx hx => get_at b off 4 (n - 4) (c - 4) l h8 (by omega) (by omega) wx hx)
  have HCL := Lib.hid (fun wx hx => clone_any b (off + 13) (numAt l 8) (c - 13) ((l.drop 13).take (numAt l 8)) (by simp; omega) (by simp; omega) wx hx)
  have HLD := Lib.hid (show ((l.drop 13).take (numAt l 8)).length = numAt l 8 by simp; omega)
  have HMD := Lib.hid (fun wx (hx : Has8 wx b off l) => has8_piece hx 13 (numAt l 8))
  have h12 := hcell 12 (by omega)
  generalize l.getD 12 0 = x12 at *
  generalize (l.drop 13).take (numAt l 8) = data at *
  generalize numAt l 4 = Q at *
  generalize sumF ((l.drop 4).take (numAt l 8 + 9)) = S at *
  generalize numAt l (13 + numAt l 8) = G at *
  generalize numAt l 8 = N at *
  obtain ⟨K, hK⟩ : ∃ K, (N + 81) / 64 = K := ⟨_, rfl⟩
  rw [hK] at hk HB hw hlast ⊢
  have hk1 : 1 ≤ K := by omega
  have hk' : (K : Int) ≤ (n : Int) / 64 := by omega
  have hkn : 64 * K ≤ n := by omega
  have hNK : N + 18 ≤ 64 * K := by omega
  have HX := Lib.hid (show (l.getD (K * 64 - 1) 0 == (1 : Int)) = true from beq_iff_eq.2 hw)
  generalize l.getD (K * 64 - 1) 0 = x at *
  clear hcell hm hn h8 hk hK hw hsum
  go_enter Try.func19, Try.ntmps19
  go_wp2_with fail
  refine HP.out.mono ?_; rintro e w1 ⟨rfl, rfl⟩
  simp only [HM.out]
  go_wp2_with fail
  refine (HG.out _ HH.out.old.old).mono ?_
  rintro e w2 ⟨rfl, m, rfl⟩
  go_wp2_with fail
  refine (HB.out _).mono ?_; rintro e w3 ⟨rfl, rfl⟩
  go_wp2_with fail
  have hx := HX.out
  have hx2 : (x != (1 : Int)) = false := by rw [bne, hx]; rfl
  have hw1 : IntKind.i64.wrap ((n : Int) / 64) = (n : Int) / 64 := IntWalk.i64_in _ (by omega)
  have hg1 : decide ((n : Int) / 64 < (K : Int)) = false := decide_eq_false (by omega)
  have hw2 : IntKind.i64.wrap ((K : Int) * 64) = (K : Int) * 64 := IntWalk.i64_in _ (by omega)
  have hw3 : IntKind.i64.wrap ((K : Int) * 64 - 1) = (K : Int) * 64 - 1 := IntWalk.i64_in _ (by omega)
  have hw4 : ((K : Int) * 64 - 1).toNat = K * 64 - 1 := by omega
  have hp0 : (0 : Int) ≤ (K : Int) * 64 - 1 := by omega
  have hp1 : (K : Int) * 64 - 1 < (n : Int) := by omega
  have hp2 : (1 : Int) ≤ (K : Int) * 64 := by omega
  have hp3 : (K : Int) * 64 ≤ (n : Int) := by omega
  have hw5 : IntKind.i64.wrap (13 + (N : Int)) = 13 + (N : Int) := IntWalk.i64_in _ (by omega)
  have hw6 : (13 + (N : Int)).toNat = 13 + N := by omega
  have hp4 : (0 : Int) ≤ 13 + (N : Int) := by omega
  have hp5 : (13 : Int) + (N : Int) ≤ (n : Int) := by omega
  have hp6 : (13 : Int) + (N : Int) ≤ (c : Int) := by omega
  have hp7 : (4 : Int) ≤ 13 + (N : Int) := by omega
  have hgs := HSN.out
  have hgs2 : ((G : Int) != S) = false := by rw [bne, hgs]; rfl
  go_quiet ((first | (go_at_call 27; exact quiet_add' (HG2.out _ HH.out.old.old.drewN)) | (go_at_call 11; exact quiet_again (HS2.out _ (HR2.out _ HH.out.old.old.drewN (by simp; omega))))))
  clear hw1 hg1 hw2 hw3 hw4 hx hx2 hgs hgs2
  go_wp2_with fail
  have hq1 : (4 : Int) ≤ (n : Int) := by omega
  have hq2 : (12 : Int) < (n : Int) := by omega
  have hq3 : (13 : Int) ≤ 13 + (N : Int) := by omega
  have hq4 : (4 : Int) ≤ (c : Int) := by omega
  have hq5 : ¬ c = 4 := by omega
  have hq6 : ¬ c = 13 := by omega
  have hne1 : w.heap.size ≠ b := by omega
  have hh := HH.out
  go_region_held3 (fun w' => Has8 w' b off l ∧ w'.cell? ⟨b, off + 12, none⟩ = some (.int .u8 x12)) (first | exact ⟨by (repeat (first | (with_reducible exact hh) | (with_reducible exact hh2) | (with_reducible refine Has8.drewN ?_) | (with_reducible refine Has8.drew ?_) | (with_reducible refine Has8.old ?_) | (with_reducible refine Has8.set ?_ hne1))), by (repeat (first | (with_reducible exact h12) | (with_reducible refine cell_drewN ?_) | (with_reducible refine cell_drew ?_) | (with_reducible refine cell_old ?_) | (with_reducible refine cell_far hne1 ?_) | (with_reducible refine keep_cell hbc ?_)))⟩) (first | (go_at_call 27; refine (HG4.out _ (by change Has8 _ b off l; (repeat (first | (with_reducible exact hh) | (with_reducible exact hh2) | (with_reducible refine Has8.drewN ?_) | (with_reducible refine Has8.drew ?_) | (with_reducible refine Has8.old ?_))))).mono ?_; rintro e wg ⟨rfl, mg, rfl⟩) | (go_at_call 28; refine (HCL.out _ (HMD.out _ (by change Has8 _ b off l; (repeat (first | (with_reducible exact hh) | (with_reducible exact hh2) | (with_reducible refine Has8.drewN ?_) | (with_reducible refine Has8.drew ?_) | (with_reducible refine Has8.old ?_)))))).mono ?_; rintro e wc ⟨Ac, cc, rfl, hrc, hbc⟩; have hh2 : Has8 wc b off l := Has8.keep (by (repeat (first | (with_reducible exact hh) | (with_reducible exact hh2) | (with_reducible refine Has8.drewN ?_) | (with_reducible refine Has8.drew ?_) | (with_reducible refine Has8.old ?_)))) hbc; have b2 : wc.heap[w.heap.size]? = some (.cells #[.int .u32 0, .int .u8 0, .slice none 0 0] 34) := keep_blk hbc (by (repeat (first | ((with_reducible refine heap_top' ?_); simp; done) | (with_reducible refine heap_drew ?_) | (with_reducible refine heap_drewN ?_) | (with_reducible refine heap_old ?_)))); have hB2 : Below w.heap.size w wc := below_call (by (repeat (first | (with_reducible exact Below.refl _ _) | (with_reducible refine below_new ?_ _) | (with_reducible refine Below.drew ?_) | (with_reducible refine below_drewNs ?_)))) hbc; obtain ⟨c2, z2⟩ := blk_cells b2; have l2 := blk_lt b2; have B2 := Lib.hid b2; clear b2))
  all_goals
    go_wp2_with fail
    refine bodyPost_ret (v := .tuple #[.agg #[.int .u32 Q, .int .u8 x12, .slice Ac data.length cc], .int .i64 K]) ?_ rfl ⟨Ac, cc, rfl, ?_, ?_⟩
    · have b3 := heap_set_same (i := 2) (v := .slice Ac data.length cc) (heap_set_same (i := 1) (v := .int .u8 x12) (heap_set_same (i := 0) (v := .int .u32 Q) B2.out))
      obtain ⟨c3, _⟩ := blk_cells b3
      simp [results, Try.results19, go_sem, c3]
    · exact ((((hrc.mono (a' := w.heap.size + 1) (by simp)).set (by simp)).set (by simp)).set (by simp)).mono (by simp)
    · repeat (first | (with_reducible exact hB2) | (with_reducible refine below_set ?_ (Nat.le_refl _)))
end Go.Proofs.Ythdeecnppmheoaa
