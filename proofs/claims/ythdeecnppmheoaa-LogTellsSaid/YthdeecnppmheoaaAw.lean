/- awake. -/
import Derived.Test.YthdeecnppmheoaaTorn
namespace Go.Proofs.Ythdeecnppmheoaa
open Go.RowKit
theorem packF_8 {q k : Int} {d : List Int} (hq0 : 0 ≤ q) (hq1 : q ≤ 4294967295) (hk0 : 0 ≤ k) (hk1 : k ≤ 255) (hl : (d.length : Int) ≤ 4294967295) (h8 : Bytes8 d) : Bytes8 (packF q k d) := fun x hx => by
  have hS := sumF_bd (bodyF q k d)
  unfold packF sh at hx
  simp only [List.mem_append, List.mem_singleton, List.mem_replicate] at hx
  rcases hx with h | h | h | rfl | h | h | ⟨_, rfl⟩ | rfl
  · exact magic8 x h
  · exact be4_8 _ hq0 hq1 x h
  · exact be4_8 _ (by omega) hl x h
  · exact ⟨hk0, hk1⟩
  · exact h8 x h
  · exact be4_8 _ hS.1 (by omega) x h
  · decide
  · decide
theorem scan_one (q k : Int) (d : List Int) (h : 1 ≤ q) : scanA (packF q k d) = ([(q, k, d)], (d.length + 81) / 64) := by
  have := scan_whole [(q, k, d)] [] ⟨by simp [stopF]; omega, by simp; omega, trivial⟩ (fun f => scanF_none (by simpa [z] using recAt_z 0) f _)
  simpa [joinF, blocksF] using this
/-- A row of records, laid open. -/
theorem recs_cells {a : Nat} {w : World} {v : Value} {gs : List Rec} (h : Recs a w v gs) (hne : gs ≠ []) : ∃ g cap, v = .slice (some ⟨g, 0, none⟩) gs.length cap ∧ a ≤ g ∧ gs.length ≤ cap ∧ g < w.heap.size ∧
    ∀ i r, gs[i]? = some r → ∃ D c, w.cell? ⟨g, i * 3, none⟩ = some (.int .u32 r.1) ∧ w.cell? ⟨g, i * 3 + 1, none⟩ = some (.int .u8 r.2.1) ∧ w.cell? ⟨g, i * 3 + 2, none⟩ = some (.slice D r.2.2.length c) ∧ Fresh8 a w D r.2.2 := by
  obtain ⟨xs, ⟨hx, hr⟩, hv⟩ := h
  rcases hr with ⟨_, hz⟩ | ⟨g, cap, cur, rfl, hg, hblk, hn, hcap, hcur, htake⟩
  · exact absurd (List.length_eq_zero_iff.1 hz) hne
  · have cellof : ∀ j u, xs[j]? = some u → w.cell? ⟨g, j, none⟩ = some u := fun j u hj => by
      rw [← htake, List.getElem?_take] at hj
      split at hj
      · simp only [World.cell?, hblk]; simpa using hj
      · cases hj
    refine ⟨g, cap, rfl, hg, hn, obj_lt hblk, fun i r hi => ?_⟩
    obtain ⟨D, c, h0, h1, h2, h3⟩ := hv i r hi
    rw [Nat.mul_comm] at h0 h1 h2
    exact ⟨D, c, cellof _ _ h0, cellof _ _ h1, cellof _ _ h2, h3⟩
set_option maxHeartbeats 2000000 in
theorem awake_any (w : World) : Calls Try.prog 7 #[] w fun e w' => e = .returned (.bool true) ∧ Below w.heap.size w w' := by
  have HS := Lib.hid (scan_one 1 7 [5] (by decide))
  have HPL := Lib.hid (packF_length 1 7 [5])
  have HP := Lib.hid (fun wx hx => pack_any 1 7 (by decide) (by decide) (by decide) (by decide) (some ⟨w.heap.size, 0, none⟩) 1 1 [5] rfl (by decide) (fun x hx => by simp at hx; omega) wx hx)
  go_enter Try.func7, Try.ntmps7
  go_wp2_with fail
  refine (HP.out _ (.inr ⟨_, 0, rfl, by simp, fun i hi => ?_⟩)).mono ?_
  · obtain rfl : i = 0 := by simp at hi; omega
    simp
  rintro e w1 ⟨g, rfl, hr1, hg1, hb1⟩
  have HSC := Lib.hid (scan_any g 0 (packF 1 7 [5]).length (packF 1 7 [5]).length (packF 1 7 [5]) rfl (by rw [HPL.out]; decide) (Nat.le_refl _) (packF_8 (by decide) (by decide) (by decide) (by decide) (by decide) (fun x hx => by simp at hx; omega)) w1 hr1.lt hr1.cells)
  have HB1 := Lib.hid (show Below w.heap.size w w1 from below_call (below_new (Below.refl _ _) _) hb1)
  clear hr1 hb1
  go_wp2_with fail
  refine HSC.out.mono ?_
  rintro e w2 ⟨v, rfl, hv, hb2⟩
  rw [HS.out] at hv ⊢
  obtain ⟨g2, cap, rfl, _, hcap, hlt2, hcs⟩ := recs_cells hv (by simp)
  obtain ⟨D, cD, k0, k1, k2, hf⟩ := hcs 0 _ rfl
  have HB2 := Lib.hid (below_call HB1.out hb2)
  have HF := Lib.hid hf.read
  have HE := Lib.hid (fun wx hx hy => bytes_any D (some ⟨w2.heap.size, 0, none⟩) 1 1 cD 1 [5] [5] rfl rfl (fun x hx => by simp at hx; omega) (fun x hx => by simp at hx; omega) wx hx hy)
  have HN := Lib.hid (fun wx => sum_nil none 0 wx)
  simp only [Nat.zero_mul, Nat.zero_add] at k0 k1 k2
  clear hcs hv hf hb2
  go_wp2_with fail
  refine (HE.out _ (Read8.keep HF.out (below_new (Below.refl _ _) _)) (.inr ⟨_, 0, rfl, by simp, fun i hi => ?_⟩)).mono ?_
  · obtain rfl : i = 0 := by simp at hi; omega
    simp
  rintro e w3 ⟨rfl, rfl⟩
  go_wp2_with fail
  refine (HN.out _).mono ?_
  rintro e w4 ⟨rfl, rfl⟩
  go_wp2_with fail
  go_ret
  exact ⟨rfl, below_new HB2.out _⟩
end Go.Proofs.Ythdeecnppmheoaa
