/- Plain laws: a record with one byte changed. -/
import Derived.Test.YthdeecnppmheoaaChange
namespace Go.Proofs.Ythdeecnppmheoaa
theorem set_get (l : List Int) (i j : Nat) (y : Int) (h : i ≠ j) : (l.set i y).getD j 0 = l.getD j 0 := by
  rw [List.getD_eq_getElem?_getD, List.getElem?_set_ne h, List.getD_eq_getElem?_getD]
theorem set_here (l : List Int) (i : Nat) (y : Int) (h : i < l.length) : (l.set i y).getD i 0 = y := by
  rw [List.getD_eq_getElem?_getD, List.getElem?_set_self h]; rfl
theorem numAt_set (l : List Int) (i j : Nat) (y : Int) (h : i < j ∨ j + 4 ≤ i) : numAt (l.set i y) j = numAt l j := by
  unfold numAt
  rw [set_get _ _ _ _ (by omega), set_get _ _ _ _ (by omega), set_get _ _ _ _ (by omega), set_get _ _ _ _ (by omega)]
theorem numAt_ne {l : List Int} (h8 : Bytes8 l) (i j : Nat) (y : Int) (h : j ≤ i ∧ i < j + 4) (hi : i < l.length) (hy0 : 0 ≤ y) (hy1 : y ≤ 255) (hne : y ≠ l.getD i 0) : numAt (l.set i y) j ≠ numAt l j := by
  obtain ⟨a0, a1⟩ := bytes8_get h8 j
  obtain ⟨b0, b1⟩ := bytes8_get h8 (j + 1)
  obtain ⟨c0, c1⟩ := bytes8_get h8 (j + 2)
  obtain ⟨d0, d1⟩ := bytes8_get h8 (j + 3)
  unfold numAt getF
  rcases (show i = j ∨ i = j + 1 ∨ i = j + 2 ∨ i = j + 3 by omega) with rfl | rfl | rfl | rfl
  · rw [set_here _ _ _ hi, set_get _ _ _ _ (by omega), set_get _ _ _ _ (by omega), set_get _ _ _ _ (by omega)]; omega
  · rw [set_here _ _ _ hi, set_get _ _ _ _ (by omega), set_get _ _ _ _ (by omega), set_get _ _ _ _ (by omega)]; omega
  · rw [set_here _ _ _ hi, set_get _ _ _ _ (by omega), set_get _ _ _ _ (by omega), set_get _ _ _ _ (by omega)]; omega
  · rw [set_here _ _ _ hi, set_get _ _ _ _ (by omega), set_get _ _ _ _ (by omega), set_get _ _ _ _ (by omega)]; omega
theorem pack_facts (q k : Int) (d : List Int) : (packF q k d).take 4 = magic ∧ numAt (packF q k d) 8 = d.length ∧ numAt (packF q k d) (13 + d.length) = (sumF (bodyF q k d)).toNat ∧ ((packF q k d).drop 4).take (d.length + 9) = bodyF q k d ∧ (packF q k d).getD ((d.length + 81) / 64 * 64 - 1) 0 = 1 := by
  refine ⟨rfl, ?_, ?_, ?_, ?_⟩
  · have := numAt_pack q k d []; rwa [List.append_nil] at this
  · have := numAt_at (magic ++ be4 q ++ be4 d.length ++ [k] ++ d) (List.replicate (padN d.length) 0 ++ [1]) (sumF (bodyF q k d)) (13 + d.length) (by simp [magic, be4]; omega)
    simpa [packF, sh, List.append_assoc] using this
  · exact sh_body _ _ _ _ _ _ _ rfl rfl rfl rfl
  · have := getD_at (magic ++ be4 q ++ be4 d.length ++ [k] ++ d ++ be4 (sumF (bodyF q k d)) ++ List.replicate (padN d.length) 0) [] 1 ((d.length + 81) / 64 * 64 - 1) (by simp [magic, be4, padN]; omega)
    simpa [packF, sh, List.append_assoc] using this
theorem body_set (l : List Int) (i m : Nat) (y : Int) (h4 : 4 ≤ i) (_him : i < 4 + m) : ((l.set i y).drop 4).take m = ((l.drop 4).take m).set (i - 4) y := by
  rw [List.drop_set, if_neg (by omega), List.take_set]
theorem body_far (l : List Int) (i m : Nat) (y : Int) (h : i < 4 ∨ 4 + m ≤ i) : ((l.set i y).drop 4).take m = (l.drop 4).take m := by
  rw [List.drop_set]
  split
  · rfl
  · rw [List.take_set, List.set_eq_of_length_le (by simp; omega)]
/-- One byte changed (but for the length and the 0s): no record. -/
theorem recAt_changed (q k : Int) (d : List Int) (h8 : Bytes8 (packF q k d)) (at_ : Nat) (y : Int) (hat : at_ < (packF q k d).length) (hn : ¬ (8 ≤ at_ ∧ at_ < 12)) (hr : at_ < 17 + d.length ∨ at_ = (packF q k d).length - 1) (hy0 : 0 ≤ y) (hy1 : y ≤ 255) (hne : y ≠ (packF q k d).getD at_ 0) :
    recAt ((packF q k d).set at_ y) = none := by
  obtain ⟨f4, f8, f13, fb, fl⟩ := pack_facts q k d
  have hl := packF_length q k d
  have hS := sumF_bd (bodyF q k d)
  have hbl : (bodyF q k d).length = d.length + 9 := by simp [bodyF, be4]
  have hb8 : Bytes8 (bodyF q k d) := by rw [← fb]; exact bytes8_take (bytes8_drop h8 4) _
  have e8 : numAt ((packF q k d).set at_ y) 8 = d.length := by rw [numAt_set _ _ _ _ (by omega), f8]
  unfold recAt
  rw [e8, if_neg]
  rintro ⟨_, c1, _, c3, c4⟩
  rcases Nat.lt_or_ge at_ 4 with h | h
  · have h2 : ((packF q k d).set at_ y).getD at_ 0 = (packF q k d).getD at_ 0 := by
      have g1 : ∀ l : List Int, l.getD at_ 0 = (l.take 4).getD at_ 0 := fun l => by rw [List.getD_eq_getElem?_getD, List.getD_eq_getElem?_getD, List.getElem?_take, if_pos h]
      rw [g1, c1, g1 (packF q k d), f4]
    rw [set_here _ _ _ hat] at h2
    exact hne h2
  · rcases Nat.lt_or_ge at_ (13 + d.length) with h2 | h2
    · rw [numAt_set _ _ _ _ (by omega), f13, body_set _ _ _ _ h (by omega), fb] at c4
      refine sumF_set (bodyF q k d) hb8 (at_ - 4) y (by omega) hy0 hy1 ?_ (by omega)
      rw [← fb, List.getD_eq_getElem?_getD, List.getElem?_take, if_pos (by omega), List.getElem?_drop, show 4 + (at_ - 4) = at_ by omega, ← List.getD_eq_getElem?_getD]
      exact hne
    · rw [body_far _ _ _ _ (by omega), fb] at c4
      rcases Nat.lt_or_ge at_ (17 + d.length) with h3 | h3
      · have := numAt_ne h8 at_ (13 + d.length) y (by omega) hat hy0 hy1 hne
        rw [f13] at this
        omega
      · obtain rfl : at_ = (d.length + 81) / 64 * 64 - 1 := by omega
        rw [set_here _ _ _ hat] at c3
        exact hne (by rw [c3, fl])
/-- Changed among the 0s: the same record. -/
theorem recAt_pad (q k : Int) (d : List Int) (hq : 0 ≤ q) (at_ : Nat) (y : Int) (h0 : 17 + d.length ≤ at_) (h1 : at_ < (packF q k d).length - 1) :
    recAt ((packF q k d).set at_ y) = some ((q, k, d), (d.length + 81) / 64) := by
  obtain ⟨f4, f8, f13, fb, fl⟩ := pack_facts q k d
  have hl := packF_length q k d
  have hp := recAt_pack q k d [] hq
  rw [List.append_nil] at hp
  rw [← hp]
  have t4 : ((packF q k d).set at_ y).take 4 = (packF q k d).take 4 := by rw [List.take_set, List.set_eq_of_length_le (by simp; omega)]
  have t13 : (((packF q k d).set at_ y).drop 13).take d.length = ((packF q k d).drop 13).take d.length := by
    rw [List.drop_set, if_neg (by omega), List.take_set, List.set_eq_of_length_le (by simp; omega)]
  unfold recAt
  rw [numAt_set _ _ 8 _ (by omega), f8, numAt_set _ _ (13 + d.length) _ (by omega), numAt_set _ _ 4 _ (by omega), body_far _ _ _ _ (by omega), t4, t13, set_get _ _ 12 _ (by omega), set_get _ _ ((d.length + 81) / 64 * 64 - 1) _ (by omega), List.length_set]
end Go.Proofs.Ythdeecnppmheoaa
