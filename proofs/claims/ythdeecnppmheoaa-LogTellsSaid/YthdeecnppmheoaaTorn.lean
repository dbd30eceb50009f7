/- Plain laws: a torn record is none; nor are bytes that are 0. -/
import Derived.Test.YthdeecnppmheoaaJoin
namespace Go.Proofs.Ythdeecnppmheoaa
theorem getD_z (j i : Nat) : (z j).getD i 0 = 0 := by
  unfold z
  rw [List.getD_eq_getElem?_getD, List.getElem?_replicate]; split <;> rfl
theorem torn_in (p : List Int) (m j i : Nat) (hm : m ≤ p.length) (hi : i < m) : (p.take m ++ z j).getD i 0 = p.getD i 0 := by
  rw [List.getD_eq_getElem?_getD, List.getElem?_append_left (by simp; omega), List.getElem?_take, if_pos hi, List.getD_eq_getElem?_getD]
theorem torn_out (p : List Int) (m j i : Nat) (hm : m ≤ p.length) (hi : m ≤ i) : (p.take m ++ z j).getD i 0 = 0 := by
  rw [List.getD_eq_getElem?_getD, List.getElem?_append_right (by simp; omega), ← List.getD_eq_getElem?_getD, getD_z]
theorem recAt_last {l : List Int} (h : l.getD ((numAt l 8 + 81) / 64 * 64 - 1) 0 ≠ 1) : recAt l = none := by
  unfold recAt; rw [if_neg]; rintro ⟨_, _, _, h', _⟩; exact h h'
theorem numAt_pack (q k : Int) (d rest : List Int) : numAt (packF q k d ++ rest) 8 = d.length := by
  have := numAt_at (magic ++ be4 q) ([k] ++ (d ++ (be4 (sumF (bodyF q k d)) ++ ((List.replicate (padN d.length) 0 ++ [1]) ++ rest)))) d.length 8 rfl
  simpa [packF, sh, List.append_assoc] using this
theorem recAt_torn (q k : Int) (d : List Int) (m j : Nat) (hm : m < (packF q k d).length) : recAt ((packF q k d).take m ++ z j) = none := by
  apply recAt_last
  have hl := packF_length q k d
  rcases Nat.lt_or_ge m 64 with h | h
  · rw [torn_out _ _ _ _ (by omega) (by omega)]; decide
  · have hn : numAt ((packF q k d).take m ++ z j) 8 = d.length := by
      have := numAt_pack q k d []
      rw [List.append_nil] at this
      rw [← this]
      unfold numAt
      rw [torn_in _ _ _ _ (by omega) (by omega), torn_in _ _ _ _ (by omega) (by omega), torn_in _ _ _ _ (by omega) (by omega), torn_in _ _ _ _ (by omega) (by omega)]
    rw [hn, torn_out _ _ _ _ (by omega) (by omega)]; decide
theorem recAt_z (j : Nat) : recAt (z j) = none := by
  apply recAt_last
  rw [getD_z]; decide
end Go.Proofs.Ythdeecnppmheoaa
