/- Plain laws: a record packed is the record found. -/
import Derived.Test.YthdeecnppmheoaaPackw
namespace Go.Proofs.Ythdeecnppmheoaa
theorem be4_get (v : Int) : getF (q0 v) (q1 v) (q2 v) (q3 v) = v := by
  unfold getF q0 q1 q2 q3; omega
theorem getD_at (a b : List Int) (x : Int) (i : Nat) (hi : i = a.length) : (a ++ ([x] ++ b)).getD i 0 = x := by
  subst hi; simp [List.getD_eq_getElem?_getD]
theorem numAt_at (a b : List Int) (v : Int) (i : Nat) (hi : i = a.length) : numAt (a ++ (be4 v ++ b)) i = v.toNat := by
  subst hi
  unfold numAt
  rw [← be4_get v]
  congr 1
  simp [List.getD_eq_getElem?_getD, be4, be4_get v]
theorem recAt_pack (q k : Int) (d rest : List Int) (hq0 : 0 ≤ q) :
    recAt (packF q k d ++ rest) = some ((q, k, d), (d.length + 81) / 64) := by
  have hl : (packF q k d ++ rest).length = (d.length + 81) / 64 * 64 + rest.length := by rw [List.length_append, packF_length]
  have hS := sumF_bd (bodyF q k d)
  have e : packF q k d ++ rest = sh magic (be4 q) (be4 d.length) [k] d (be4 (sumF (bodyF q k d))) ((List.replicate (padN d.length) 0 ++ [1]) ++ rest) := by
    simp [packF, sh, List.append_assoc]
  have n8 : numAt (packF q k d ++ rest) 8 = d.length := by
    rw [e]
    have := numAt_at (magic ++ be4 q) ([k] ++ (d ++ (be4 (sumF (bodyF q k d)) ++ ((List.replicate (padN d.length) 0 ++ [1]) ++ rest)))) d.length 8 rfl
    simpa [sh, List.append_assoc] using this
  have n4 : numAt (packF q k d ++ rest) 4 = q.toNat := by
    rw [e]
    have := numAt_at magic (be4 d.length ++ ([k] ++ (d ++ (be4 (sumF (bodyF q k d)) ++ ((List.replicate (padN d.length) 0 ++ [1]) ++ rest))))) q 4 rfl
    simpa [sh, List.append_assoc] using this
  have n13 : numAt (packF q k d ++ rest) (13 + d.length) = (sumF (bodyF q k d)).toNat := by
    rw [e]
    have := numAt_at (magic ++ be4 q ++ be4 d.length ++ [k] ++ d) ((List.replicate (padN d.length) 0 ++ [1]) ++ rest) (sumF (bodyF q k d)) (13 + d.length) (by simp [magic, be4]; omega)
    simpa [sh, List.append_assoc] using this
  have g12 : (packF q k d ++ rest).getD 12 0 = k := by
    rw [e]
    have := getD_at (magic ++ be4 q ++ be4 d.length) (d ++ (be4 (sumF (bodyF q k d)) ++ ((List.replicate (padN d.length) 0 ++ [1]) ++ rest))) k 12 rfl
    simpa [sh, List.append_assoc] using this
  have gl : (packF q k d ++ rest).getD ((d.length + 81) / 64 * 64 - 1) 0 = 1 := by
    rw [e]
    have := getD_at (magic ++ be4 q ++ be4 d.length ++ [k] ++ d ++ be4 (sumF (bodyF q k d)) ++ List.replicate (padN d.length) 0) rest 1 ((d.length + 81) / 64 * 64 - 1) (by simp [magic, be4, padN]; omega)
    simpa [sh, List.append_assoc] using this
  have hb : ((packF q k d ++ rest).drop 4).take (d.length + 9) = bodyF q k d := by
    rw [e, sh_body _ _ _ _ _ _ _ rfl rfl rfl rfl]; rfl
  have hdt : ((packF q k d ++ rest).drop 13).take d.length = d := by
    rw [e]
    have : sh magic (be4 q) (be4 d.length) [k] d (be4 (sumF (bodyF q k d))) ((List.replicate (padN d.length) 0 ++ [1]) ++ rest) = (magic ++ be4 q ++ be4 d.length ++ [k]) ++ (d ++ (be4 (sumF (bodyF q k d)) ++ ((List.replicate (padN d.length) 0 ++ [1]) ++ rest))) := by simp [sh, List.append_assoc]
    rw [this, List.drop_left' (show (magic ++ be4 q ++ be4 d.length ++ [k]).length = 13 from rfl), List.take_left' rfl]
  unfold recAt
  rw [n8, n4, n13, g12, gl, hb, hdt, if_pos]
  · congr 2
    simp; omega
  · refine ⟨by omega, ?_, by omega, rfl, by omega⟩
    rw [e]; rfl
end Go.Proofs.Ythdeecnppmheoaa
