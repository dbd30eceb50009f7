/- Plain laws for LogTorn: records whose kinds count; torn; a gap in their numbers. -/
import Derived.Test.YthdeecnppmheoaaApp
namespace Go.Proofs.Ythdeecnppmheoaa
open Go.RowKit
/-- So many records, one behind the other. -/
def recsG (s : Int) (ds : Nat → List Int) (n : Nat) : List Rec := (List.range n).map fun (i : Nat) => (s + (i : Int), (i : Int), ds i)
theorem recsG_succ (s : Int) (ds : Nat → List Int) (n : Nat) : recsG s ds (n + 1) = recsG s ds n ++ [(s + n, (n : Int), ds n)] := by simp [recsG, List.range_succ]
theorem blocksG_bd (s : Int) (ds : Nat → List Int) (m : Nat) : ∀ n, (∀ i, i < n → (ds i).length ≤ m) → blocksF (recsG s ds n) ≤ n * ((m + 81) / 64)
  | 0, _ => by simp [recsG, blocksF]
  | n + 1, h => by
    have := blocksG_bd s ds m n (fun i hi => h i (by omega))
    have h2 := h n (by omega)
    rw [recsG_succ, blocksF_append, Nat.succ_mul]
    simp only [blocksF]
    have h3 : ((ds n).length + 81) / 64 ≤ (m + 81) / 64 := Nat.div_le_div_right (by omega)
    omega
theorem recsG_mem {s : Int} {ds : Nat → List Int} {n : Nat} {r : Rec} (h : r ∈ recsG s ds n) : ∃ i, i < n ∧ r = (s + i, (i : Int), ds i) := by
  simp only [recsG, List.mem_map, List.mem_range] at h
  obtain ⟨i, hi, rfl⟩ := h
  exact ⟨i, hi, rfl⟩
theorem recsG_length (s : Int) (ds : Nat → List Int) (n : Nat) : (recsG s ds n).length = n := by simp [recsG]
theorem recsG_chain (s : Int) (ds : Nat → List Int) (hs : 1 ≤ s) (hm : s ≤ 4000000000) : ∀ n, n ≤ 1000 → chainF none (recsG s ds n) ∧ (0 < n → lastF none (recsG s ds n) = some (s + n - 1))
  | 0, _ => ⟨trivial, fun h => absurd h (Nat.lt_irrefl _)⟩
  | n + 1, hn => by
    obtain ⟨h1, h2⟩ := recsG_chain s ds hs hm n (by omega)
    rw [recsG_succ]
    refine ⟨(chain_append _ _ _).2 ⟨h1, ?_, by show 0 ≤ s + (n : Int); omega, trivial⟩, fun _ => ?_⟩
    · by_cases h0 : n = 0
      · subst h0; simp [recsG, lastF, stopF]; omega
      · rw [h2 (by omega)]; simp [stopF]; omega
    · rw [lastF_append]; simp [lastF]; omega
theorem joinG_bd (s : Int) (ds : Nat → List Int) (m N n : Nat) (h : GoodTo ds m n) (hn : n ≤ N) (hN : N * ((m + 81) / 64) ≤ 1000) : (joinF (recsG s ds n)).length ≤ 64000 := by
  rw [joinF_length]
  have h1 := blocksG_bd s ds m n (fun i hi => (h i hi).1)
  have h2 : n * ((m + 81) / 64) ≤ N * ((m + 81) / 64) := Nat.mul_le_mul_right _ hn
  omega
theorem joinG_8 {s : Int} {ds : Nat → List Int} {m n : Nat} (h : GoodTo ds m n) (hm : m ≤ 4294967295) (hs0 : 0 ≤ s) (hs1 : s + n ≤ 4294967295) (hk1 : n ≤ 255) : Bytes8 (joinF (recsG s ds n)) :=
  joinF_8 _ fun r hr => by
    obtain ⟨i, hi, rfl⟩ := recsG_mem hr
    obtain ⟨h1, h2⟩ := h i hi
    exact ⟨by show 0 ≤ s + (i : Int); omega, by show s + (i : Int) ≤ 4294967295; omega, by show 0 ≤ (i : Int); omega, by show (i : Int) ≤ 255; omega, by show (ds i).length ≤ _; omega, h2⟩
/-- Where so many end. -/
def endG (ds : Nat → List Int) (n : Nat) : Nat := 64 * blocksF (recsG 0 ds n)
theorem blocks_same : ∀ (a b : List Rec), a.map (·.2.2) = b.map (·.2.2) → blocksF a = blocksF b
  | [], [], _ => rfl
  | [], b :: bs, h => by simp at h
  | a :: xs, [], h => by simp at h
  | a :: xs, b :: bs, h => by
    simp only [List.map_cons, List.cons.injEq] at h
    simp only [blocksF, h.1, blocks_same xs bs h.2]
theorem endG_eq (S : Int) (ds : Nat → List Int) (n : Nat) : (joinF (recsG S ds n)).length = endG ds n := by
  rw [joinF_length, endG, blocks_same (recsG S ds n) (recsG 0 ds n) (by simp [recsG, List.map_map, Function.comp_def])]
theorem endG_succ (ds : Nat → List Int) (n : Nat) : endG ds (n + 1) = endG ds n + ((ds n).length + 81) / 64 * 64 := by
  unfold endG; rw [recsG_succ, blocksF_append]; simp only [blocksF]; omega
theorem recsG_split (S : Int) (ds : Nat → List Int) (W : Nat) : ∀ n, W ≤ n → ∃ t, recsG S ds n = recsG S ds W ++ t ∧ (W < n → ∃ t', t = (S + W, (W : Int), ds W) :: t')
  | 0, h => ⟨[], by obtain rfl : W = 0 := by omega
                    simp, fun h' => absurd h' (by omega)⟩
  | n + 1, h => by
    by_cases h2 : W = n + 1
    · subst h2; exact ⟨[], by simp, fun h' => absurd h' (Nat.lt_irrefl _)⟩
    · obtain ⟨t, h3, h4⟩ := recsG_split S ds W n (by omega)
      refine ⟨t ++ [(S + n, (n : Int), ds n)], by rw [recsG_succ, h3, List.append_assoc], fun _ => ?_⟩
      by_cases h5 : W = n
      · subst h5
        have : t = [] := by
          have := congrArg List.length h3
          rw [recsG_length, List.length_append, recsG_length] at this; exact List.length_eq_zero_iff.1 (by omega)
        exact ⟨[], by rw [this]; rfl⟩
      · obtain ⟨t', rfl⟩ := h4 (by omega)
        exact ⟨t' ++ [(S + n, (n : Int), ds n)], rfl⟩
/-- Torn: just those that are whole. -/
theorem scan_tornG (S : Int) (ds : Nat → List Int) (n W p N : Nat) (hS : 1 ≤ S) (hS1 : S ≤ 4000000000) (hn : n ≤ 1000) (hW : W ≤ n) (hp : endG ds W ≤ p) (hp2 : W < n → p < endG ds (W + 1)) (hp3 : p ≤ endG ds n) :
    scanA ((joinF (recsG S ds n)).take p ++ z N) = (recsG S ds W, blocksF (recsG S ds W)) := by
  obtain ⟨hc, _⟩ := recsG_chain S ds hS hS1 W (by omega)
  obtain ⟨t, ht, ht2⟩ := recsG_split S ds W n hW
  have hl := endG_eq S ds W
  have e : (joinF (recsG S ds n)).take p ++ z N = joinF (recsG S ds W) ++ ((joinF t).take (p - endG ds W) ++ z N) := by
    rw [ht, joinF_append, List.take_append, List.take_of_length_le (by omega), hl, List.append_assoc]
  rw [e]
  refine scan_whole _ _ hc (fun f => ?_)
  by_cases hw : W = n
  · have : p - endG ds W = 0 := by subst hw; omega
    rw [this, List.take_zero, List.nil_append]
    exact scanF_none (recAt_z N) _ _
  · obtain ⟨t', rfl⟩ := ht2 (by omega)
    have h3 := hp2 (by omega)
    rw [endG_succ] at h3
    have hpl := packF_length (S + W) W (ds W)
    rw [joinF, List.take_append_of_le_length (by show _ ≤ (packF (S + W) W (ds W)).length; omega)]
    exact scanF_none (recAt_torn (S + W) W (ds W) _ _ (by omega)) _ _
/-- A number that does not go on. -/
theorem scan_gapG (S q : Int) (ds : Nat → List Int) (n : Nat) (k : Int) (d : List Int) (hn0 : 0 < n) (hS : 1 ≤ S) (hS1 : S ≤ 4000000000) (hn : n ≤ 1000) (hq : S + n < q) (_hq2 : q ≤ 4294967295) :
    scanA (joinF (recsG S ds n) ++ packF q k d) = (recsG S ds n, blocksF (recsG S ds n)) := by
  obtain ⟨hc, hl⟩ := recsG_chain S ds hS hS1 n hn
  refine scan_whole _ _ hc (fun f => ?_)
  rw [hl hn0]
  have h := recAt_pack q k d [] (by omega)
  rw [List.append_nil] at h
  exact scanF_stop h (by simp [stopF]; omega) f
end Go.Proofs.Ythdeecnppmheoaa
