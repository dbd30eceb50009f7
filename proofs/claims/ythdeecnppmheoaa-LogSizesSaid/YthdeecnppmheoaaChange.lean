/- Plain laws: the sum tells one changed byte. -/
import Derived.Test.YthdeecnppmheoaaAw
namespace Go.Proofs.Ythdeecnppmheoaa
def tot (l : List Int) : Nat → Int
  | 0 => 0
  | k + 1 => tot l k + l.getD k 0
theorem sumTo_p (l : List Int) : ∀ k, (sumTo l k).1 = (1 + tot l k) % 65521
  | 0 => rfl
  | k + 1 => by
    have h : (sumTo l (k + 1)).1 = ((sumTo l k).1 + l.getD k 0) % 65521 := rfl
    rw [h, sumTo_p l k, tot]; omega
theorem tot_set (l : List Int) (i : Nat) (y : Int) (hi : i < l.length) : ∀ k, tot (l.set i y) k = tot l k + (if i < k then y - l.getD i 0 else 0)
  | 0 => by simp [tot]
  | k + 1 => by
    rw [tot, tot, tot_set l i y hi k]
    by_cases h : i = k
    · subst h
      have : (l.set i y).getD i 0 = y := by rw [List.getD_eq_getElem?_getD, List.getElem?_set_self hi]; rfl
      rw [this, if_neg (Nat.lt_irrefl _), if_pos (Nat.lt_succ_self _)]; omega
    · have : (l.set i y).getD k 0 = l.getD k 0 := by rw [List.getD_eq_getElem?_getD, List.getElem?_set_ne h, List.getD_eq_getElem?_getD]
      rw [this]
      by_cases h2 : i < k
      · rw [if_pos h2, if_pos (by omega)]; omega
      · rw [if_neg h2, if_neg (by omega)]; omega
/-- One changed byte changes the sum. -/
theorem sumF_set (l : List Int) (h8 : Bytes8 l) (i : Nat) (y : Int) (hi : i < l.length) (hy0 : 0 ≤ y) (hy1 : y ≤ 255) (hne : y ≠ l.getD i 0) : sumF (l.set i y) ≠ sumF l := by
  intro e
  have hs : ∀ l : List Int, sumF l = (sumTo l l.length).2 * 65536 + (sumTo l l.length).1 := fun _ => rfl
  have b1 := sumTo_bd l l.length
  have b2 := sumTo_bd (l.set i y) (l.set i y).length
  rw [hs, hs] at e
  have p1 := sumTo_p l l.length
  have p2 := sumTo_p (l.set i y) (l.set i y).length
  rw [List.length_set] at e b2 p2
  rw [tot_set l i y hi, if_pos hi] at p2
  obtain ⟨c0, c1⟩ := bytes8_get h8 i
  omega
end Go.Proofs.Ythdeecnppmheoaa
