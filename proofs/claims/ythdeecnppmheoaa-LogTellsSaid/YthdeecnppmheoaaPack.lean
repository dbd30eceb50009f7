/- A record as bytes: the plain list. -/
import Derived.Test.YthdeecnppmheoaaCopy
namespace Go.Proofs.Ythdeecnppmheoaa
open Go.RowKit
/-- Seven parts. -/
def sh (a b c d e f g : List Int) : List Int := a ++ (b ++ (c ++ (d ++ (e ++ (f ++ g)))))
/-- What the sum is over. -/
def bodyF (seq kind : Int) (data : List Int) : List Int := be4 seq ++ (be4 data.length ++ ([kind] ++ data))
def padN (n : Nat) : Nat := (n + 81) / 64 * 64 - (n + 18)
def packF (seq kind : Int) (data : List Int) : List Int :=
  sh magic (be4 seq) (be4 data.length) [kind] data (be4 (sumF (bodyF seq kind data))) (List.replicate (padN data.length) 0 ++ [1])
def z (n : Nat) : List Int := List.replicate n 0
theorem be4_len (v : Int) : (be4 v).length = 4 := rfl
theorem spl_at (a x b cs : List Int) (off : Nat) (ho : off = a.length) (h : cs.length = x.length) : spl (a ++ (x ++ b)) off cs = a ++ (cs ++ b) := by subst ho; exact spl_mid a x b cs h
theorem sh0 (N : Nat) : z ((N + 81) / 64 * 64) = sh (z 4) (z 4) (z 4) (z 1) (z N) (z 4) (z (padN N) ++ z 1) := by
  unfold sh z padN
  simp only [List.replicate_append_replicate]
  congr 1
  omega
theorem sh1 (a b c d e f g a' : List Int) (h : a'.length = a.length) : spl (sh a b c d e f g) 0 a' = sh a' b c d e f g := spl_at [] a _ a' 0 rfl h
theorem sh2 (a b c d e f g b' : List Int) (off : Nat) (ho : off = a.length) (h : b'.length = b.length) : spl (sh a b c d e f g) off b' = sh a b' c d e f g := spl_at a b _ b' off ho h
theorem sh3 (a b c d e f g c' : List Int) (off : Nat) (ho : off = a.length + b.length) (h : c'.length = c.length) : spl (sh a b c d e f g) off c' = sh a b c' d e f g := by
  have := spl_at (a ++ b) c (d ++ (e ++ (f ++ g))) c' off (by simp; omega) h
  simpa [sh, List.append_assoc] using this
theorem sh5 (a b c d e f g e' : List Int) (off : Nat) (ho : off = a.length + b.length + c.length + d.length) (h : e'.length = e.length) : spl (sh a b c d e f g) off e' = sh a b c d e' f g := by
  have := spl_at (a ++ b ++ c ++ d) e (f ++ g) e' off (by simp; omega) h
  simpa [sh, List.append_assoc] using this
theorem sh6 (a b c d e f g f' : List Int) (off : Nat) (ho : off = a.length + b.length + c.length + d.length + e.length) (h : f'.length = f.length) : spl (sh a b c d e f g) off f' = sh a b c d e f' g := by
  have := spl_at (a ++ b ++ c ++ d ++ e) f g f' off (by simp; omega) h
  simpa [sh, List.append_assoc] using this
theorem set_at (a b : List Int) (x y : Int) (i : Nat) (hi : i = a.length) : (a ++ ([x] ++ b)).set i y = a ++ ([y] ++ b) := by
  subst hi; rw [List.set_append_right _ _ (Nat.le_refl _)]; simp
theorem sh4 (a b c e f g : List Int) (x y : Int) (i : Nat) (hi : i = a.length + b.length + c.length) : (sh a b c [x] e f g).set i y = sh a b c [y] e f g := by
  have := set_at (a ++ b ++ c) (e ++ (f ++ g)) x y i (by simp; omega)
  simpa [sh, List.append_assoc] using this
theorem sh7 (a b c d e f p : List Int) (x y : Int) (i : Nat) (hi : i = a.length + b.length + c.length + d.length + e.length + f.length + p.length) : (sh a b c d e f (p ++ [x])).set i y = sh a b c d e f (p ++ [y]) := by
  have := set_at (a ++ b ++ c ++ d ++ e ++ f ++ p) [] x y i (by simp; omega)
  simpa [sh, List.append_assoc] using this
theorem sh_body (a b c d e f g : List Int) (ha : a.length = 4) (hb : b.length = 4) (hc : c.length = 4) (hd : d.length = 1) : ((sh a b c d e f g).drop 4).take (e.length + 9) = b ++ (c ++ (d ++ e)) := by
  unfold sh
  rw [List.drop_left' ha]
  have : b ++ (c ++ (d ++ (e ++ (f ++ g)))) = (b ++ (c ++ (d ++ e))) ++ (f ++ g) := by simp [List.append_assoc]
  rw [this, List.take_left' (by simp; omega)]
theorem packF_length (seq kind : Int) (data : List Int) : (packF seq kind data).length = (data.length + 81) / 64 * 64 := by
  unfold packF sh padN magic
  simp [be4_len]; omega
end Go.Proofs.Ythdeecnppmheoaa
