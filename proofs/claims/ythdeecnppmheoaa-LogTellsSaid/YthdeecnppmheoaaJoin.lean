/- Plain laws: records one behind the other. -/
import Derived.Test.YthdeecnppmheoaaPlain
namespace Go.Proofs.Ythdeecnppmheoaa
def joinF : List Rec → List Int
  | [] => []
  | r :: rs => packF r.1 r.2.1 r.2.2 ++ joinF rs
def blocksF : List Rec → Nat
  | [] => 0
  | r :: rs => (r.2.2.length + 81) / 64 + blocksF rs
/-- Each record goes on where the one ahead of it stopped. -/
def chainF : Option Int → List Rec → Prop
  | _, [] => True
  | was, r :: rs => stopF r.1 was = false ∧ 0 ≤ r.1 ∧ chainF (some r.1) rs
def lastF : Option Int → List Rec → Option Int
  | was, [] => was
  | _, r :: rs => lastF (some r.1) rs
theorem scan_join : ∀ (rs : List Rec) (f : Nat) (rest : List Int) (was : Option Int), chainF was rs →
    scanF (rs.length + f) (joinF rs ++ rest) was = (rs ++ (scanF f rest (lastF was rs)).1, blocksF rs + (scanF f rest (lastF was rs)).2)
  | [], f, rest, was, _ => by simp [joinF, blocksF, lastF]
  | (q, k, d) :: rs, f, rest, was, ⟨h0, h1, h2⟩ => by
    have e : (((q, k, d) :: rs).length + f) = (rs.length + f) + 1 := by simp; omega
    have hd : ((packF q k d ++ (joinF rs ++ rest)).drop (64 * ((d.length + 81) / 64))) = joinF rs ++ rest := List.drop_left' (by rw [packF_length]; omega)
    rw [e, joinF, List.append_assoc, scanF, recAt_pack q k d _ h1]
    simp only [h0, hd, scan_join rs f rest (some q) h2, blocksF, lastF]
    simp [Nat.add_assoc]
theorem joinF_length : ∀ rs : List Rec, (joinF rs).length = 64 * blocksF rs
  | [] => rfl
  | r :: rs => by rw [joinF, List.length_append, packF_length, joinF_length rs, blocksF]; omega
theorem blocksF_le : ∀ rs : List Rec, rs.length ≤ blocksF rs
  | [] => Nat.le_refl _
  | r :: rs => by have := blocksF_le rs; simp only [blocksF, List.length_cons]; omega
theorem scanF_none {l : List Int} (h : recAt l = none) (f : Nat) (was : Option Int) : scanF f l was = ([], 0) := by
  cases f with
  | zero => rfl
  | succ f => rw [scanF, h]
/-- Behind the records stands nothing. -/
theorem scan_whole (rs : List Rec) (rest : List Int) (h : chainF none rs) (hr : ∀ f, scanF f rest (lastF none rs) = ([], 0)) :
    scanA (joinF rs ++ rest) = (rs, blocksF rs) := by
  have hl : (joinF rs ++ rest).length + 1 = rs.length + ((joinF rs ++ rest).length + 1 - rs.length) := by
    have := blocksF_le rs; have := joinF_length rs; simp only [List.length_append]; omega
  unfold scanA
  rw [hl, scan_join rs _ rest none h, hr]
  simp
end Go.Proofs.Ythdeecnppmheoaa
