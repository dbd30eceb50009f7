/- Lists of strings: how much there is in some; are two alike. -/
import Derived.Test.YtinpgccfddmmpaaBlk
import Derived.RegionTactic
import Derived.BigRegion
import Derived.BigQuiet
import Derived.Deep.QuietTactic
import Derived.LoopTactic
import Derived.Deep.LoopGhost
namespace Go.Proofs.Ytinpgccfddmmpaa
open Go.RowKit
/-- What Texts has summed up behind so many. -/
def textsTo (gs : List ByteArray) : Nat → Int
  | 0 => 0
  | k + 1 => wrap64 (wrap64 (textsTo gs k + 1) + (gs.getD k ByteArray.empty).size)
set_option maxHeartbeats 1000000 in
theorem texts_nil (A : Option Addr) (c : Nat) (w : World) :
    Calls Try.prog 32 #[.slice A 0 c] w fun e w' => e = .returned (.int .i64 0) ∧ w' = w := by
  go_enter Try.func32, Try.ntmps32
  go_wp2_with fail
  go_loop [3, 4] (fun s3 s4 => s3 = .int .i64 0 ∧ s4 = .int .i64 0) (fun _ s4 => (intOf s4).toNat)
  case atStart => exact ⟨rfl, rfl⟩
  case round =>
    obtain ⟨rfl, rfl⟩ := hrel
    go_wp2
    go_ret
    exact ⟨rfl, rfl⟩
set_option maxHeartbeats 1000000 in
theorem texts_row (b off c : Nat) (gs : List ByteArray) (w : World) (_hl : gs.length ≤ 9223372036854775807) (hcell : ∀ i, i < gs.length → w.cell? ⟨b, off + i, none⟩ = some (.string (gs.getD i ByteArray.empty))) :
    Calls Try.prog 32 #[.slice (some ⟨b, off, none⟩) gs.length c] w fun e w' => e = .returned (.int .i64 (textsTo gs gs.length)) ∧ w' = w := by
  have HC := Lib.hid hcell
  clear hcell
  go_enter Try.func32, Try.ntmps32
  go_wp2_with fail
  go_loop [3, 4] (fun s3 s4 => ∃ k : Nat, s4 = .int .i64 k ∧ k ≤ gs.length ∧ s3 = .int .i64 (textsTo gs k)) (fun _ s4 => gs.length - (intOf s4).toNat)
  case atStart => exact ⟨0, rfl, Nat.zero_le _, rfl⟩
  case round =>
    obtain ⟨k, rfl, hk, rfl⟩ := hrel
    by_cases hlt : k < gs.length
    · have hc := HC.out k hlt
      have HS := Lib.hid (show textsTo gs (k + 1) = wrap64 (wrap64 (textsTo gs k + 1) + (gs.getD k ByteArray.empty).size) from rfl)
      generalize gs.getD k ByteArray.empty = s at *
      generalize textsTo gs k = v at *
      go_wp2
      go_round
      case rel => exact ⟨k + 1, by go_num, by omega, by rw [HS.out]⟩
      case measure => simp [intOf]; omega
    · go_wp2
      go_ret
      obtain rfl : k = gs.length := by omega
      exact ⟨rfl, rfl⟩
set_option maxHeartbeats 400000 in
theorem eqs_any (s t : ByteArray) (h : s = t) (w : World) : Calls Try.prog 34 #[.string s, .string t] w fun e w' => e = .returned (.bool true) ∧ w' = w := by
  subst h
  go_enter Try.func34, Try.ntmps34
  go_wp2
  go_ret
  exact ⟨by simp, rfl⟩
set_option maxHeartbeats 1000000 in
theorem same_nil (A B : Option Addr) (c d : Nat) (w : World) :
    Calls Try.prog 33 #[.slice A 0 c, .slice B 0 d, .func (.func 34) #[] #[]] w fun e w' => e = .returned (.bool true) ∧ w' = w := by
  go_enter Try.func33, Try.ntmps33
  go_wp2_with fail
  go_loop [7] (fun s7 => s7 = .int .i64 0) (fun s7 => (intOf s7).toNat)
  case atStart => rfl
  case round =>
    obtain rfl := hrel
    go_wp2
    go_ret
    exact ⟨rfl, rfl⟩
set_option maxHeartbeats 2000000 in
theorem same_row (b off c b' off' c' : Nat) (gs : List ByteArray) (w : World) (_hl : gs.length ≤ 9223372036854775807) (hb : b < w.heap.size) (hb' : b' < w.heap.size) (hcell : ∀ i, i < gs.length → w.cell? ⟨b, off + i, none⟩ = some (.string (gs.getD i ByteArray.empty))) (hcell' : ∀ i, i < gs.length → w.cell? ⟨b', off' + i, none⟩ = some (.string (gs.getD i ByteArray.empty))) :
    Calls Try.prog 33 #[.slice (some ⟨b, off, none⟩) gs.length c, .slice (some ⟨b', off', none⟩) gs.length c', .func (.func 34) #[] #[]] w fun e w' => e = .returned (.bool true) ∧ Below w.heap.size w w' := by
  have HC := Lib.hid hcell
  have HC' := Lib.hid hcell'
  clear hcell hcell'
  go_enter Try.func33, Try.ntmps33
  go_wp2_with fail
  go_loopw [7] (fun s7 wr => ∃ k : Nat, s7 = .int .i64 k ∧ k ≤ gs.length ∧ Below w.heap.size w wr) (fun s7 _ => gs.length - (intOf s7).toNat)
  case atStart => exact ⟨0, rfl, Nat.zero_le _, Below.refl _ _⟩
  case round =>
    obtain ⟨k, rfl, hk, hbel⟩ := hrel
    by_cases hlt : k < gs.length
    · have hc : wr.cell? ⟨b, off + k, none⟩ = some (.string (gs.getD k ByteArray.empty)) := by rw [hbel.cell (p := ⟨b, off + k, none⟩) hb]; exact HC.out k hlt
      have hc' : wr.cell? ⟨b', off' + k, none⟩ = some (.string (gs.getD k ByteArray.empty)) := by rw [hbel.cell (p := ⟨b', off' + k, none⟩) hb']; exact HC'.out k hlt
      generalize gs.getD k ByteArray.empty = s at *
      go_wp2_with fail
      go_region_held3 (fun w' => w'.cell? ⟨b, off + k, none⟩ = some (.string s) ∧ w'.cell? ⟨b', off' + k, none⟩ = some (.string s)) (first | exact ⟨hc, hc'⟩ | exact ⟨cell_drew hc, cell_drew hc'⟩) (first | (go_at_call 34; refine (eqs_any _ _ rfl _).mono ?_; rintro e w1 ⟨rfl, rfl⟩))
      all_goals
        go_wp2_with fail
        go_roundw
        case rel => exact ⟨k + 1, by go_num, by omega, Below.drew hbel⟩
        case measure => simp [intOf]; omega
    · go_wp2
      go_ret
      exact ⟨rfl, hbel⟩
/-- Two lists of the same strings are alike. -/
theorem same_any (v u : Value) (gs : List ByteArray) (w : World) (hl : gs.length ≤ 9223372036854775807) (hv : StrRow w v gs) (hu : StrRow w u gs) :
    Calls Try.prog 33 #[v, u, .func (.func 34) #[] #[]] w fun e w' => e = .returned (.bool true) ∧ Below w.heap.size w w' := by
  rcases hv with ⟨rfl, A, c, rfl⟩ | ⟨b, off, c, hne, rfl, hb, hc⟩
  · rcases hu with ⟨_, B, d, rfl⟩ | ⟨b', off', c', hne', _⟩
    · exact (same_nil A B c d w).mono (by rintro e w' ⟨rfl, rfl⟩; exact ⟨rfl, Below.refl _ _⟩)
    · exact absurd rfl hne'
  · rcases hu with ⟨h, _⟩ | ⟨b', off', c', _, rfl, hb', hc'⟩
    · exact absurd h hne
    · exact same_row b off c b' off' c' gs w hl hb hb' hc hc'
set_option maxHeartbeats 400000 in
theorem plain_any (v u : Value) (gs : List ByteArray) (w : World) (hl : gs.length ≤ 9223372036854775807) (hv : StrRow w v gs) (hu : StrRow w u gs) :
    Calls Try.prog 23 #[v, u] w fun e w' => e = .returned (.bool true) ∧ Below w.heap.size w w' := by
  have c := same_any v u gs w hl hv hu
  have C := Lib.hid c
  clear c hv hu
  go_enter Try.func23, Try.ntmps23
  go_wp2_with fail
  refine C.out.mono ?_; rintro e w1 ⟨rfl, hb⟩
  go_wp2_with fail
  go_ret
  exact ⟨rfl, hb⟩
set_option maxHeartbeats 4000000 in
theorem item_any (s0 s1 : ByteArray) (A B : Option Addr) (n c m d : Nat) (gs : List ByteArray) (hl : gs.length ≤ 9223372036854775807) (s3 : Int) (s4 s5 : Bool) (w : World) (hv : StrRow w (.slice A n c) gs) (hu : StrRow w (.slice B m d) gs) :
    Calls Try.prog 16 #[.agg #[.string s0, .string s1, .slice A n c, .int .i64 s3, .bool s4, .bool s5], .agg #[.string s0, .string s1, .slice B m d, .int .i64 s3, .bool s4, .bool s5]] w fun e w' => e = .returned (.bool true) ∧ Below w.heap.size w w' := by
  have HV := Lib.hid hv
  have HU := Lib.hid hu
  clear hv hu
  go_enter Try.func16, Try.ntmps16
  go_wp2_with fail
  refine (plain_any _ _ gs _ hl (HV.out.below (below_new (below_new (Below.refl _ _) _) _)) (HU.out.below (below_new (below_new (Below.refl _ _) _) _))).mono ?_
  rintro e w1 ⟨rfl, hb⟩
  go_wp2_with fail
  go_ret
  exact ⟨rfl, below_call (below_new (below_new (Below.refl _ _) _) _) hb⟩
end Go.Proofs.Ytinpgccfddmmpaa
