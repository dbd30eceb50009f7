/- Own: a copy with spare room behind it; Plain, Same: two lists of bytes; Kept: is the copy as it was? -/
import Derived.Test.YthdeecnppmheoaaApp
import Derived.BigQuiet
import Derived.Deep.QuietTactic
namespace Go.Proofs.Ythdeecnppmheoaa
open Go.RowKit
/-- A block whose first cells are these bytes, of so many in all. -/
def Filled (w : World) (g N : Nat) (l : List Int) : Prop := ∃ cur : Array Value, w.heap[g]? = some (.cells cur 5 (0, 0)) ∧ cur.size = N ∧ cur.toList.take l.length = l.map (Value.int .u8)
theorem Filled.cell {w : World} {g N : Nat} {l : List Int} (h : Filled w g N l) (i : Nat) (hi : i < N) : ∃ v, w.cell? ⟨g, i, none⟩ = some v := by
  obtain ⟨cur, hb, hs, _⟩ := h
  exact ⟨cur[i]'(by omega), by simp [World.cell?, hb, hs, hi]⟩
theorem Filled.melted {w : World} {g N : Nat} {l : List Int} (h : Filled w g N l) (i : Nat) : w.frozen? ⟨g, i, none⟩ = false := by
  obtain ⟨cur, hb, _⟩ := h
  simp [World.frozen?, hb]
theorem Filled.add {w : World} {g N : Nat} {l : List Int} (h : Filled w g N l) (hi : l.length < N) (y : Int) : Filled (w.setCell ⟨g, l.length, none⟩ (.int .u8 y)) g N (l ++ [y]) := by
  obtain ⟨cur, hb, hs, ht⟩ := h
  refine ⟨_, heap_set_same hb, by simpa using hs, ?_⟩
  rw [Array.toList_setIfInBounds, List.length_append, List.length_singleton, List.take_add_one, List.take_set_of_le (Nat.le_refl _), ht]
  simp [hs, hi]
theorem Filled.row {w : World} {g : Nat} {l : List Int} (h : Filled w g l.length l) : RowAt w g l := by
  obtain ⟨cur, hb, hs, ht⟩ := h
  rw [List.take_of_length_le (by simp; omega)] at ht
  unfold RowAt
  rw [hb, ← ht]
/-- Own's answer. -/
def OwnIs (w : World) (l : List Int) (f : Int) (e : Ending) (w' : World) : Prop :=
  ∃ g, e = .returned (.slice (some ⟨g, 0, none⟩) l.length (l.length + 3)) ∧ RowAt w' g (l ++ [f, f, f]) ∧ w.heap.size ≤ g ∧ Below w.heap.size w w'
set_option maxHeartbeats 1000000 in
theorem own_any (A : Option Addr) (n c : Nat) (l : List Int) (f : Int) (hn : n = l.length) (hmax : n ≤ 4294967295) (w : World) (hA : Read8 w A l) (hAc : A = none → c = 0) :
    Calls Try.prog 8 #[.slice A n c, .int .u8 f] w (OwnIs w l f) := by
  subst hn
  have HA := Lib.hid hA
  clear hA
  obtain ⟨i0, hi, hz0, hz1, hz2⟩ := info_parts info5
  have HI := Lib.hid hi
  have HZ0 := Lib.hid hz0
  have HZ1 := Lib.hid hz1
  have HZ2 := Lib.hid hz2
  clear hi hz0 hz1 hz2
  go_enter Try.func8, Try.ntmps8
  go_wp2_with (at_make; refine wpList_make_own _ rfl (.const (.int .i64 0)) (.tmp 10) 23 rfl w.heap.size 5 i0 (.int .u8 0) 1 Try.underlying23 HI.out HZ0.out HZ1.out .i64 .i64 ((l.length : Int) + 3) (l.length + 3) rfl rfl (by omega) ?b2 ?b3 ?b4 ?_)
  case b2 => rw [HZ2.out]; omega
  case b3 => simp only [maxLen]; omega
  case b4 => exact Nat.le_refl _
  intro w1 hown1 hg1
  have B1 := Lib.hid (show Below w.heap.size w w1 from (Below.refl _ _).grown hg1 (Nat.le_refl _) (fun g hg => by cases hg))
  clear hg1
  have HA1 := Lib.hid (HA.out.keep B1.out)
  go_wp2_with (at_builtin; refine wpList_append_fits_any _ rfl (.tmp 12) (.tmp 13) 23 rfl w.heap.size 5 i0 1 Try.underlying23 HI.out HZ1.out w.heap.size 0 (l.length + 3) [] rfl hown1 A l.length c (l.map (Value.int .u8)) rfl ?hn ?hnone ?hc ?h1c ?b1 ?_)
  case hn => simp
  case hnone =>
    intro e
    refine ⟨?_, hAc e⟩
    rcases HA1.out with h | ⟨b, off, h, _⟩
    · rw [h]; rfl
    · rw [h] at e; cases e
  case hc =>
    intro ad e j u hj
    rcases HA1.out with h | ⟨b, off, h, _, hc⟩
    · rw [h] at hj; simp at hj
    · rw [h] at e; cases e
      rw [List.getElem?_map] at hj
      rcases hd' : l[j]? with _ | y
      · rw [hd'] at hj; cases hj
      · rw [hd'] at hj
        have hjl := (List.getElem?_eq_some_iff.1 hd').1
        simp at hj; subst hj
        rw [addr_add, hc j hjl, List.getD_eq_getElem?_getD, hd']; rfl
  case h1c =>
    intro u hu
    obtain ⟨y, _, rfl⟩ := List.mem_map.1 hu
    rfl
  case b1 => omega
  intro w2 hown2 hg2
  have B2 := Lib.hid (show Below w.heap.size w w2 from B1.out.grown hg2 B1.out.size (fun g hg => by cases hg; exact Nat.le_refl _))
  have HF := Lib.hid (show Filled w2 w.heap.size (l.length + 3) l from by
    obtain ⟨_, h | ⟨g', cap, cur, he, _, hb, _, _, hcs, ht⟩⟩ := hown2
    · cases h.1
    · simp at he
      obtain ⟨rfl, _, rfl⟩ := he
      exact ⟨cur, hb, by omega, by simpa using ht⟩)
  clear hown2 hg2 hown1
  have hcap : (l.length : Int) + 3 ≤ ((l.length + 3 : Nat) : Int) := by omega
  go_wp2_with fail
  go_loopw [7] (fun s7 wr => ∃ k : Nat, s7 = .int .i64 ((l.length + k : Nat) : Int) ∧ k ≤ 3 ∧ Filled wr w.heap.size (l.length + 3) (l ++ List.replicate k f) ∧ Below w.heap.size w wr) (fun s7 _ => l.length + 3 - (intOf s7).toNat)
  case atStart => exact ⟨0, rfl, by omega, by simpa using HF.out, B2.out⟩
  case round =>
    obtain ⟨k, rfl, hk, hf, hb⟩ := hrel
    have HF := Lib.hid hf
    have HB := Lib.hid hb
    clear hf hb B1 B2
    by_cases hlt : k < 3
    · have hlen : (l ++ List.replicate k f).length = l.length + k := by simp
      have HADD := Lib.hid (HF.out.add (by rw [hlen]; omega) f)
      rw [hlen] at HADD
      obtain ⟨v0, hv0⟩ := HF.out.cell (l.length + k) (by omega)
      have hz := HF.out.melted (l.length + k)
      clear hlen
      have hlt' : (l.length : Int) + (k : Int) < (l.length : Int) + 3 := by omega
      have hn0 : ((l.length : Int) + (k : Int)).toNat = l.length + k := by omega
      have hn1 : (0 : Int) ≤ (l.length : Int) + (k : Int) := by omega
      have hn2 : IntKind.i64.wrap ((l.length : Int) + (k : Int) + 1) = (l.length : Int) + (k : Int) + 1 := IntWalk.i64_in _ (by omega)
      go_wp2_with fail
      go_roundw
      case rel => exact ⟨k + 1, by go_num, by omega, by rw [List.replicate_succ', ← List.append_assoc]; exact HADD.out, below_set HB.out (Nat.le_refl _)⟩
      case measure => simp [intOf]; omega
    · obtain rfl : k = 3 := by omega
      go_wp2_with fail
      go_ret
      exact ⟨w.heap.size, rfl, Filled.row (by simpa using HF.out), Nat.le_refl _, HB.out⟩
end Go.Proofs.Ythdeecnppmheoaa
