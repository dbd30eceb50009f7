/- The reference's runner: what it holds, and its small functions. -/
import Derived.Test.YtpogiondpbfjkaaArr
import Derived.Test.YtpogiondpbfjkaaPure
namespace Go.Proofs.Ytpogiondpbfjkaa
open Go.RowKit Go.Conc
/-- Where the reference's runner lies: its block; its sizes; its tries, dues and outcomes. -/
structure RefB where
  Q : Nat
  As : Option Addr
  cs : Nat
  At : Option Addr
  ct : Nat
  sb : Nat
  tb : Nat
  gd : Nat
  go : Nat
/-- Which stage the reference says is under way. -/
def Rn.at (r : Rn) : Int := if r.started then (r.stage : Int) else -1
/-- The reference's runner. -/
structure RefAt (w : World) (B : RefB) (r : Rn) : Prop where
  top : w.heap[B.Q]? = some (.cells #[.slice B.As r.sizes.length B.cs, .int .i64 r.at, .int .i64 r.now, .slice B.At r.l.length B.ct, .slice (some ⟨B.gd, 0, none⟩) r.l.length r.l.length, .slice (some ⟨B.go, 0, none⟩) r.l.length r.l.length] 48)
  srow : r.sizes = [] ∨ (B.As = some ⟨B.sb, 0, none⟩ ∧ Arr w B.sb r.sizes.length (fun i => (r.sizes.getD i 0 : Nat)))
  trow : r.l = [] ∨ (B.At = some ⟨B.tb, 0, none⟩ ∧ Arr w B.tb r.l.length (fun i => (r.rq i).tries))
  drow : Arr w B.gd r.l.length (fun i => (r.rq i).due)
  orow : Arr w B.go r.l.length (fun i => (r.rq i).out)
/-- Its blocks are apart. -/
structure RefB.Apart (B : RefB) : Prop where
  st : B.sb ≠ B.tb
  sd : B.sb ≠ B.gd
  so : B.sb ≠ B.go
  td : B.tb ≠ B.gd
  tgo : B.tb ≠ B.go
  gdo : B.gd ≠ B.go
/-- All its blocks lie from here on. -/
def RefB.Above (B : RefB) (a : Nat) : Prop := a ≤ B.Q ∧ a ≤ B.gd ∧ a ≤ B.go ∧ a ≤ B.tb ∧ a ≤ B.sb
/-- But for its blocks all is as it was. -/
structure MovedR (w w' : World) (B : RefB) : Prop where
  os : w'.os = w.os
  tape : w'.tape = w.tape
  output : w'.output = w.output
  size : w.heap.size ≤ w'.heap.size
  block : ∀ k, k < w.heap.size → k ≠ B.Q → k ≠ B.tb → k ≠ B.gd → k ≠ B.go → w'.heap[k]? = w.heap[k]?
theorem MovedR.same (w : World) (B : RefB) : MovedR w w B := ⟨rfl, rfl, rfl, Nat.le_refl _, fun _ _ _ _ _ _ => rfl⟩
theorem MovedR.trans {a b c : World} {B : RefB} (h : MovedR a b B) (k : MovedR b c B) : MovedR a c B :=
  ⟨k.os.trans h.os, k.tape.trans h.tape, k.output.trans h.output, Nat.le_trans h.size k.size, fun i hi h1 h2 h3 h4 => (k.block i (Nat.lt_of_lt_of_le hi h.size) h1 h2 h3 h4).trans (h.block i hi h1 h2 h3 h4)⟩
theorem MovedR.then {a b c : World} {B : RefB} (h : MovedR a b B) (k : Below a.heap.size b c) : MovedR a c B :=
  ⟨k.os.trans h.os, k.tape.trans h.tape, k.output.trans h.output, Nat.le_trans h.size k.size, fun i hi h1 h2 h3 h4 => (k.block i hi).trans (h.block i hi h1 h2 h3 h4)⟩
theorem MovedR.below {a b : World} {B : RefB} {n : Nat} (h : MovedR a b B) (hn : n ≤ a.heap.size) (hB : B.Above n) : Below n a b :=
  ⟨h.os, h.tape, h.output, h.size, fun k hk => h.block k (by omega) (by have := hB.1; omega) (by have := hB.2.2.2.1; omega) (by have := hB.2.1; omega) (by have := hB.2.2.1; omega)⟩
theorem MovedR.set {a b : World} {B : RefB} {g i : Nat} {v : Value} (h : MovedR a b B) (hg : g = B.Q ∨ g = B.tb ∨ g = B.gd ∨ g = B.go) : MovedR a (b.setCell ⟨g, i, none⟩ v) B :=
  ⟨h.os, h.tape, h.output, Nat.le_trans h.size (by simp), fun k hk h1 h2 h3 h4 => by
    rw [Below.heap_setCell b ⟨g, i, none⟩ v k (by rcases hg with rfl | rfl | rfl | rfl <;> assumption)]; exact h.block k hk h1 h2 h3 h4⟩
theorem MovedR.drewN {a b : World} {B : RefB} {n : Nat} (h : MovedR a b B) : MovedR a (b.drewN n) B := ⟨h.os, h.tape, h.output, h.size, h.block⟩
theorem MovedR.drew {a b : World} {B : RefB} (h : MovedR a b B) : MovedR a b.drew B := ⟨h.os, h.tape, h.output, h.size, h.block⟩
theorem RefAt.drewN {w : World} {B : RefB} {r : Rn} {n : Nat} (h : RefAt w B r) : RefAt (w.drewN n) B r := ⟨h.top, h.srow, h.trow, h.drow, h.orow⟩
theorem RefAt.drew {w : World} {B : RefB} {r : Rn} (h : RefAt w B r) : RefAt w.drew B r := ⟨h.top, h.srow, h.trow, h.drow, h.orow⟩
theorem RefAt.keep {X y : World} {B : RefB} {r : Rn} (h : RefAt X B r) (hb : Below X.heap.size X y) : RefAt y B r := by
  refine ⟨keep_blk hb h.top, ?_, ?_, h.drow.keep hb, h.orow.keep hb⟩
  · rcases h.srow with h | ⟨h1, h2⟩
    · exact .inl h
    · exact .inr ⟨h1, h2.keep hb⟩
  · rcases h.trow with h | ⟨h1, h2⟩
    · exact .inl h
    · exact .inr ⟨h1, h2.keep hb⟩
/-- It stays where other blocks are written. -/
theorem RefAt.moved {X y : World} {B : RefB} {r : Rn} {D G : Nat} (h : RefAt X B r) (hm : Moved X y D G) (h1 : D < B.Q ∧ D < B.gd ∧ D < B.go ∧ D < B.tb ∧ D < B.sb) (h2 : G < B.Q ∧ G < B.gd ∧ G < B.go ∧ G < B.tb ∧ G < B.sb) : RefAt y B r := by
  obtain ⟨a1, a2, a3, a4, a5⟩ := h1
  obtain ⟨b1, b2, b3, b4, b5⟩ := h2
  refine ⟨by rw [hm.block B.Q (blk_lt h.top) (by omega) (by omega)]; exact h.top, ?_, ?_, h.drow.moved hm (by omega) (by omega), h.orow.moved hm (by omega) (by omega)⟩
  · rcases h.srow with h | ⟨h1, h2⟩
    · exact .inl h
    · exact .inr ⟨h1, h2.moved hm (by omega) (by omega)⟩
  · rcases h.trow with h | ⟨h1, h2⟩
    · exact .inl h
    · exact .inr ⟨h1, h2.moved hm (by omega) (by omega)⟩
/-- Where the stage of the reference ends. -/
def Rn.rfin (r : Rn) : Nat := if r.started then r.fin else r.first
/-- What is always so of a runner that was not started. -/
def Rn.Ok0 (r : Rn) : Prop := r.started = false → r.stage = 0
set_option maxHeartbeats 2000000 in
theorem bounds_any {B : RefB} {r : Rn} (w : World) (h : RefAt w B r) (hok : r.Ok) (h0 : r.Ok0) :
    Calls Try.prog 35 #[.pointer (some ⟨B.Q, 0, none⟩)] w fun e w' => e = .returned (.tuple #[.int .i64 r.first, .int .i64 r.rfin]) ∧ ∃ n, w' = w.drewN n := by
  have HR := Lib.hid h
  have HOK := Lib.hid hok
  obtain ⟨c0, z0⟩ := blk_cells h.top
  have hst := hok.stage
  have hsl := hok.stages
  have hfl := hok.fin_le
  have hfew := hok.few
  rcases hs : r.started with _ | _
  · have hat : r.at = -1 := by simp [Rn.at, hs]
    have hf0 : r.first = 0 := by rw [hok.first, h0 hs]; simp
    have hrf : r.rfin = 0 := by simp [Rn.rfin, hs, hf0]
    rw [hat] at c0
    rw [hrf, hf0]
    clear h hok h0 hs
    go_enter Try.func35, Try.ntmps35
    go_wp2_with fail
    go_loopw [4, 5] (fun s4 s5 wx => s4 = .int .i64 0 ∧ s5 = .int .i64 0 ∧ wx = w) (fun _ _ _ => 0)
    case atStart => exact ⟨rfl, rfl, rfl⟩
    case round =>
      obtain ⟨rfl, rfl, hwx⟩ := hrel
      rw [hwx]
      clear hwx
      go_wp2_with (go_quiet (fail))
      go_ret2
      exact ⟨rfl, _, rfl⟩
  · have hat : r.at = (r.stage : Int) := by simp [Rn.at, hs]
    have hrf : r.rfin = r.fin := by simp [Rn.rfin, hs]
    rw [hat] at c0
    rw [hrf]
    clear h hok h0 hs
    go_enter Try.func35, Try.ntmps35
    go_wp2_with fail
    go_loopw [4, 5] (fun s4 s5 wx => ∃ k : Nat, s5 = .int .i64 k ∧ s4 = .int .i64 ((r.sizes.take k).sum : Nat) ∧ k ≤ r.stage ∧ wx = w) (fun _ s5 _ => r.stage - (intOf s5).toNat)
    case atStart => exact ⟨0, rfl, rfl, by omega, rfl⟩
    case round =>
      obtain ⟨k, rfl, rfl, hk, hwx⟩ := hrel
      rw [hwx]
      clear hwx
      by_cases hlt : k < r.stage
      · have hd : decide (k < r.stage) = true := decide_eq_true hlt
        have hd' : decide ((k : Int) < (r.stage : Int)) = true := decide_eq_true (by omega)
        have HLT := Lib.hid hlt
        have hkl : k < r.sizes.length := by omega
        have hkl' : (k : Int) < (r.sizes.length : Int) := by omega
        obtain ⟨hAs, ha⟩ : B.As = some ⟨B.sb, 0, none⟩ ∧ Arr w B.sb r.sizes.length (fun i => (r.sizes.getD i 0 : Nat)) := by
          rcases HR.out.srow with h | h
          · rw [h] at hkl; simp at hkl
          · exact h
        have hcell := ha.cell hkl
        rw [hAs] at c0
        have HT := Lib.hid (sum_take_succ r.sizes k hkl)
        have HTL := Lib.hid (show (r.sizes.take (k + 1)).sum ≤ 1000 by have h1 := sum_take_le r.sizes (k + 1); have h2 := HOK.out.all; omega)
        generalize hm : r.sizes.getD k 0 = m at *
        generalize hS : (r.sizes.take k).sum = sm at *
        have hsm : sm + m ≤ 1000 := by have := HT.out; have := HTL.out; omega
        clear hlt hm hS ha hAs hkl
        go_wp2_with fail
        go_roundw
        case rel => exact ⟨k + 1, by go_num, by rw [HT.out]; rfl, HLT.out, trivial⟩
        case measure => have := HLT.out; simp [intOf]; omega
      · obtain rfl : k = r.stage := by omega
        have hd : decide (r.stage < r.stage) = false := decide_eq_false (by omega)
        have hd' : decide ((r.stage : Int) < (r.stage : Int)) = false := decide_eq_false (by omega)
        have hneg : decide ((r.stage : Int) < 0) = false := decide_eq_false (by omega)
        rw [← HOK.out.first]
        clear hlt
        by_cases hge : r.sizes.length ≤ r.stage
        · have hg : decide (r.sizes.length ≤ r.stage) = true := decide_eq_true hge
          have hg' : decide ((r.sizes.length : Int) ≤ (r.stage : Int)) = true := decide_eq_true (by omega)
          have HF := Lib.hid (show r.fin = r.first by unfold Rn.fin; rw [if_pos hge])
          clear hge
          go_wp2_with (go_quiet (fail))
          go_ret2
          exact ⟨by rw [HF.out]; rfl, _, rfl⟩
        · have hg : decide (r.sizes.length ≤ r.stage) = false := decide_eq_false hge
          have hg' : decide ((r.sizes.length : Int) ≤ (r.stage : Int)) = false := decide_eq_false (by omega)
          have hkl : r.stage < r.sizes.length := by omega
          have hkl' : (r.stage : Int) < (r.sizes.length : Int) := by omega
          obtain ⟨hAs, ha⟩ : B.As = some ⟨B.sb, 0, none⟩ ∧ Arr w B.sb r.sizes.length (fun i => (r.sizes.getD i 0 : Nat)) := by
            rcases HR.out.srow with h | h
            · rw [h] at hkl; simp at hkl
            · exact h
          have hcell := ha.cell hkl
          rw [hAs] at c0
          have hfe : r.fin = r.first + r.sizes.getD r.stage 0 := by unfold Rn.fin; rw [if_neg hge]
          have HF := Lib.hid hfe
          generalize hm : r.sizes.getD r.stage 0 = m at *
          have hsm : r.first + m ≤ 1000 := by omega
          clear hge ha hAs hkl hm hfe
          go_wp2_with (go_quiet (fail))
          go_ret2
          exact ⟨by rw [HF.out]; rfl, _, by first | rfl | rw [World.drewN_drewN]⟩
end Go.Proofs.Ytpogiondpbfjkaa
