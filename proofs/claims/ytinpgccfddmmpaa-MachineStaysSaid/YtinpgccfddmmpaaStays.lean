/- The walk of MachineStays: from a right mode, event by event, it stays right, and what is told as another one is another one. -/
import Derived.Test.YtinpgccfddmmpaaBlk
import Derived.Deep.RegionHeld3
import Derived.Deep.DeepCutAuto
import Derived.Deep.LoopGhost
import Derived.LoopTactic
import Derived.OpenShut
namespace Go.Proofs.Ytinpgccfddmmpaa
open Go.RowKit
theorem right_stays (k : Int) (t f a i p : Bool) (hr : rightM t f a i p = true) : rightM (stepM k ⟨t, f, a, i, p⟩).t (stepM k ⟨t, f, a, i, p⟩).f (stepM k ⟨t, f, a, i, p⟩).a (stepM k ⟨t, f, a, i, p⟩).i (stepM k ⟨t, f, a, i, p⟩).p = true := by
  unfold stepM
  revert hr
  repeat' split
  all_goals (cases t <;> cases f <;> cases a <;> cases i <;> cases p <;> simp [rightM])
theorem stay_facts (k : Int) (t f a i p : Bool) (hr : rightM t f a i p = true) : ∃ t' f' a' i' p' c : Bool, rightM t' f' a' i' p' = true ∧
    (∀ w, Calls Try.prog 10 #[.agg #[.bool t, .bool f, .bool a, .bool i, .bool p], .int .i64 k] w fun e w' => e = .returned (.tuple #[.agg #[.bool t', .bool f', .bool a', .bool i', .bool p'], .bool c]) ∧ Below w.heap.size w w') ∧
    ∀ w, (Op.equalIn 10000 23 (.agg #[.bool t', .bool f', .bool a', .bool i', .bool p']) (.agg #[.bool t, .bool f, .bool a, .bool i, .bool p])).run Try.prog w = .ok (!c) w :=
  ⟨_, _, _, _, _, _, right_stays k t f a i p hr, fun w => step_any k t f a i p w, fun w => by rw [eqM 9998 w]; simp [chM]⟩
set_option maxHeartbeats 2000000 in
theorem stays_row (t f a i p : Bool) (hr : rightM t f a i p = true) (b off len cap : Nat) (zs : List Int) (w : World) (hb : b < w.heap.size) (_hl : len ≤ 9223372036854775807) (hcell : ∀ k, k < len → w.cell? ⟨b, off + k, none⟩ = some (.int .i64 (zs.getD k 0))) :
    Calls Try.prog 3 #[.agg #[.bool t, .bool f, .bool a, .bool i, .bool p], .slice (some ⟨b, off, none⟩) len cap] w fun e w' => e = .returned (.bool true) ∧ Below w.heap.size w w' := by
  have cc := rightS t f a i p true hr
  have CC := Lib.hid cc
  have HR := Lib.hid hr
  have HC := Lib.hid hcell
  clear cc hr hcell
  go_enter Try.func3, Try.ntmps3
  go_wp2_with fail
  refine (CC.out _).mono ?_; rintro e w' ⟨rfl, rfl⟩
  go_wp2_with fail
  go_loopw [5] (fun s5 wr => ∃ (k : Nat) (mt mf ma mi mp : Bool), s5 = .int .i64 k ∧ k ≤ len ∧ rightM mt mf ma mi mp = true ∧ Below w.heap.size w wr ∧ wr.heap[w.heap.size]? = some (.cells #[.bool mt, .bool mf, .bool ma, .bool mi, .bool mp] 23)) (fun s5 _ => len - (intOf s5).toNat)
  case atStart => exact ⟨0, t, f, a, i, p, rfl, Nat.zero_le _, HR.out, below_new (below_new (Below.refl _ _) _) _, heap_old heap_top0⟩
  case round =>
    clear CC HR
    obtain ⟨k, mt, mf, ma, mi, mp, rfl, hk, hr, hbel, hblk⟩ := hrel
    by_cases hlt : k < len
    · by_cases h100 : k < 100
      · obtain ⟨t', f', a', i', p', c, hr', hstep, hneq⟩ := stay_facts ((zs.getD k 0).tmod 9) mt mf ma mi mp hr
        have RR := Lib.hid (rightS t' f' a' i' p' true hr')
        have HR := Lib.hid hr'
        have ST := Lib.hid hstep
        have hc : wr.cell? ⟨b, off + k, none⟩ = some (.int .i64 (zs.getD k 0)) := by rw [hbel.cell (p := ⟨b, off + k, none⟩) hb]; exact HC.out k hlt
        clear hr hr' hstep
        obtain ⟨c0, z0⟩ := blk_cells hblk
        have l0 := blk_lt hblk
        have lb0 : b < wr.heap.size := by have := hbel.size; omega
        have nA : wr.heap.size ≠ w.heap.size := by omega
        have nB : wr.heap.size ≠ b := by omega
        generalize zs.getD k 0 = z at *
        have BK := Lib.hid hblk
        clear hblk
        go_wp2_with fail
        go_region_held3 (fun w' => w'.cell? ⟨w.heap.size, 0, none⟩ = some (.bool mt) ∧ w'.cell? ⟨w.heap.size, 1, none⟩ = some (.bool mf) ∧ w'.cell? ⟨w.heap.size, 2, none⟩ = some (.bool ma) ∧ w'.cell? ⟨w.heap.size, 3, none⟩ = some (.bool mi) ∧ w'.cell? ⟨w.heap.size, 4, none⟩ = some (.bool mp) ∧ w'.cell? ⟨b, off + k, none⟩ = some (.int .i64 z)) (refine ⟨?_, ?_, ?_, ?_, ?_, ?_⟩ <;> first | (simp [c0, hc]; done) | (simp [c0, hc, cell_lt, l0, lb0]; done) | (simp [c1, hc1]; done) | (simp [c1, hc1, cell_lt, l1, lb1]; done) | (simp [c1, hc1, World.cell?_setCell_far, nA, nB]; done)) (first | (go_at_call 10; refine (ST.out _).mono ?_; rintro e w1 ⟨rfl, hb1⟩; have hB1 : Below w.heap.size w w1 := (by first | exact below_call (Below.drew hbel) hb1 | exact below_call (Below.drew (below_new hbel _)) hb1); have bk1 : w1.heap[w.heap.size]? = some (.cells #[.bool mt, .bool mf, .bool ma, .bool mi, .bool mp] 23) := (by first | exact keep_blk hb1 (heap_drew BK.out) | exact keep_blk hb1 (heap_drew (heap_old BK.out))); have hc1 : w1.cell? ⟨b, off + k, none⟩ = some (.int .i64 z) := (by first | exact keep_cell hb1 (cell_drew hc) | exact keep_cell hb1 (cell_drew (cell_old hc))); have l1 := blk_lt bk1; have lb1 : b < w1.heap.size := (by have := hB1.size; omega); obtain ⟨c1, z1⟩ := blk_cells bk1; have BK1 := Lib.hid bk1; clear bk1; try (have bt1 : w1.heap[wr.heap.size]? = some (.cells #[.bool false, .bool false, .bool false, .bool false, .bool false] 23) := keep_blk hb1 (heap_drew heap_top0); obtain ⟨ct1, zt1⟩ := blk_cells bt1; have lt1 := blk_lt bt1; have BT1 := Lib.hid bt1; clear bt1)))
        all_goals
          go_wp2_with fail
          refine (RR.out _).mono ?_; rintro e w2 ⟨rfl, rfl⟩
          go_wp2_with fail
          refine ⟨⟨k + 1, t', f', a', i', p', by go_num, by omega, HR.out, ?_, ?_⟩, by simp [intOf]; omega⟩
          · repeat (first | (with_reducible exact hB1) | (with_reducible refine below_new ?_ _) | (with_reducible refine Below.drew ?_) | (with_reducible refine below_set5 ?_ (by omega)))
          · repeat (first | (with_reducible exact BK1.out) | (with_reducible refine heap_drew ?_) | (with_reducible apply set5_same) | (with_reducible refine set5_other (by omega) ?_) | (with_reducible refine heap_old ?_))
      · clear hr hblk
        go_wp2_with fail
        refine (awake_any _).mono ?_; rintro e w3 ⟨rfl, hb3⟩
        go_wp2_with fail
        go_ret
        exact ⟨rfl, below_call hbel hb3⟩
    · clear hr hblk
      go_wp2_with fail
      refine (awake_any _).mono ?_; rintro e w3 ⟨rfl, hb3⟩
      go_wp2_with fail
      go_ret
      exact ⟨rfl, below_call hbel hb3⟩
set_option maxHeartbeats 4000000 in
theorem stays_none (t f a i p : Bool) (hr : rightM t f a i p = true) (A : Option Addr) (cap : Nat) (w : World) :
    Calls Try.prog 3 #[.agg #[.bool t, .bool f, .bool a, .bool i, .bool p], .slice A 0 cap] w fun e w' => e = .returned (.bool true) ∧ Below w.heap.size w w' := by
  have cc := rightS t f a i p true hr
  have CC := Lib.hid cc
  clear cc hr
  go_enter Try.func3, Try.ntmps3
  go_wp2_with fail
  refine (CC.out _).mono ?_; rintro e w' ⟨rfl, rfl⟩
  go_wp2_with fail
  go_loopw [5] (fun s5 wr => s5 = .int .i64 0 ∧ Below w.heap.size w wr) (fun s5 _ => (intOf s5).toNat)
  case atStart => exact ⟨rfl, below_new (below_new (Below.refl _ _) _) _⟩
  case round =>
    obtain ⟨rfl, hbel⟩ := hrel
    go_wp2_with fail
    refine (awake_any _).mono ?_; rintro e w3 ⟨rfl, hb3⟩
    go_wp2_with fail
    go_ret
    exact ⟨rfl, below_call hbel hb3⟩
set_option maxHeartbeats 4000000 in
theorem stays_wrong (t f a i p : Bool) (hr : rightM t f a i p = false) (A : Option Addr) (len cap : Nat) (w : World) :
    Calls Try.prog 3 #[.agg #[.bool t, .bool f, .bool a, .bool i, .bool p], .slice A len cap] w fun e w' => e = .returned (.bool true) ∧ Below w.heap.size w w' := by
  have cc := rightS t f a i p false hr
  have CC := Lib.hid cc
  clear cc hr
  go_enter Try.func3, Try.ntmps3
  go_wp2_with fail
  refine (CC.out _).mono ?_; rintro e w' ⟨rfl, rfl⟩
  go_wp2_with fail
  refine (awake_any _).mono ?_; rintro e w3 ⟨rfl, hb3⟩
  go_wp2_with fail
  go_ret
  exact ⟨rfl, below_call (below_new (below_new (Below.refl _ _) _) _) hb3⟩
/-- The events, as they are handed in: none, or a row of cells. -/
def IsRow (k : IntKind) (w : World) (a : Option Addr) (len cap : Nat) (zs : List Int) : Prop :=
  (a = none ∧ len = 0 ∧ cap = 0 ∧ zs = []) ∨ ∃ x, a = some x ∧ len ≤ cap ∧ cap ≤ maxLen ∧ zs.length = cap ∧ (∀ i, i < zs.length → w.cell? (x.add i) = some (.int k (zs.getD i 0))) ∧ ∀ n ∈ zs, (Lit.int k n).wf = true
theorem stays_any {w : World} (t f a i p : Bool) (A : Option Addr) (len cap : Nat) (zs : List Int) (hrow : IsRow .i64 w A len cap zs) :
    Calls Try.prog 3 #[.agg #[.bool t, .bool f, .bool a, .bool i, .bool p], .slice A len cap] w fun e w' => e = .returned (.bool true) ∧ Below w.heap.size w w' := by
  cases hr : rightM t f a i p
  · exact stays_wrong t f a i p hr A len cap w
  · rcases hrow with ⟨rfl, rfl, rfl, rfl⟩ | ⟨x, rfl, hl, hm, hz, hc, _⟩
    · exact stays_none t f a i p hr none 0 w
    · by_cases h0 : len = 0
      · subst h0; exact stays_none t f a i p hr _ cap w
      · obtain ⟨b, off, rfl, hc'⟩ := ints_at hc (by omega)
        refine stays_row t f a i p hr b off len cap zs w ?_ (by unfold maxLen at hm; omega) (fun k hk => ?_)
        · exact World.block_lt_of_cell? w ⟨b, off + 0, none⟩ (hc' 0 (by omega))
        · exact hc' k (by omega)
end Go.Proofs.Ytinpgccfddmmpaa
