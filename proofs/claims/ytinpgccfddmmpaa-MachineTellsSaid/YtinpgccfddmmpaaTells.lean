/- The walk of MachineTells: any mode behind any event; whether it is right; any item's mode, and an item with any mode. -/
import Derived.Test.YtinpgccfddmmpaaIntoG
import Derived.Test.YtinpgccfddmmpaaRef
import Derived.Test.YtinpgccfddmmpaaSmall
import Derived.Deep.RegionHeld3
namespace Go.Proofs.Ytinpgccfddmmpaa
open Go.RowKit
attribute [local go_sem high] eqM
theorem tells_facts (k : Int) (t f a i p : Bool) : ∃ t' f' a' i' p' ch : Bool,
    (∀ w, Calls Try.prog 10 #[.agg #[.bool t, .bool f, .bool a, .bool i, .bool p], .int .i64 k] w fun e w' => e = .returned (.tuple #[.agg #[.bool t', .bool f', .bool a', .bool i', .bool p'], .bool ch]) ∧ Below w.heap.size w w') ∧
    (∀ w, Calls Try.prog 12 #[.agg #[.bool t, .bool f, .bool a, .bool i, .bool p], .int .i64 k] w fun e w' => e = .returned (.tuple #[.agg #[.bool t', .bool f', .bool a', .bool i', .bool p'], .bool ch]) ∧ Below w.heap.size w w') :=
  ⟨_, _, _, _, _, _, fun w => step_any k t f a i p w, fun w => rstep_any k t f a i p w⟩
set_option maxHeartbeats 16000000 in
theorem tells_any (t f a i p : Bool) (k : Int) (s0 s1 : ByteArray) (A : Option Addr) (n c : Nat) (s3 : Int) (s4 s5 : Bool) (gs : List ByteArray) (hlen : gs.length * 16 ≤ 140737488351232) (w : World) (hg : GroupsAt w A n c gs) :
    Calls Try.prog 5 #[.agg #[.bool t, .bool f, .bool a, .bool i, .bool p], .int .i64 k, .agg #[.string s0, .string s1, .slice A n c, .int .i64 s3, .bool s4, .bool s5]] w fun e w' => e = .returned (.bool true) ∧ Below w.heap.size w w' := by
  have HL := Lib.hid (show gs.length ≤ 9223372036854775807 by omega)
  have HLL := Lib.hid hlen
  have HG := Lib.hid hg
  obtain ⟨t', f', a', i', p', ch, hst, hrs⟩ := tells_facts k t f a i p
  have ST := Lib.hid hst
  have RS := Lib.hid hrs
  clear hlen hg hst hrs
  go_enter Try.func5, Try.ntmps5
  go_wp2_with fail
  refine (smallItems_any _ s0 s1 A n c s3 s4 s5 gs HL.out _ (heap_top' (by simp)) ((HG.out.below (below_new (below_new (below_new (Below.refl _ _) _) _) _)).row)).mono ?_; rintro e w1 ⟨r, rfl, hb1⟩
  cases r
  · go_wp2_with fail
    refine (awake_any _).mono ?_; rintro e w2 ⟨rfl, hb2⟩
    go_wp2_with fail
    go_ret
    exact ⟨rfl, below_call (below_call (below_new (below_new (below_new (Below.refl _ _) _) _) _) hb1) hb2⟩
  have b1_3 : w1.heap[w.heap.size]? = some (.cells #[.bool t, .bool f, .bool a, .bool i, .bool p] 23) := keep_blk hb1 (heap_old (heap_old (heap_top' (by simp))))
  have b1_5 : w1.heap[w.heap.size + 1]? = some (.cells #[.string s0, .string s1, .slice A n c, .int .i64 s3, .bool s4, .bool s5] 34) := keep_blk hb1 (heap_old (heap_top' (by simp)))
  have hB1 : Below w.heap.size w w1 := below_call (below_new (below_new (below_new (Below.refl _ _) _) _) _) hb1
  have l1_3 := blk_lt b1_3
  obtain ⟨c1_3, z1_3⟩ := blk_cells b1_3
  have B1_3 := Lib.hid b1_3
  clear b1_3
  have l1_5 := blk_lt b1_5
  obtain ⟨c1_5, z1_5⟩ := blk_cells b1_5
  have B1_5 := Lib.hid b1_5
  clear b1_5
  have n1_3_5 : w.heap.size ≠ w.heap.size + 1 := by omega
  have n1_5_3 : w.heap.size + 1 ≠ w.heap.size := by omega
  go_wp2_with fail
  refine (ST.out _).mono ?_; rintro e w2 ⟨rfl, hb2⟩
  have b2_3 : w2.heap[w.heap.size]? = some (.cells #[.bool t, .bool f, .bool a, .bool i, .bool p] 23) := keep_blk hb2 B1_3.out
  have b2_5 : w2.heap[w.heap.size + 1]? = some (.cells #[.string s0, .string s1, .slice A n c, .int .i64 s3, .bool s4, .bool s5] 34) := keep_blk hb2 B1_5.out
  have hB2 : Below w.heap.size w w2 := below_call hB1 hb2
  have l2_3 := blk_lt b2_3
  obtain ⟨c2_3, z2_3⟩ := blk_cells b2_3
  have B2_3 := Lib.hid b2_3
  clear b2_3
  have l2_5 := blk_lt b2_5
  obtain ⟨c2_5, z2_5⟩ := blk_cells b2_5
  have B2_5 := Lib.hid b2_5
  clear b2_5
  have n2_3_5 : w.heap.size ≠ w.heap.size + 1 := by omega
  have n2_5_3 : w.heap.size + 1 ≠ w.heap.size := by omega
  clear c1_3 z1_3 c1_5 z1_5
  go_wp2_with fail
  refine (RS.out _).mono ?_; rintro e w3 ⟨rfl, hb3⟩
  have b3_3 : w3.heap[w.heap.size]? = some (.cells #[.bool t, .bool f, .bool a, .bool i, .bool p] 23) := keep_blk hb3 (heap_old B2_3.out)
  have b3_5 : w3.heap[w.heap.size + 1]? = some (.cells #[.string s0, .string s1, .slice A n c, .int .i64 s3, .bool s4, .bool s5] 34) := keep_blk hb3 (heap_old B2_5.out)
  have b3_7 : w3.heap[w2.heap.size]? = some (.cells #[.bool t', .bool f', .bool a', .bool i', .bool p'] 23) := keep_blk hb3 (heap_top' (by simp))
  have hB3 : Below w.heap.size w w3 := below_call (below_new hB2 _) hb3
  have l3_3 := blk_lt b3_3
  obtain ⟨c3_3, z3_3⟩ := blk_cells b3_3
  have B3_3 := Lib.hid b3_3
  clear b3_3
  have l3_5 := blk_lt b3_5
  obtain ⟨c3_5, z3_5⟩ := blk_cells b3_5
  have B3_5 := Lib.hid b3_5
  clear b3_5
  have l3_7 := blk_lt b3_7
  obtain ⟨c3_7, z3_7⟩ := blk_cells b3_7
  have B3_7 := Lib.hid b3_7
  clear b3_7
  have n3_3_5 : w.heap.size ≠ w.heap.size + 1 := by omega
  have n3_3_7 : w.heap.size ≠ w2.heap.size := by omega
  have n3_5_3 : w.heap.size + 1 ≠ w.heap.size := by omega
  have n3_5_7 : w.heap.size + 1 ≠ w2.heap.size := by omega
  have n3_7_3 : w2.heap.size ≠ w.heap.size := by omega
  have n3_7_5 : w2.heap.size ≠ w.heap.size + 1 := by omega
  clear c2_3 z2_3 c2_5 z2_5
  go_wp2_with fail
  go_region_held3 (fun w' => w'.cell? ⟨w.heap.size, 0, none⟩ = some (.bool t) ∧ w'.cell? ⟨w.heap.size, 1, none⟩ = some (.bool f) ∧ w'.cell? ⟨w.heap.size, 2, none⟩ = some (.bool a) ∧ w'.cell? ⟨w.heap.size, 3, none⟩ = some (.bool i) ∧ w'.cell? ⟨w.heap.size, 4, none⟩ = some (.bool p) ∧ w'.cell? ⟨w.heap.size + 1, 0, none⟩ = some (.string s0) ∧ w'.cell? ⟨w.heap.size + 1, 1, none⟩ = some (.string s1) ∧ w'.cell? ⟨w.heap.size + 1, 2, none⟩ = some (.slice A n c) ∧ w'.cell? ⟨w.heap.size + 1, 3, none⟩ = some (.int .i64 s3) ∧ w'.cell? ⟨w.heap.size + 1, 4, none⟩ = some (.bool s4) ∧ w'.cell? ⟨w.heap.size + 1, 5, none⟩ = some (.bool s5) ∧ w'.cell? ⟨w2.heap.size, 0, none⟩ = some (.bool t') ∧ w'.cell? ⟨w2.heap.size, 1, none⟩ = some (.bool f') ∧ w'.cell? ⟨w2.heap.size, 2, none⟩ = some (.bool a') ∧ w'.cell? ⟨w2.heap.size, 3, none⟩ = some (.bool i') ∧ w'.cell? ⟨w2.heap.size, 4, none⟩ = some (.bool p') ∧ w'.cell? ⟨w3.heap.size, 0, none⟩ = some (.bool t') ∧ w'.cell? ⟨w3.heap.size, 1, none⟩ = some (.bool f') ∧ w'.cell? ⟨w3.heap.size, 2, none⟩ = some (.bool a') ∧ w'.cell? ⟨w3.heap.size, 3, none⟩ = some (.bool i') ∧ w'.cell? ⟨w3.heap.size, 4, none⟩ = some (.bool p')) (first | (refine ⟨?_, ?_, ?_, ?_, ?_, ?_, ?_, ?_, ?_, ?_, ?_, ?_, ?_, ?_, ?_, ?_, ?_, ?_, ?_, ?_, ?_⟩ <;> (simp [c3_3, c3_5, c3_7, l3_3, l3_5, l3_7, cell_lt, Nat.lt_succ_of_lt]; done)) | (obtain ⟨q0, q1, q2, q3, q4, q5, q6, q7, q8, q9, q10, q11, q12, q13, q14, q15, q16, q17, q18, q19, q20⟩ := ‹_ ∧ _ ∧ _ ∧ _ ∧ _ ∧ _ ∧ _ ∧ _ ∧ _ ∧ _ ∧ _ ∧ _ ∧ _ ∧ _ ∧ _ ∧ _ ∧ _ ∧ _ ∧ _ ∧ _ ∧ _›; first | exact ⟨keep_cell (by assumption) q0, keep_cell (by assumption) q1, keep_cell (by assumption) q2, keep_cell (by assumption) q3, keep_cell (by assumption) q4, keep_cell (by assumption) q5, keep_cell (by assumption) q6, keep_cell (by assumption) q7, keep_cell (by assumption) q8, keep_cell (by assumption) q9, keep_cell (by assumption) q10, keep_cell (by assumption) q11, keep_cell (by assumption) q12, keep_cell (by assumption) q13, keep_cell (by assumption) q14, keep_cell (by assumption) q15, keep_cell (by assumption) q16, keep_cell (by assumption) q17, keep_cell (by assumption) q18, keep_cell (by assumption) q19, keep_cell (by assumption) q20⟩ | exact ⟨cell_old q0, cell_old q1, cell_old q2, cell_old q3, cell_old q4, cell_old q5, cell_old q6, cell_old q7, cell_old q8, cell_old q9, cell_old q10, cell_old q11, cell_old q12, cell_old q13, cell_old q14, cell_old q15, cell_old q16, cell_old q17, cell_old q18, cell_old q19, cell_old q20⟩)) (first | (go_at_call 9; refine (awake_any _).mono ?_; rintro e wa ⟨rfl, hba⟩; have hba' : Below w.heap.size w wa := below_call (by repeat (first | (with_reducible assumption) | (with_reducible exact hB3) | (with_reducible refine below_new ?_ _) | (with_reducible refine Below.drew ?_))) hba) | (go_at_call 8; refine (right_any _ _ _ _ _ _).mono ?_; rintro e wb ⟨rfl, rfl⟩) | (go_at_call 13; refine (rightMode_any _ _ _ _ _ _).mono ?_; rintro e wb ⟨rfl, rfl⟩) | (go_at_call 14; refine (of_any _ _ _ _ _ _ _ _ _).mono ?_; rintro e wd ⟨rfl, hbd⟩; have hbd' : Below w.heap.size w wd := below_call (by repeat (first | (with_reducible assumption) | (with_reducible exact hB3) | (with_reducible refine below_new ?_ _) | (with_reducible refine Below.drew ?_))) hbd) | (go_at_call 15; refine (modeOf_any _ _ _ _ _ _ _ _ _).mono ?_; rintro e we ⟨rfl, hbe⟩; have hbe' : Below w.heap.size w we := below_call (by repeat (first | (with_reducible assumption) | (with_reducible exact hB3) | (with_reducible refine below_new ?_ _) | (with_reducible refine Below.drew ?_))) hbe) | (go_at_call 17; refine (into_any _ _ _ _ _ gs HLL.out _ _ _ _ _ _ _ _ _ (HG.out.below (by repeat (first | (with_reducible assumption) | (with_reducible exact hB3) | (with_reducible refine below_new ?_ _) | (with_reducible refine Below.drew ?_))))).mono ?_; rintro e wi ⟨Ai, ni, ci, rfl, hsi, hbi⟩; have hbi' : Below w.heap.size w wi := below_call (by repeat (first | (with_reducible assumption) | (with_reducible exact hB3) | (with_reducible refine below_new ?_ _) | (with_reducible refine Below.drew ?_))) hbi) | (go_at_call 18; refine (rinto_any _ _ _ _ _ _ _ _ _ _ _ _ _ _).mono ?_; rintro e wj ⟨rfl, hbj⟩; have hbj' : Below w.heap.size w wj := below_call (by repeat (first | (with_reducible assumption) | (with_reducible exact hB3) | (with_reducible refine below_new ?_ _) | (with_reducible refine Below.drew ?_))) hbj) | (go_at_call 16; refine (item_any _ _ _ _ _ _ _ _ gs HL.out _ _ _ _ (by first | exact hsi | exact hsi.below hbj) ((HG.out.below (by repeat (first | (with_reducible assumption) | (with_reducible exact hB3) | (with_reducible refine below_new ?_ _) | (with_reducible refine Below.drew ?_)))).row)).mono ?_; rintro e wk ⟨rfl, hbk⟩; have hbk' : Below w.heap.size w wk := below_call (by repeat (first | (with_reducible assumption) | (with_reducible exact hB3) | (with_reducible refine below_new ?_ _) | (with_reducible refine Below.drew ?_))) hbk))
  all_goals
    go_wp2_with fail
    go_ret
    exact ⟨rfl, hbk'⟩
end Go.Proofs.Ytinpgccfddmmpaa
