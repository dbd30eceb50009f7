/- The walk of MachineTwice: the same event, twice, is as once. -/
import Derived.Test.YtinpgccfddmmpaaAw
namespace Go.Proofs.Ytinpgccfddmmpaa
open Go.RowKit
theorem bcell {W w1 : World} (hb : Below W.heap.size W w1) : (∀ b o, b < W.heap.size → w1.cell? ⟨b, o, none⟩ = W.cell? ⟨b, o, none⟩) ∧ (∀ b o, b < W.heap.size → w1.frozen? ⟨b, o, none⟩ = W.frozen? ⟨b, o, none⟩) :=
  ⟨fun b o h => hb.cell (p := ⟨b, o, none⟩) h, fun b o h => hb.frozen (p := ⟨b, o, none⟩) h⟩
theorem rightS (t f a i p : Bool) (b : Bool) (h : rightM t f a i p = b) (w : World) : Calls Try.prog 8 #[.agg #[.bool t, .bool f, .bool a, .bool i, .bool p]] w fun e w' => e = .returned (.bool b) ∧ w.alloc (.cells #[.bool t, .bool f, .bool a, .bool i, .bool p] 23) = w' :=
  (right_any t f a i p w).mono (by rintro e w' ⟨rfl, hb⟩; exact ⟨by rw [h], hb⟩)
theorem stepK1 (t f a i p : Bool) : ∃ b, ∀ w, Calls Try.prog 10 #[.agg #[.bool (t), .bool (f), .bool (a), .bool (i), .bool (p)], .int .i64 1] w fun e w' => e = .returned (.tuple #[.agg #[.bool (t), .bool (f), .bool (a || !t), .bool (i), .bool (p)], .bool b]) ∧ Below w.heap.size w w' :=
  ⟨chM 1 ⟨t, f, a, i, p⟩, fun w => (step_any 1 t f a i p w).mono (by rintro e w' ⟨rfl, hb⟩; exact ⟨by simp [stepM], hb⟩)⟩
theorem againK1 (t f a i p : Bool) (w : World) : Calls Try.prog 10 #[.agg #[.bool (t), .bool (f), .bool (a || !t), .bool (i), .bool (p)], .int .i64 1] w fun e w' => e = .returned (.tuple #[.agg #[.bool (t), .bool (f), .bool (a || !t), .bool (i), .bool (p)], .bool false]) ∧ Below w.heap.size w w' :=
  (step_any 1 (t) (f) (a || !t) (i) (p) w).mono (by rintro e w' ⟨rfl, hb⟩; exact ⟨by cases t <;> cases f <;> cases a <;> cases i <;> cases p <;> rfl, hb⟩)
set_option maxHeartbeats 4000000 in
theorem twice_1 (t f a i p : Bool) (hr : rightM t f a i p = true) (e : Int) (hk : (IntKind.u64.wrap e).tmod 8 = 0) (w : World) : Calls Try.prog 4 #[.agg #[.bool t, .bool f, .bool a, .bool i, .bool p], .int .i64 e] w fun e w' => e = .returned (.bool true) ∧ Below w.heap.size w w' := by
  have c1 := rightS t f a i p true hr
  obtain ⟨b, c2⟩ := stepK1 t f a i p
  have c3 := againK1 t f a i p
  have C1 := Lib.hid c1
  have C2 := Lib.hid c2
  have C3 := Lib.hid c3
  clear c1 c2 c3 hr
  go_enter Try.func4, Try.ntmps4
  go_wp2_with fail
  refine (C1.out _).mono ?_; rintro e w' ⟨rfl, rfl⟩
  go_wp2_with fail
  refine (C2.out _).mono ?_; rintro e w1 ⟨rfl, hb1⟩
  obtain ⟨hc1, hf1⟩ := bcell hb1; simp only [World.size_alloc] at hc1 hf1
  have hz1 : w.heap.size < w1.heap.size := by have := hb1.size; simp only [World.size_alloc] at this; omega
  go_wp2_with fail
  refine (C3.out _).mono ?_; rintro e w2 ⟨rfl, hb2⟩
  obtain ⟨hc2, hf2⟩ := bcell hb2; simp only [World.size_alloc] at hc2 hf2
  have hz2 : w1.heap.size < w2.heap.size := by have := hb2.size; simp only [World.size_alloc] at this; omega
  have hz3 : w.heap.size < w2.heap.size := by omega
  go_wp2_with fail
  all_goals
    refine (awake_any _).mono ?_; rintro e w3 ⟨rfl, hb3⟩
    obtain ⟨hc3, hf3⟩ := bcell hb3; simp only [World.size_alloc] at hc3 hf3
    have hz4 : w1.heap.size < w3.heap.size := by have := hb3.size; simp only [World.size_alloc] at this; omega
    have hz5 : w2.heap.size < w3.heap.size := by have := hb3.size; simp only [World.size_alloc] at this; omega
    have hz6 : w.heap.size < w3.heap.size := by omega
    have hz7 : w.heap.size < w2.heap.size + 1 := by omega
    have hz8 : w1.heap.size < w2.heap.size + 1 := by omega
    go_wp2_with fail
    go_ret
    refine ⟨rfl, ?_⟩
    repeat (first | exact Below.refl _ _ | assumption | refine below_new ?_ _ | refine Below.drew ?_ | refine below_call ?_ (by assumption))
theorem stepK2 (t f a i p : Bool) : ∃ b, ∀ w, Calls Try.prog 10 #[.agg #[.bool (t), .bool (f), .bool (a), .bool (i), .bool (p)], .int .i64 2] w fun e w' => e = .returned (.tuple #[.agg #[.bool (false), .bool (f), .bool (false), .bool (i), .bool (p)], .bool b]) ∧ Below w.heap.size w w' :=
  ⟨chM 2 ⟨t, f, a, i, p⟩, fun w => (step_any 2 t f a i p w).mono (by rintro e w' ⟨rfl, hb⟩; exact ⟨by simp [stepM], hb⟩)⟩
theorem againK2 (t f a i p : Bool) (w : World) : Calls Try.prog 10 #[.agg #[.bool (false), .bool (f), .bool (false), .bool (i), .bool (p)], .int .i64 2] w fun e w' => e = .returned (.tuple #[.agg #[.bool (false), .bool (f), .bool (false), .bool (i), .bool (p)], .bool false]) ∧ Below w.heap.size w w' :=
  (step_any 2 (false) (f) (false) (i) (p) w).mono (by rintro e w' ⟨rfl, hb⟩; exact ⟨by cases t <;> cases f <;> cases a <;> cases i <;> cases p <;> rfl, hb⟩)
set_option maxHeartbeats 4000000 in
theorem twice_2 (t f a i p : Bool) (hr : rightM t f a i p = true) (e : Int) (hk : (IntKind.u64.wrap e).tmod 8 = 1) (w : World) : Calls Try.prog 4 #[.agg #[.bool t, .bool f, .bool a, .bool i, .bool p], .int .i64 e] w fun e w' => e = .returned (.bool true) ∧ Below w.heap.size w w' := by
  have c1 := rightS t f a i p true hr
  obtain ⟨b, c2⟩ := stepK2 t f a i p
  have c3 := againK2 t f a i p
  have C1 := Lib.hid c1
  have C2 := Lib.hid c2
  have C3 := Lib.hid c3
  clear c1 c2 c3 hr
  go_enter Try.func4, Try.ntmps4
  go_wp2_with fail
  refine (C1.out _).mono ?_; rintro e w' ⟨rfl, rfl⟩
  go_wp2_with fail
  refine (C2.out _).mono ?_; rintro e w1 ⟨rfl, hb1⟩
  obtain ⟨hc1, hf1⟩ := bcell hb1; simp only [World.size_alloc] at hc1 hf1
  have hz1 : w.heap.size < w1.heap.size := by have := hb1.size; simp only [World.size_alloc] at this; omega
  go_wp2_with fail
  refine (C3.out _).mono ?_; rintro e w2 ⟨rfl, hb2⟩
  obtain ⟨hc2, hf2⟩ := bcell hb2; simp only [World.size_alloc] at hc2 hf2
  have hz2 : w1.heap.size < w2.heap.size := by have := hb2.size; simp only [World.size_alloc] at this; omega
  have hz3 : w.heap.size < w2.heap.size := by omega
  go_wp2_with fail
  all_goals
    refine (awake_any _).mono ?_; rintro e w3 ⟨rfl, hb3⟩
    obtain ⟨hc3, hf3⟩ := bcell hb3; simp only [World.size_alloc] at hc3 hf3
    have hz4 : w1.heap.size < w3.heap.size := by have := hb3.size; simp only [World.size_alloc] at this; omega
    have hz5 : w2.heap.size < w3.heap.size := by have := hb3.size; simp only [World.size_alloc] at this; omega
    have hz6 : w.heap.size < w3.heap.size := by omega
    have hz7 : w.heap.size < w2.heap.size + 1 := by omega
    have hz8 : w1.heap.size < w2.heap.size + 1 := by omega
    go_wp2_with fail
    go_ret
    refine ⟨rfl, ?_⟩
    repeat (first | exact Below.refl _ _ | assumption | refine below_new ?_ _ | refine Below.drew ?_ | refine below_call ?_ (by assumption))
theorem stepK3 (t f a i p : Bool) : ∃ b, ∀ w, Calls Try.prog 10 #[.agg #[.bool (t), .bool (f), .bool (a), .bool (i), .bool (p)], .int .i64 3] w fun e w' => e = .returned (.tuple #[.agg #[.bool (t), .bool (f || i), .bool (a), .bool (false), .bool (p || (!i && !f))], .bool b]) ∧ Below w.heap.size w w' :=
  ⟨chM 3 ⟨t, f, a, i, p⟩, fun w => (step_any 3 t f a i p w).mono (by rintro e w' ⟨rfl, hb⟩; exact ⟨by simp [stepM], hb⟩)⟩
theorem againK3 (t f a i p : Bool) (w : World) : Calls Try.prog 10 #[.agg #[.bool (t), .bool (f || i), .bool (a), .bool (false), .bool (p || (!i && !f))], .int .i64 3] w fun e w' => e = .returned (.tuple #[.agg #[.bool (t), .bool (f || i), .bool (a), .bool (false), .bool (p || (!i && !f))], .bool false]) ∧ Below w.heap.size w w' :=
  (step_any 3 (t) (f || i) (a) (false) (p || (!i && !f)) w).mono (by rintro e w' ⟨rfl, hb⟩; exact ⟨by cases t <;> cases f <;> cases a <;> cases i <;> cases p <;> rfl, hb⟩)
set_option maxHeartbeats 4000000 in
theorem twice_3 (t f a i p : Bool) (hr : rightM t f a i p = true) (e : Int) (hk : (IntKind.u64.wrap e).tmod 8 = 2) (w : World) : Calls Try.prog 4 #[.agg #[.bool t, .bool f, .bool a, .bool i, .bool p], .int .i64 e] w fun e w' => e = .returned (.bool true) ∧ Below w.heap.size w w' := by
  have c1 := rightS t f a i p true hr
  obtain ⟨b, c2⟩ := stepK3 t f a i p
  have c3 := againK3 t f a i p
  have C1 := Lib.hid c1
  have C2 := Lib.hid c2
  have C3 := Lib.hid c3
  clear c1 c2 c3 hr
  go_enter Try.func4, Try.ntmps4
  go_wp2_with fail
  refine (C1.out _).mono ?_; rintro e w' ⟨rfl, rfl⟩
  go_wp2_with fail
  refine (C2.out _).mono ?_; rintro e w1 ⟨rfl, hb1⟩
  obtain ⟨hc1, hf1⟩ := bcell hb1; simp only [World.size_alloc] at hc1 hf1
  have hz1 : w.heap.size < w1.heap.size := by have := hb1.size; simp only [World.size_alloc] at this; omega
  go_wp2_with fail
  refine (C3.out _).mono ?_; rintro e w2 ⟨rfl, hb2⟩
  obtain ⟨hc2, hf2⟩ := bcell hb2; simp only [World.size_alloc] at hc2 hf2
  have hz2 : w1.heap.size < w2.heap.size := by have := hb2.size; simp only [World.size_alloc] at this; omega
  have hz3 : w.heap.size < w2.heap.size := by omega
  go_wp2_with fail
  all_goals
    refine (awake_any _).mono ?_; rintro e w3 ⟨rfl, hb3⟩
    obtain ⟨hc3, hf3⟩ := bcell hb3; simp only [World.size_alloc] at hc3 hf3
    have hz4 : w1.heap.size < w3.heap.size := by have := hb3.size; simp only [World.size_alloc] at this; omega
    have hz5 : w2.heap.size < w3.heap.size := by have := hb3.size; simp only [World.size_alloc] at this; omega
    have hz6 : w.heap.size < w3.heap.size := by omega
    have hz7 : w.heap.size < w2.heap.size + 1 := by omega
    have hz8 : w1.heap.size < w2.heap.size + 1 := by omega
    go_wp2_with fail
    go_ret
    refine ⟨rfl, ?_⟩
    repeat (first | exact Below.refl _ _ | assumption | refine below_new ?_ _ | refine Below.drew ?_ | refine below_call ?_ (by assumption))
theorem stepK4 (t f a i p : Bool) : ∃ b, ∀ w, Calls Try.prog 10 #[.agg #[.bool (t), .bool (f), .bool (a), .bool (i), .bool (p)], .int .i64 4] w fun e w' => e = .returned (.tuple #[.agg #[.bool (t), .bool (false), .bool (a), .bool (false), .bool (false)], .bool b]) ∧ Below w.heap.size w w' :=
  ⟨chM 4 ⟨t, f, a, i, p⟩, fun w => (step_any 4 t f a i p w).mono (by rintro e w' ⟨rfl, hb⟩; exact ⟨by simp [stepM], hb⟩)⟩
theorem againK4 (t f a i p : Bool) (w : World) : Calls Try.prog 10 #[.agg #[.bool (t), .bool (false), .bool (a), .bool (false), .bool (false)], .int .i64 4] w fun e w' => e = .returned (.tuple #[.agg #[.bool (t), .bool (false), .bool (a), .bool (false), .bool (false)], .bool false]) ∧ Below w.heap.size w w' :=
  (step_any 4 (t) (false) (a) (false) (false) w).mono (by rintro e w' ⟨rfl, hb⟩; exact ⟨by cases t <;> cases f <;> cases a <;> cases i <;> cases p <;> rfl, hb⟩)
set_option maxHeartbeats 4000000 in
theorem twice_4 (t f a i p : Bool) (hr : rightM t f a i p = true) (e : Int) (hk : (IntKind.u64.wrap e).tmod 8 = 3) (w : World) : Calls Try.prog 4 #[.agg #[.bool t, .bool f, .bool a, .bool i, .bool p], .int .i64 e] w fun e w' => e = .returned (.bool true) ∧ Below w.heap.size w w' := by
  have c1 := rightS t f a i p true hr
  obtain ⟨b, c2⟩ := stepK4 t f a i p
  have c3 := againK4 t f a i p
  have C1 := Lib.hid c1
  have C2 := Lib.hid c2
  have C3 := Lib.hid c3
  clear c1 c2 c3 hr
  go_enter Try.func4, Try.ntmps4
  go_wp2_with fail
  refine (C1.out _).mono ?_; rintro e w' ⟨rfl, rfl⟩
  go_wp2_with fail
  refine (C2.out _).mono ?_; rintro e w1 ⟨rfl, hb1⟩
  obtain ⟨hc1, hf1⟩ := bcell hb1; simp only [World.size_alloc] at hc1 hf1
  have hz1 : w.heap.size < w1.heap.size := by have := hb1.size; simp only [World.size_alloc] at this; omega
  go_wp2_with fail
  refine (C3.out _).mono ?_; rintro e w2 ⟨rfl, hb2⟩
  obtain ⟨hc2, hf2⟩ := bcell hb2; simp only [World.size_alloc] at hc2 hf2
  have hz2 : w1.heap.size < w2.heap.size := by have := hb2.size; simp only [World.size_alloc] at this; omega
  have hz3 : w.heap.size < w2.heap.size := by omega
  go_wp2_with fail
  all_goals
    refine (awake_any _).mono ?_; rintro e w3 ⟨rfl, hb3⟩
    obtain ⟨hc3, hf3⟩ := bcell hb3; simp only [World.size_alloc] at hc3 hf3
    have hz4 : w1.heap.size < w3.heap.size := by have := hb3.size; simp only [World.size_alloc] at this; omega
    have hz5 : w2.heap.size < w3.heap.size := by have := hb3.size; simp only [World.size_alloc] at this; omega
    have hz6 : w.heap.size < w3.heap.size := by omega
    have hz7 : w.heap.size < w2.heap.size + 1 := by omega
    have hz8 : w1.heap.size < w2.heap.size + 1 := by omega
    go_wp2_with fail
    go_ret
    refine ⟨rfl, ?_⟩
    repeat (first | exact Below.refl _ _ | assumption | refine below_new ?_ _ | refine Below.drew ?_ | refine below_call ?_ (by assumption))
theorem stepK5 (t f a i p : Bool) : ∃ b, ∀ w, Calls Try.prog 10 #[.agg #[.bool (t), .bool (f), .bool (a), .bool (i), .bool (p)], .int .i64 5] w fun e w' => e = .returned (.tuple #[.agg #[.bool (t), .bool (f || p), .bool (a), .bool (i || (!f && !p)), .bool (f && p)], .bool b]) ∧ Below w.heap.size w w' :=
  ⟨chM 5 ⟨t, f, a, i, p⟩, fun w => (step_any 5 t f a i p w).mono (by rintro e w' ⟨rfl, hb⟩; exact ⟨by simp [stepM], hb⟩)⟩
theorem againK5 (t f a i p : Bool) (w : World) : Calls Try.prog 10 #[.agg #[.bool (t), .bool (f || p), .bool (a), .bool (i || (!f && !p)), .bool (f && p)], .int .i64 5] w fun e w' => e = .returned (.tuple #[.agg #[.bool (t), .bool (f || p), .bool (a), .bool (i || (!f && !p)), .bool (f && p)], .bool false]) ∧ Below w.heap.size w w' :=
  (step_any 5 (t) (f || p) (a) (i || (!f && !p)) (f && p) w).mono (by rintro e w' ⟨rfl, hb⟩; exact ⟨by cases t <;> cases f <;> cases a <;> cases i <;> cases p <;> rfl, hb⟩)
set_option maxHeartbeats 4000000 in
theorem twice_5 (t f a i p : Bool) (hr : rightM t f a i p = true) (e : Int) (hk : (IntKind.u64.wrap e).tmod 8 = 4) (w : World) : Calls Try.prog 4 #[.agg #[.bool t, .bool f, .bool a, .bool i, .bool p], .int .i64 e] w fun e w' => e = .returned (.bool true) ∧ Below w.heap.size w w' := by
  have c1 := rightS t f a i p true hr
  obtain ⟨b, c2⟩ := stepK5 t f a i p
  have c3 := againK5 t f a i p
  have C1 := Lib.hid c1
  have C2 := Lib.hid c2
  have C3 := Lib.hid c3
  clear c1 c2 c3 hr
  go_enter Try.func4, Try.ntmps4
  go_wp2_with fail
  refine (C1.out _).mono ?_; rintro e w' ⟨rfl, rfl⟩
  go_wp2_with fail
  refine (C2.out _).mono ?_; rintro e w1 ⟨rfl, hb1⟩
  obtain ⟨hc1, hf1⟩ := bcell hb1; simp only [World.size_alloc] at hc1 hf1
  have hz1 : w.heap.size < w1.heap.size := by have := hb1.size; simp only [World.size_alloc] at this; omega
  go_wp2_with fail
  refine (C3.out _).mono ?_; rintro e w2 ⟨rfl, hb2⟩
  obtain ⟨hc2, hf2⟩ := bcell hb2; simp only [World.size_alloc] at hc2 hf2
  have hz2 : w1.heap.size < w2.heap.size := by have := hb2.size; simp only [World.size_alloc] at this; omega
  have hz3 : w.heap.size < w2.heap.size := by omega
  go_wp2_with fail
  all_goals
    refine (awake_any _).mono ?_; rintro e w3 ⟨rfl, hb3⟩
    obtain ⟨hc3, hf3⟩ := bcell hb3; simp only [World.size_alloc] at hc3 hf3
    have hz4 : w1.heap.size < w3.heap.size := by have := hb3.size; simp only [World.size_alloc] at this; omega
    have hz5 : w2.heap.size < w3.heap.size := by have := hb3.size; simp only [World.size_alloc] at this; omega
    have hz6 : w.heap.size < w3.heap.size := by omega
    have hz7 : w.heap.size < w2.heap.size + 1 := by omega
    have hz8 : w1.heap.size < w2.heap.size + 1 := by omega
    go_wp2_with fail
    go_ret
    refine ⟨rfl, ?_⟩
    repeat (first | exact Below.refl _ _ | assumption | refine below_new ?_ _ | refine Below.drew ?_ | refine below_call ?_ (by assumption))
theorem stepK6 (t f a i p : Bool) : ∃ b, ∀ w, Calls Try.prog 10 #[.agg #[.bool (t), .bool (f), .bool (a), .bool (i), .bool (p)], .int .i64 6] w fun e w' => e = .returned (.tuple #[.agg #[.bool (t), .bool (false), .bool (a), .bool (false), .bool (p)], .bool b]) ∧ Below w.heap.size w w' :=
  ⟨chM 6 ⟨t, f, a, i, p⟩, fun w => (step_any 6 t f a i p w).mono (by rintro e w' ⟨rfl, hb⟩; exact ⟨by simp [stepM], hb⟩)⟩
theorem againK6 (t f a i p : Bool) (w : World) : Calls Try.prog 10 #[.agg #[.bool (t), .bool (false), .bool (a), .bool (false), .bool (p)], .int .i64 6] w fun e w' => e = .returned (.tuple #[.agg #[.bool (t), .bool (false), .bool (a), .bool (false), .bool (p)], .bool false]) ∧ Below w.heap.size w w' :=
  (step_any 6 (t) (false) (a) (false) (p) w).mono (by rintro e w' ⟨rfl, hb⟩; exact ⟨by cases t <;> cases f <;> cases a <;> cases i <;> cases p <;> rfl, hb⟩)
set_option maxHeartbeats 4000000 in
theorem twice_6 (t f a i p : Bool) (hr : rightM t f a i p = true) (e : Int) (hk : (IntKind.u64.wrap e).tmod 8 = 5) (w : World) : Calls Try.prog 4 #[.agg #[.bool t, .bool f, .bool a, .bool i, .bool p], .int .i64 e] w fun e w' => e = .returned (.bool true) ∧ Below w.heap.size w w' := by
  have c1 := rightS t f a i p true hr
  obtain ⟨b, c2⟩ := stepK6 t f a i p
  have c3 := againK6 t f a i p
  have C1 := Lib.hid c1
  have C2 := Lib.hid c2
  have C3 := Lib.hid c3
  clear c1 c2 c3 hr
  go_enter Try.func4, Try.ntmps4
  go_wp2_with fail
  refine (C1.out _).mono ?_; rintro e w' ⟨rfl, rfl⟩
  go_wp2_with fail
  refine (C2.out _).mono ?_; rintro e w1 ⟨rfl, hb1⟩
  obtain ⟨hc1, hf1⟩ := bcell hb1; simp only [World.size_alloc] at hc1 hf1
  have hz1 : w.heap.size < w1.heap.size := by have := hb1.size; simp only [World.size_alloc] at this; omega
  go_wp2_with fail
  refine (C3.out _).mono ?_; rintro e w2 ⟨rfl, hb2⟩
  obtain ⟨hc2, hf2⟩ := bcell hb2; simp only [World.size_alloc] at hc2 hf2
  have hz2 : w1.heap.size < w2.heap.size := by have := hb2.size; simp only [World.size_alloc] at this; omega
  have hz3 : w.heap.size < w2.heap.size := by omega
  go_wp2_with fail
  all_goals
    refine (awake_any _).mono ?_; rintro e w3 ⟨rfl, hb3⟩
    obtain ⟨hc3, hf3⟩ := bcell hb3; simp only [World.size_alloc] at hc3 hf3
    have hz4 : w1.heap.size < w3.heap.size := by have := hb3.size; simp only [World.size_alloc] at this; omega
    have hz5 : w2.heap.size < w3.heap.size := by have := hb3.size; simp only [World.size_alloc] at this; omega
    have hz6 : w.heap.size < w3.heap.size := by omega
    have hz7 : w.heap.size < w2.heap.size + 1 := by omega
    have hz8 : w1.heap.size < w2.heap.size + 1 := by omega
    go_wp2_with fail
    go_ret
    refine ⟨rfl, ?_⟩
    repeat (first | exact Below.refl _ _ | assumption | refine below_new ?_ _ | refine Below.drew ?_ | refine below_call ?_ (by assumption))
theorem stepK7 (t f a i p : Bool) : ∃ b, ∀ w, Calls Try.prog 10 #[.agg #[.bool (t), .bool (f), .bool (a), .bool (i), .bool (p)], .int .i64 7] w fun e w' => e = .returned (.tuple #[.agg #[.bool (t || a), .bool (f), .bool (false), .bool (i), .bool (p)], .bool b]) ∧ Below w.heap.size w w' :=
  ⟨chM 7 ⟨t, f, a, i, p⟩, fun w => (step_any 7 t f a i p w).mono (by rintro e w' ⟨rfl, hb⟩; exact ⟨by simp [stepM], hb⟩)⟩
theorem againK7 (t f a i p : Bool) (w : World) : Calls Try.prog 10 #[.agg #[.bool (t || a), .bool (f), .bool (false), .bool (i), .bool (p)], .int .i64 7] w fun e w' => e = .returned (.tuple #[.agg #[.bool (t || a), .bool (f), .bool (false), .bool (i), .bool (p)], .bool false]) ∧ Below w.heap.size w w' :=
  (step_any 7 (t || a) (f) (false) (i) (p) w).mono (by rintro e w' ⟨rfl, hb⟩; exact ⟨by cases t <;> cases f <;> cases a <;> cases i <;> cases p <;> rfl, hb⟩)
set_option maxHeartbeats 4000000 in
theorem twice_7 (t f a i p : Bool) (hr : rightM t f a i p = true) (e : Int) (hk : (IntKind.u64.wrap e).tmod 8 = 6) (w : World) : Calls Try.prog 4 #[.agg #[.bool t, .bool f, .bool a, .bool i, .bool p], .int .i64 e] w fun e w' => e = .returned (.bool true) ∧ Below w.heap.size w w' := by
  have c1 := rightS t f a i p true hr
  obtain ⟨b, c2⟩ := stepK7 t f a i p
  have c3 := againK7 t f a i p
  have C1 := Lib.hid c1
  have C2 := Lib.hid c2
  have C3 := Lib.hid c3
  clear c1 c2 c3 hr
  go_enter Try.func4, Try.ntmps4
  go_wp2_with fail
  refine (C1.out _).mono ?_; rintro e w' ⟨rfl, rfl⟩
  go_wp2_with fail
  refine (C2.out _).mono ?_; rintro e w1 ⟨rfl, hb1⟩
  obtain ⟨hc1, hf1⟩ := bcell hb1; simp only [World.size_alloc] at hc1 hf1
  have hz1 : w.heap.size < w1.heap.size := by have := hb1.size; simp only [World.size_alloc] at this; omega
  go_wp2_with fail
  refine (C3.out _).mono ?_; rintro e w2 ⟨rfl, hb2⟩
  obtain ⟨hc2, hf2⟩ := bcell hb2; simp only [World.size_alloc] at hc2 hf2
  have hz2 : w1.heap.size < w2.heap.size := by have := hb2.size; simp only [World.size_alloc] at this; omega
  have hz3 : w.heap.size < w2.heap.size := by omega
  go_wp2_with fail
  all_goals
    refine (awake_any _).mono ?_; rintro e w3 ⟨rfl, hb3⟩
    obtain ⟨hc3, hf3⟩ := bcell hb3; simp only [World.size_alloc] at hc3 hf3
    have hz4 : w1.heap.size < w3.heap.size := by have := hb3.size; simp only [World.size_alloc] at this; omega
    have hz5 : w2.heap.size < w3.heap.size := by have := hb3.size; simp only [World.size_alloc] at this; omega
    have hz6 : w.heap.size < w3.heap.size := by omega
    have hz7 : w.heap.size < w2.heap.size + 1 := by omega
    have hz8 : w1.heap.size < w2.heap.size + 1 := by omega
    go_wp2_with fail
    go_ret
    refine ⟨rfl, ?_⟩
    repeat (first | exact Below.refl _ _ | assumption | refine below_new ?_ _ | refine Below.drew ?_ | refine below_call ?_ (by assumption))
theorem stepK8 (t f a i p : Bool) : ∃ b, ∀ w, Calls Try.prog 10 #[.agg #[.bool (t), .bool (f), .bool (a), .bool (i), .bool (p)], .int .i64 8] w fun e w' => e = .returned (.tuple #[.agg #[.bool (false), .bool (f), .bool (false), .bool (i), .bool (p)], .bool b]) ∧ Below w.heap.size w w' :=
  ⟨chM 8 ⟨t, f, a, i, p⟩, fun w => (step_any 8 t f a i p w).mono (by rintro e w' ⟨rfl, hb⟩; exact ⟨by simp [stepM], hb⟩)⟩
theorem againK8 (t f a i p : Bool) (w : World) : Calls Try.prog 10 #[.agg #[.bool (false), .bool (f), .bool (false), .bool (i), .bool (p)], .int .i64 8] w fun e w' => e = .returned (.tuple #[.agg #[.bool (false), .bool (f), .bool (false), .bool (i), .bool (p)], .bool false]) ∧ Below w.heap.size w w' :=
  (step_any 8 (false) (f) (false) (i) (p) w).mono (by rintro e w' ⟨rfl, hb⟩; exact ⟨by cases t <;> cases f <;> cases a <;> cases i <;> cases p <;> rfl, hb⟩)
set_option maxHeartbeats 4000000 in
theorem twice_8 (t f a i p : Bool) (hr : rightM t f a i p = true) (e : Int) (hk : (IntKind.u64.wrap e).tmod 8 = 7) (w : World) : Calls Try.prog 4 #[.agg #[.bool t, .bool f, .bool a, .bool i, .bool p], .int .i64 e] w fun e w' => e = .returned (.bool true) ∧ Below w.heap.size w w' := by
  have c1 := rightS t f a i p true hr
  obtain ⟨b, c2⟩ := stepK8 t f a i p
  have c3 := againK8 t f a i p
  have C1 := Lib.hid c1
  have C2 := Lib.hid c2
  have C3 := Lib.hid c3
  clear c1 c2 c3 hr
  go_enter Try.func4, Try.ntmps4
  go_wp2_with fail
  refine (C1.out _).mono ?_; rintro e w' ⟨rfl, rfl⟩
  go_wp2_with fail
  refine (C2.out _).mono ?_; rintro e w1 ⟨rfl, hb1⟩
  obtain ⟨hc1, hf1⟩ := bcell hb1; simp only [World.size_alloc] at hc1 hf1
  have hz1 : w.heap.size < w1.heap.size := by have := hb1.size; simp only [World.size_alloc] at this; omega
  go_wp2_with fail
  refine (C3.out _).mono ?_; rintro e w2 ⟨rfl, hb2⟩
  obtain ⟨hc2, hf2⟩ := bcell hb2; simp only [World.size_alloc] at hc2 hf2
  have hz2 : w1.heap.size < w2.heap.size := by have := hb2.size; simp only [World.size_alloc] at this; omega
  have hz3 : w.heap.size < w2.heap.size := by omega
  go_wp2_with fail
  all_goals
    refine (awake_any _).mono ?_; rintro e w3 ⟨rfl, hb3⟩
    obtain ⟨hc3, hf3⟩ := bcell hb3; simp only [World.size_alloc] at hc3 hf3
    have hz4 : w1.heap.size < w3.heap.size := by have := hb3.size; simp only [World.size_alloc] at this; omega
    have hz5 : w2.heap.size < w3.heap.size := by have := hb3.size; simp only [World.size_alloc] at this; omega
    have hz6 : w.heap.size < w3.heap.size := by omega
    have hz7 : w.heap.size < w2.heap.size + 1 := by omega
    have hz8 : w1.heap.size < w2.heap.size + 1 := by omega
    go_wp2_with fail
    go_ret
    refine ⟨rfl, ?_⟩
    repeat (first | exact Below.refl _ _ | assumption | refine below_new ?_ _ | refine Below.drew ?_ | refine below_call ?_ (by assumption))
theorem tmod8 (e : Int) : (IntKind.u64.wrap e).tmod 8 = 0 ∨ (IntKind.u64.wrap e).tmod 8 = 1 ∨ (IntKind.u64.wrap e).tmod 8 = 2 ∨ (IntKind.u64.wrap e).tmod 8 = 3 ∨ (IntKind.u64.wrap e).tmod 8 = 4 ∨ (IntKind.u64.wrap e).tmod 8 = 5 ∨ (IntKind.u64.wrap e).tmod 8 = 6 ∨ (IntKind.u64.wrap e).tmod 8 = 7 := by
  have h0 : 0 ≤ IntKind.u64.wrap e := by unfold IntKind.wrap; simp [IntKind.signed, IntKind.bits]; omega
  rw [Int.tmod_eq_emod_of_nonneg h0]
  omega
set_option maxHeartbeats 4000000 in
theorem twice_wrong (t f a i p : Bool) (hr : rightM t f a i p = false) (e : Int) (w : World) : Calls Try.prog 4 #[.agg #[.bool t, .bool f, .bool a, .bool i, .bool p], .int .i64 e] w fun e w' => e = .returned (.bool true) ∧ Below w.heap.size w w' := by
  have c1 := rightS t f a i p false hr
  have C1 := Lib.hid c1
  clear c1 hr
  go_enter Try.func4, Try.ntmps4
  go_wp2_with fail
  refine (C1.out _).mono ?_; rintro e w' ⟨rfl, rfl⟩
  go_wp2_with fail
  refine (awake_any _).mono ?_; rintro e w3 ⟨rfl, hb3⟩
  go_wp2_with fail
  go_ret
  refine ⟨rfl, ?_⟩
  repeat (first | exact Below.refl _ _ | assumption | refine below_new ?_ _ | refine Below.drew ?_ | refine below_call ?_ (by assumption))
theorem twice_any (t f a i p : Bool) (e : Int) (w : World) : Calls Try.prog 4 #[.agg #[.bool t, .bool f, .bool a, .bool i, .bool p], .int .i64 e] w fun e w' => e = .returned (.bool true) ∧ Below w.heap.size w w' := by
  cases hr : rightM t f a i p
  · exact twice_wrong t f a i p hr e w
  · rcases tmod8 e with h | h | h | h | h | h | h | h
    · exact twice_1 t f a i p hr e h w
    · exact twice_2 t f a i p hr e h w
    · exact twice_3 t f a i p hr e h w
    · exact twice_4 t f a i p hr e h w
    · exact twice_5 t f a i p hr e h w
    · exact twice_6 t f a i p hr e h w
    · exact twice_7 t f a i p hr e h w
    · exact twice_8 t f a i p hr e h w
end Go.Proofs.Ytinpgccfddmmpaa
