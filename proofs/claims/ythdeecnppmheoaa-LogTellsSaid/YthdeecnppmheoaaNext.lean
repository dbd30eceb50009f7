/- next: the record at the beginning of bytes. -/
import Derived.Test.YthdeecnppmheoaaEqual
import Derived.Test.YthdeecnppmheoaaPut
import Derived.Lib.SmallJoins
namespace Go.Proofs.Ythdeecnppmheoaa
open Go.RowKit
theorem getF_bd (x0 x1 x2 x3 : Int) (a0 : 0 ≤ x0) (b0 : x0 ≤ 255) (a1 : 0 ≤ x1) (b1 : x1 ≤ 255) (a2 : 0 ≤ x2) (b2 : x2 ≤ 255) (a3 : 0 ≤ x3) (b3 : x3 ≤ 255) : 0 ≤ getF x0 x1 x2 x3 ∧ getF x0 x1 x2 x3 ≤ 4294967295 := by unfold getF; omega
/-- The number at a place of a list. -/
def numAt (l : List Int) (i : Nat) : Nat := (getF (l.getD i 0) (l.getD (i + 1) 0) (l.getD (i + 2) 0) (l.getD (i + 3) 0)).toNat
theorem numAt_eq {l : List Int} (h : Bytes8 l) (i : Nat) : getF (l.getD i 0) (l.getD (i + 1) 0) (l.getD (i + 2) 0) (l.getD (i + 3) 0) = (numAt l i : Int) ∧ numAt l i ≤ 4294967295 := by
  obtain ⟨a0, b0⟩ := bytes8_get h i
  obtain ⟨a1, b1⟩ := bytes8_get h (i + 1)
  obtain ⟨a2, b2⟩ := bytes8_get h (i + 2)
  obtain ⟨a3, b3⟩ := bytes8_get h (i + 3)
  have := getF_bd _ _ _ _ a0 b0 a1 b1 a2 b2 a3 b3
  unfold numAt; omega
/-- get at a slice that reads on from a place of a list. -/
theorem get_at (b off i n c : Nat) (l : List Int) (h8 : Bytes8 l) (hn : 4 ≤ n) (hi : i + 4 ≤ l.length) (w : World) (hcell : ∀ i, i < l.length → w.cell? ⟨b, off + i, none⟩ = some (.int .u8 (l.getD i 0))) :
    Calls Try.prog 27 #[.slice (some ⟨b, off + i, none⟩) n c] w fun e w' => e = .returned (.int .u32 (numAt l i)) ∧ ∃ m, w' = w.drewN m := by
  obtain ⟨a0, b0⟩ := bytes8_get h8 i
  obtain ⟨a1, b1⟩ := bytes8_get h8 (i + 1)
  obtain ⟨a2, b2⟩ := bytes8_get h8 (i + 2)
  obtain ⟨a3, b3⟩ := bytes8_get h8 (i + 3)
  refine (get_any b (off + i) n c _ _ _ _ (by omega) a0 b0 a1 b1 a2 b2 a3 b3 w (hcell i (by omega)) (by rw [Nat.add_assoc]; exact hcell (i + 1) (by omega)) (by rw [Nat.add_assoc]; exact hcell (i + 2) (by omega)) (by rw [Nat.add_assoc]; exact hcell (i + 3) (by omega))).mono ?_
  rintro e w' ⟨rfl, hm⟩
  exact ⟨by rw [(numAt_eq h8 i).1], hm⟩
theorem blocks_nat (N : Nat) (h : N ≤ 4294967295) (w : World) : Calls Try.prog 22 #[.int .i64 (N : Int)] w fun e w' => e = .returned (.int .i64 (((N + 81) / 64 : Nat) : Int)) ∧ w' = w := by
  refine (blocks_any N (by omega) (by omega) w).mono ?_
  rintro e w' ⟨rfl, rfl⟩
  exact ⟨by rw [show ((N : Int) + 81) / 64 = (((N + 81) / 64 : Nat) : Int) by omega], rfl⟩
def magic : List Int := [67, 68, 88, 49]
/-- No record: nothing, and 0 blocks. -/
def NoRec (w : World) (e : Ending) (w' : World) : Prop := e = .returned (.tuple #[.agg #[.int .u32 0, .int .u8 0, .slice none 0 0], .int .i64 0]) ∧ Below w.heap.size w w'
set_option maxHeartbeats 1000000 in
theorem next_short (A : Option Addr) (n c : Nat) (hn : (n : Int) < 64) (w : World) : Calls Try.prog 19 #[.slice A n c] w (NoRec w) := by
  go_enter Try.func19, Try.ntmps19
  go_wp2
  refine bodyPost_ret (v := .tuple #[.agg #[.int .u32 0, .int .u8 0, .slice none 0 0], .int .i64 0]) ?_ rfl ⟨rfl, ?_⟩
  · simp [results, Try.results19, go_sem]
  · exact below_new (Below.refl _ _) _
/-- The magic, laid as a constant. -/
theorem magic_const (w : World) : (convert 23 23 (.slice (some ⟨w.heap.size + 1, 0, none⟩) 4 4)).run Try.prog ((w.alloc (.cells #[.int .u32 0, .int .u8 0, .slice none 0 0] 34)).alloc (.cells #[.int .u8 67, .int .u8 68, .int .u8 88, .int .u8 49] 5)) =
    .ok (.slice (some ⟨w.heap.size + 1, 0, none⟩) 4 4) ((w.alloc (.cells #[.int .u32 0, .int .u8 0, .slice none 0 0] 34)).alloc (.cells #[.int .u8 67, .int .u8 68, .int .u8 88, .int .u8 49] 5 (4, 5))) :=
  Joins.run_convert_bytes_const_at (P := Try.prog) (w.alloc (.cells #[.int .u32 0, .int .u8 0, .slice none 0 0] 34)) 23 5 #[.int .u8 67, .int .u8 68, .int .u8 88, .int .u8 49] 4 4 (w.heap.size + 1) (by simp) Try.underlying23 Try.underlying5
theorem magic_read (w : World) : Read8 ((w.alloc (.cells #[.int .u32 0, .int .u8 0, .slice none 0 0] 34)).alloc (.cells #[.int .u8 67, .int .u8 68, .int .u8 88, .int .u8 49] 5 (4, 5))) (some ⟨w.heap.size + 1, 0, none⟩) magic :=
  .inr ⟨_, 0, rfl, by simp, fun i hi => by
    rw [Joins.cell_alloc_mark_at _ _ _ _ _ _ (by simp)]
    have : i = 0 ∨ i = 1 ∨ i = 2 ∨ i = 3 := by simp only [magic, List.length_cons, List.length_nil] at hi; omega
    rcases this with rfl | rfl | rfl | rfl <;> rfl⟩
theorem magic8 : Bytes8 magic := by unfold Bytes8 magic; simp
set_option maxHeartbeats 1000000 in
theorem next_magic (b off n c : Nat) (l : List Int) (hn : n = l.length) (h64 : (64 : Int) ≤ (n : Int)) (hc : n ≤ c) (h8 : Bytes8 l) (w : World) (hlt : b < w.heap.size) (hcell : ∀ i, i < l.length → w.cell? ⟨b, off + i, none⟩ = some (.int .u8 (l.getD i 0))) (hm : l.take 4 ≠ magic) :
    Calls Try.prog 19 #[.slice (some ⟨b, off, none⟩) n c] w (NoRec w) := by
  have kc := magic_const w
  have HP := Lib.hid (hasPrefix_any b off n c (some ⟨w.heap.size + 1, 0, none⟩) 4 4 l magic hn rfl (by omega) hc h8 magic8 _ (by simp; omega) (fun i hi => cell_old (cell_old (hcell i hi))) (magic_read w))
  have HM := Lib.hid (decide_eq_false hm)
  clear hcell hm hn h8
  go_enter Try.func19, Try.ntmps19
  go_wp2_with fail
  refine HP.out.mono ?_; rintro e w1 ⟨rfl, rfl⟩
  simp only [HM.out]
  go_wp2_with fail
  refine bodyPost_ret (v := .tuple #[.agg #[.int .u32 0, .int .u8 0, .slice none 0 0], .int .i64 0]) ?_ rfl ⟨rfl, ?_⟩
  · simp [results, Try.results19, go_sem]
  · exact below_new (below_new (Below.refl _ _) _) _
/-- The cells of the bytes, in whatever world. -/
def Has8 (w : World) (b off : Nat) (l : List Int) : Prop := ∀ i, i < l.length → w.cell? ⟨b, off + i, none⟩ = some (.int .u8 (l.getD i 0))
theorem Has8.old {w : World} {b off : Nat} {l : List Int} {o : Obj} (h : Has8 w b off l) : Has8 (w.alloc o) b off l := fun i hi => cell_old (h i hi)
theorem Has8.drew {w : World} {b off : Nat} {l : List Int} (h : Has8 w b off l) : Has8 w.drew b off l := h
theorem Has8.drewN {w : World} {b off m : Nat} {l : List Int} (h : Has8 w b off l) : Has8 (w.drewN m) b off l := h
theorem cell_drewN {w : World} {a : Addr} {v : Value} {m : Nat} (h : w.cell? a = some v) : (w.drewN m).cell? a = some v := h
theorem quiet_add' {P : Program} {f : FuncId} {args : Array Value} {w : World} {a n : Nat} {v : Value} (h : Calls P f args (w.drewN (a + n)) fun e w' => e = .returned v ∧ ∃ m, w' = (w.drewN (a + n)).drewN m) :
    Calls P f args (w.drewN (a + n)) fun e w' => e = .returned v ∧ ∃ m, w' = w.drewN (a + m) :=
  h.mono fun _ _ hh => by
    obtain ⟨he, m, hm⟩ := hh
    exact ⟨he, n + m, by rw [hm, World.drewN_drewN, Nat.add_assoc]⟩
/-- A piece of the bytes reads as the piece of the list. -/
theorem has8_mid {w : World} {b off : Nat} {l : List Int} (h : Has8 w b off l) (hb : b < w.heap.size) (i m : Nat) : Read8 w (some ⟨b, off + i, none⟩) ((l.drop i).take m) :=
  .inr ⟨b, off + i, rfl, hb, fun j hj => by
    rw [List.length_take, List.length_drop] at hj
    rw [Nat.add_assoc, h (i + j) (by omega), List.getD_eq_getElem?_getD, List.getD_eq_getElem?_getD, List.getElem?_take, if_pos (by omega), List.getElem?_drop]⟩
set_option maxHeartbeats 2000000 in
theorem next_far (b off n c : Nat) (l : List Int) (hn : n = l.length) (h64 : (64 : Int) ≤ (n : Int)) (hmax : n ≤ 140737488351232) (hc : n ≤ c) (h8 : Bytes8 l) (w : World) (hlt : b < w.heap.size) (hcell : Has8 w b off l) (hm : l.take 4 = magic) (hk : n / 64 < (numAt l 8 + 81) / 64) :
    Calls Try.prog 19 #[.slice (some ⟨b, off, none⟩) n c] w (NoRec w) := by
  have kc := magic_const w
  have HP := Lib.hid (hasPrefix_any b off n c (some ⟨w.heap.size + 1, 0, none⟩) 4 4 l magic hn rfl (by omega) hc h8 magic8 _ (by simp; omega) (fun i hi => cell_old (cell_old (hcell i hi))) (magic_read w))
  have HM := Lib.hid (decide_eq_true hm)
  obtain ⟨_, hN⟩ := numAt_eq h8 8
  have HG := Lib.hid (fun wx hx => get_at b off 8 (n - 8) (c - 8) l h8 (by omega) (by omega) wx hx)
  have HB := Lib.hid (blocks_nat (numAt l 8) hN)
  have HH := Lib.hid hcell
  generalize numAt l 8 = N at *
  obtain ⟨K, hK⟩ : ∃ K, (N + 81) / 64 = K := ⟨_, rfl⟩
  rw [hK] at hk HB
  have hk' : (n : Int) / 64 < (K : Int) := by omega
  clear hcell hm hn h8 hk hK
  go_enter Try.func19, Try.ntmps19
  go_wp2_with fail
  refine HP.out.mono ?_; rintro e w1 ⟨rfl, rfl⟩
  simp only [HM.out]
  go_wp2_with fail
  refine (HG.out _ HH.out.old.old).mono ?_
  rintro e w2 ⟨rfl, m, rfl⟩
  go_wp2_with fail
  refine (HB.out _).mono ?_; rintro e w3 ⟨rfl, rfl⟩
  go_wp2_with fail
  have hw1 : IntKind.i64.wrap ((n : Int) / 64) = (n : Int) / 64 := IntWalk.i64_in _ (by omega)
  have hg1 : decide ((n : Int) / 64 < (K : Int)) = true := decide_eq_true hk'
  go_quiet (fail)
  clear hw1 hg1
  go_wp2_with fail
  refine bodyPost_ret (v := .tuple #[.agg #[.int .u32 0, .int .u8 0, .slice none 0 0], .int .i64 0]) ?_ rfl ⟨rfl, ?_⟩
  · simp [results, Try.results19, go_sem]
  · repeat (first | (with_reducible exact Below.refl _ _) | (with_reducible refine below_new ?_ _) | (with_reducible refine Below.drew ?_) | (with_reducible refine below_drewNs ?_) | (with_reducible refine below_set ?_ (Nat.le_refl _)))
set_option maxHeartbeats 2000000 in
theorem next_open (b off n c : Nat) (l : List Int) (hn : n = l.length) (h64 : (64 : Int) ≤ (n : Int)) (hmax : n ≤ 140737488351232) (hc : n ≤ c) (h8 : Bytes8 l) (w : World) (hlt : b < w.heap.size) (hcell : Has8 w b off l) (hm : l.take 4 = magic) (hk : (numAt l 8 + 81) / 64 ≤ n / 64) (hw : l.getD ((numAt l 8 + 81) / 64 * 64 - 1) 0 ≠ 1) :
    Calls Try.prog 19 #[.slice (some ⟨b, off, none⟩) n c] w (NoRec w) := by
  have kc := magic_const w
  have HP := Lib.hid (hasPrefix_any b off n c (some ⟨w.heap.size + 1, 0, none⟩) 4 4 l magic hn rfl (by omega) hc h8 magic8 _ (by simp; omega) (fun i hi => cell_old (cell_old (hcell i hi))) (magic_read w))
  have HM := Lib.hid (decide_eq_true hm)
  obtain ⟨_, hN⟩ := numAt_eq h8 8
  have HG := Lib.hid (fun wx hx => get_at b off 8 (n - 8) (c - 8) l h8 (by omega) (by omega) wx hx)
  have HB := Lib.hid (blocks_nat (numAt l 8) hN)
  have hlast := hcell ((numAt l 8 + 81) / 64 * 64 - 1) (by omega)
  have HH := Lib.hid hcell
  generalize numAt l 8 = N at *
  obtain ⟨K, hK⟩ : ∃ K, (N + 81) / 64 = K := ⟨_, rfl⟩
  rw [hK] at hk HB hw hlast
  have hk1 : 1 ≤ K := by omega
  have hk' : (K : Int) ≤ (n : Int) / 64 := by omega
  have hkn : 64 * K ≤ n := by omega
  have hNK : N + 18 ≤ 64 * K := by omega
  have HX := Lib.hid (show (l.getD (K * 64 - 1) 0 == (1 : Int)) = false from beq_eq_false_iff_ne.2 hw)
  generalize l.getD (K * 64 - 1) 0 = x at *
  clear hcell hm hn h8 hk hK hw
  go_enter Try.func19, Try.ntmps19
  go_wp2_with fail
  refine HP.out.mono ?_; rintro e w1 ⟨rfl, rfl⟩
  simp only [HM.out]
  go_wp2_with fail
  refine (HG.out _ HH.out.old.old).mono ?_
  rintro e w2 ⟨rfl, m, rfl⟩
  go_wp2_with fail
  refine (HB.out _).mono ?_; rintro e w3 ⟨rfl, rfl⟩
  go_wp2_with fail
  have hx := HX.out
  have hx2 : (x != (1 : Int)) = true := by rw [bne, hx]; rfl
  have hw1 : IntKind.i64.wrap ((n : Int) / 64) = (n : Int) / 64 := IntWalk.i64_in _ (by omega)
  have hg1 : decide ((n : Int) / 64 < (K : Int)) = false := decide_eq_false (by omega)
  have hw2 : IntKind.i64.wrap ((K : Int) * 64) = (K : Int) * 64 := IntWalk.i64_in _ (by omega)
  have hw3 : IntKind.i64.wrap ((K : Int) * 64 - 1) = (K : Int) * 64 - 1 := IntWalk.i64_in _ (by omega)
  have hw4 : ((K : Int) * 64 - 1).toNat = K * 64 - 1 := by omega
  have hp0 : (0 : Int) ≤ (K : Int) * 64 - 1 := by omega
  have hp1 : (K : Int) * 64 - 1 < (n : Int) := by omega
  have hp2 : (1 : Int) ≤ (K : Int) * 64 := by omega
  have hp3 : (K : Int) * 64 ≤ (n : Int) := by omega
  go_quiet (fail)
  clear hw1 hg1 hw2 hw3 hw4
  go_wp2_with fail
  refine bodyPost_ret (v := .tuple #[.agg #[.int .u32 0, .int .u8 0, .slice none 0 0], .int .i64 0]) ?_ rfl ⟨rfl, ?_⟩
  · simp [results, Try.results19, go_sem]
  · repeat (first | (with_reducible exact Below.refl _ _) | (with_reducible refine below_new ?_ _) | (with_reducible refine Below.drew ?_) | (with_reducible refine below_drewNs ?_) | (with_reducible refine below_set ?_ (Nat.le_refl _)))
set_option maxHeartbeats 2000000 in
theorem next_sum (b off n c : Nat) (l : List Int) (hn : n = l.length) (h64 : (64 : Int) ≤ (n : Int)) (hmax : n ≤ 140737488351232) (hc : n ≤ c) (h8 : Bytes8 l) (w : World) (hlt : b < w.heap.size) (hcell : Has8 w b off l) (hm : l.take 4 = magic) (hk : (numAt l 8 + 81) / 64 ≤ n / 64) (hw : l.getD ((numAt l 8 + 81) / 64 * 64 - 1) 0 = 1) (hsum : (numAt l (13 + numAt l 8) : Int) ≠ sumF ((l.drop 4).take (numAt l 8 + 9))) :
    Calls Try.prog 19 #[.slice (some ⟨b, off, none⟩) n c] w (NoRec w) := by
  have kc := magic_const w
  have HP := Lib.hid (hasPrefix_any b off n c (some ⟨w.heap.size + 1, 0, none⟩) 4 4 l magic hn rfl (by omega) hc h8 magic8 _ (by simp; omega) (fun i hi => cell_old (cell_old (hcell i hi))) (magic_read w))
  have HM := Lib.hid (decide_eq_true hm)
  obtain ⟨_, hN⟩ := numAt_eq h8 8
  have HG := Lib.hid (fun wx hx => get_at b off 8 (n - 8) (c - 8) l h8 (by omega) (by omega) wx hx)
  have HB := Lib.hid (blocks_nat (numAt l 8) hN)
  have hlast := hcell ((numAt l 8 + 81) / 64 * 64 - 1) (by omega)
  have HH := Lib.hid hcell
  have HG2 := Lib.hid (fun wx hx => get_at b off (13 + numAt l 8) (n - (13 + numAt l 8)) (c - (13 + numAt l 8)) l h8 (by omega) (by omega) wx hx)
  have HS2 := Lib.hid (fun wx hx => sum_any (some ⟨b, off + 4, none⟩) (13 + numAt l 8 - 4) (c - 4) ((l.drop 4).take (numAt l 8 + 9)) (by simp; omega) wx (by simp; omega) (bytes8_take (bytes8_drop h8 4) _) hx)
  have HR2 := Lib.hid (fun wx (hx : Has8 wx b off l) (hb : b < wx.heap.size) => has8_mid hx hb 4 (numAt l 8 + 9))
  have HSN := Lib.hid (show ((numAt l (13 + numAt l 8) : Int) == sumF ((l.drop 4).take (numAt l 8 + 9))) = false from beq_eq_false_iff_ne.2 hsum)
  generalize sumF ((l.drop 4).take (numAt l 8 + 9)) = S at *
  generalize numAt l (13 + numAt l 8) = G at *
  generalize numAt l 8 = N at *
  obtain ⟨K, hK⟩ : ∃ K, (N + 81) / 64 = K := ⟨_, rfl⟩
  rw [hK] at hk HB hw hlast
  have hk1 : 1 ≤ K := by omega
  have hk' : (K : Int) ≤ (n : Int) / 64 := by omega
  have hkn : 64 * K ≤ n := by omega
  have hNK : N + 18 ≤ 64 * K := by omega
  have HX := Lib.hid (show (l.getD (K * 64 - 1) 0 == (1 : Int)) = true from beq_iff_eq.2 hw)
  generalize l.getD (K * 64 - 1) 0 = x at *
  clear hcell hm hn h8 hk hK hw hsum
  go_enter Try.func19, Try.ntmps19
  go_wp2_with fail
  refine HP.out.mono ?_; rintro e w1 ⟨rfl, rfl⟩
  simp only [HM.out]
  go_wp2_with fail
  refine (HG.out _ HH.out.old.old).mono ?_
  rintro e w2 ⟨rfl, m, rfl⟩
  go_wp2_with fail
  refine (HB.out _).mono ?_; rintro e w3 ⟨rfl, rfl⟩
  go_wp2_with fail
  have hx := HX.out
  have hx2 : (x != (1 : Int)) = false := by rw [bne, hx]; rfl
  have hw1 : IntKind.i64.wrap ((n : Int) / 64) = (n : Int) / 64 := IntWalk.i64_in _ (by omega)
  have hg1 : decide ((n : Int) / 64 < (K : Int)) = false := decide_eq_false (by omega)
  have hw2 : IntKind.i64.wrap ((K : Int) * 64) = (K : Int) * 64 := IntWalk.i64_in _ (by omega)
  have hw3 : IntKind.i64.wrap ((K : Int) * 64 - 1) = (K : Int) * 64 - 1 := IntWalk.i64_in _ (by omega)
  have hw4 : ((K : Int) * 64 - 1).toNat = K * 64 - 1 := by omega
  have hp0 : (0 : Int) ≤ (K : Int) * 64 - 1 := by omega
  have hp1 : (K : Int) * 64 - 1 < (n : Int) := by omega
  have hp2 : (1 : Int) ≤ (K : Int) * 64 := by omega
  have hp3 : (K : Int) * 64 ≤ (n : Int) := by omega
  have hw5 : IntKind.i64.wrap (13 + (N : Int)) = 13 + (N : Int) := IntWalk.i64_in _ (by omega)
  have hw6 : (13 + (N : Int)).toNat = 13 + N := by omega
  have hp4 : (0 : Int) ≤ 13 + (N : Int) := by omega
  have hp5 : (13 : Int) + (N : Int) ≤ (n : Int) := by omega
  have hp6 : (13 : Int) + (N : Int) ≤ (c : Int) := by omega
  have hp7 : (4 : Int) ≤ 13 + (N : Int) := by omega
  have hgs := HSN.out
  have hgs2 : ((G : Int) != S) = true := by rw [bne, hgs]; rfl
  go_quiet ((first | (go_at_call 27; exact quiet_add' (HG2.out _ HH.out.old.old.drewN)) | (go_at_call 11; exact quiet_again (HS2.out _ (HR2.out _ HH.out.old.old.drewN (by simp; omega))))))
  clear hw1 hg1 hw2 hw3 hw4 hw5 hw6
  go_wp2_with fail
  refine bodyPost_ret (v := .tuple #[.agg #[.int .u32 0, .int .u8 0, .slice none 0 0], .int .i64 0]) ?_ rfl ⟨rfl, ?_⟩
  · simp [results, Try.results19, go_sem]
  · repeat (first | (with_reducible exact Below.refl _ _) | (with_reducible refine below_new ?_ _) | (with_reducible refine Below.drew ?_) | (with_reducible refine below_drewNs ?_) | (with_reducible refine below_set ?_ (Nat.le_refl _)))
/-- A record: its parts, and how many blocks it has. -/
def IsRec (w : World) (seq kind : Int) (data : List Int) (K : Nat) (e : Ending) (w' : World) : Prop :=
  ∃ A c, e = .returned (.tuple #[.agg #[.int .u32 seq, .int .u8 kind, .slice A data.length c], .int .i64 (K : Int)]) ∧ Fresh8 w.heap.size w' A data ∧ Below w.heap.size w w'
theorem Has8.keep {X y : World} {b off : Nat} {l : List Int} (h : Has8 X b off l) (hb : Below X.heap.size X y) : Has8 y b off l := fun i hi => keep_cell hb (h i hi)
theorem has8_piece {w : World} {b off : Nat} {l : List Int} (h : Has8 w b off l) (i m : Nat) : ∀ j, j < ((l.drop i).take m).length → w.cell? ⟨b, off + i + j, none⟩ = some (.int .u8 (((l.drop i).take m).getD j 0)) := fun j hj => by
  rw [List.length_take, List.length_drop] at hj
  rw [Nat.add_assoc, h (i + j) (by omega), List.getD_eq_getElem?_getD, List.getD_eq_getElem?_getD, List.getElem?_take, if_pos (by omega), List.getElem?_drop]
end Go.Proofs.Ythdeecnppmheoaa
