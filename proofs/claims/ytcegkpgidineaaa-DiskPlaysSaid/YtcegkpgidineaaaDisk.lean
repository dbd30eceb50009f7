/- The disk: its small functions. -/
import Derived.Test.YtcegkpgidineaaaByt
namespace Go.Proofs.Ytcegkpgidineaaa
open Go.RowKit
/-- A disk of N blocks: its four cells, and its bytes. -/
structure DiskAt (w : World) (D G N : Nat) (l : List Int) (left : Int) (cut torn : Bool) : Prop where
  top : w.heap[D]? = some (.cells #[.slice (some ⟨G, 0, none⟩) (N * 64) (N * 64), .int .i64 left, .bool cut, .bool torn] 52)
  row : RowAt w G l
  len : l.length = N * 64
  max : N ≤ 4096
  ne : D ≠ G
theorem DiskAt.keep {X y : World} {D G N : Nat} {l : List Int} {left : Int} {cut torn : Bool} (h : DiskAt X D G N l left cut torn) (hb : Below X.heap.size X y) : DiskAt y D G N l left cut torn :=
  ⟨keep_blk hb h.top, h.row.keep hb, h.len, h.max, h.ne⟩
/-- But for two blocks all that was there is as it was. -/
structure Moved (w w' : World) (D G : Nat) : Prop where
  os : w'.os = w.os
  tape : w'.tape = w.tape
  output : w'.output = w.output
  size : w.heap.size ≤ w'.heap.size
  block : ∀ k, k < w.heap.size → k ≠ D → k ≠ G → w'.heap[k]? = w.heap[k]?
theorem Moved.below {w w' : World} {D G B : Nat} (h : Moved w w' D G) (hB : B ≤ w.heap.size) (hD : B ≤ D) (hG : B ≤ G) : Below B w w' :=
  ⟨h.os, h.tape, h.output, h.size, fun k hk => h.block k (by omega) (by omega) (by omega)⟩
theorem Moved.of_below {w w' : World} {D G : Nat} (h : Below w.heap.size w w') : Moved w w' D G := ⟨h.os, h.tape, h.output, h.size, fun k hk _ _ => h.block k hk⟩
theorem Moved.trans {a b c : World} {D G : Nat} (h : Moved a b D G) (k : Moved b c D G) : Moved a c D G :=
  ⟨k.os.trans h.os, k.tape.trans h.tape, k.output.trans h.output, Nat.le_trans h.size k.size, fun i hi h1 h2 => (k.block i (Nat.lt_of_lt_of_le hi h.size) h1 h2).trans (h.block i hi h1 h2)⟩
theorem Moved.set {a b : World} {D G i : Nat} {v : Value} (h : Moved a b D G) : Moved a (b.setCell ⟨D, i, none⟩ v) D G :=
  ⟨h.os, h.tape, h.output, Nat.le_trans h.size (by simp), fun k hk h1 h2 => by
    rw [Below.heap_setCell b ⟨D, i, none⟩ v k h1]; exact h.block k hk h1 h2⟩
theorem Moved.alloc {a b : World} {D G : Nat} {o : Obj} (h : Moved a b D G) : Moved a (b.alloc o) D G :=
  ⟨h.os, h.tape, h.output, Nat.le_trans h.size (by simp), fun k hk h1 h2 => by
    rw [Below.heap_alloc b o k (Nat.lt_of_lt_of_le hk h.size)]; exact h.block k hk h1 h2⟩
theorem Moved.drewN {a b : World} {D G m : Nat} (h : Moved a b D G) : Moved a (b.drewN m) D G := ⟨h.os, h.tape, h.output, h.size, h.block⟩
theorem Moved.drew {a b : World} {D G : Nat} (h : Moved a b D G) : Moved a b.drew D G := ⟨h.os, h.tape, h.output, h.size, h.block⟩
theorem Moved.read {w w' : World} {D G : Nat} {A : Option Addr} {l : List Int} (h : Moved w w' D G) (hA : Read8 w A l) (hd : ∀ b off, A = some ⟨b, off, none⟩ → b ≠ D ∧ b ≠ G) : Read8 w' A l := by
  rcases hA with hA | ⟨b, off, rfl, hlt, hc⟩
  · exact .inl hA
  · obtain ⟨h1, h2⟩ := hd b off rfl
    have hb := h.block b hlt h1 h2
    exact .inr ⟨b, off, rfl, Nat.lt_of_lt_of_le hlt h.size, fun i hi => (World.cell?_of_block hb).trans (hc i hi)⟩
theorem Moved.disk {w w' : World} {D G D' G' N : Nat} {l : List Int} {left : Int} {cut torn : Bool} (h : Moved w w' D G) (hd : DiskAt w D' G' N l left cut torn) (h1 : D' ≠ D) (h2 : D' ≠ G) (h3 : G' ≠ D) (h4 : G' ≠ G) : DiskAt w' D' G' N l left cut torn :=
  ⟨(h.block _ (blk_lt hd.top) h1 h2).trans hd.top, (h.block _ hd.row.lt h3 h4).trans hd.row, hd.len, hd.max, hd.ne⟩
theorem ret_i64 {a b : Int} (h : a = b) : Ending.returned (.int .i64 a) = .returned (.int .i64 b) := by rw [h]
set_option maxHeartbeats 400000 in
theorem dblocks_any {D G N : Nat} {l : List Int} {left : Int} {cut torn : Bool} (w : World) (h : DiskAt w D G N l left cut torn) :
    Calls Try.prog 22 #[.pointer (some ⟨D, 0, none⟩)] w fun e w' => e = .returned (.int .i64 N) ∧ w' = w := by
  obtain ⟨c, z⟩ := blk_cells h.top
  have hm := h.max
  have e : (N : Int) * 64 / 64 = (N : Int) := by omega
  clear h
  go_enter Try.func22, Try.ntmps22
  go_wp2
  go_ret
  exact ⟨rfl, rfl⟩
set_option maxHeartbeats 400000 in
theorem dblocks_nil (w : World) : Calls Try.prog 22 #[.pointer none] w fun e w' => e = .returned (.int .i64 0) ∧ w' = w := by
  go_enter Try.func22, Try.ntmps22
  go_wp2
  go_ret
  exact ⟨rfl, rfl⟩
set_option maxHeartbeats 400000 in
theorem torn_any {D G N : Nat} {l : List Int} {left : Int} {cut torn : Bool} (w : World) (h : DiskAt w D G N l left cut torn) :
    Calls Try.prog 21 #[.pointer (some ⟨D, 0, none⟩)] w fun e w' => e = .returned (.bool torn) ∧ w' = w := by
  obtain ⟨c, z⟩ := blk_cells h.top
  clear h
  go_enter Try.func21, Try.ntmps21
  go_wp2
  go_ret
  exact ⟨rfl, rfl⟩
set_option maxHeartbeats 400000 in
theorem torn_nil (w : World) : Calls Try.prog 21 #[.pointer none] w fun e w' => e = .returned (.bool false) ∧ w' = w := by
  go_enter Try.func21, Try.ntmps21
  go_wp2
  go_ret
  exact ⟨rfl, rfl⟩
/-- Are so many blocks there, from one on? -/
def there (N : Nat) (a n : Int) : Bool := decide (0 ≤ a) && decide (0 ≤ n) && decide (a + n ≤ N)
/-- within's, and part's, answer. -/
def PartIs (w : World) (G N : Nat) (a n : Int) (e : Ending) (w' : World) : Prop :=
  Below w.heap.size w w' ∧ if there N a n then ∃ off, e = .returned (.tuple #[.slice (some ⟨G, off, none⟩) (n.toNat * 64) ((N - a.toNat) * 64), .bool true]) ∧ (0 < n → off = a.toNat * 64) ∧ off ≤ N * 64 else e = .returned (.tuple #[.slice none 0 0, .bool false])
set_option maxHeartbeats 1000000 in
theorem within_any (G N a n : Nat) (hN : N ≤ 4096) (ha : a ≤ N) (hn : n ≤ N) (w : World) :
    Calls Try.prog 27 #[.agg #[.slice (some ⟨G, 0, none⟩) (N * 64) (N * 64)], .int .i64 ((a : Int) * 64), .int .i64 ((n : Int) * 64)] w (PartIs w G N a n) := by
  have q1 : (0 : Int) ≤ (a : Int) * 64 := by omega
  have q2 : (0 : Int) ≤ (n : Int) * 64 := by omega
  have q3 : ((a : Int) * 64).toNat = a * 64 := by omega
  have q4 : ((a : Int) * 64 + (n : Int) * 64).toNat = a * 64 + n * 64 := by omega
  have q5 : a * 64 + n * 64 - a * 64 = n * 64 := by omega
  have q6 : N * 64 - a * 64 = (N - a) * 64 := by omega
  by_cases hf : a + n ≤ N
  · have HT := Lib.hid (show there N a n = true by simp [there]; omega)
    have g1 : (n : Int) * 64 ≤ (N : Int) * 64 - (a : Int) * 64 := by omega
    have g2 : (a : Int) * 64 + (n : Int) * 64 ≤ (N : Int) * 64 := by omega
    have g3 : (a : Int) * 64 ≤ (a : Int) * 64 + (n : Int) * 64 := by omega
    rcases Nat.lt_or_ge a N with hlt | hge
    · have hne : ¬ N * 64 = a * 64 := by omega
      go_enter Try.func27, Try.ntmps27
      go_wp2
      go_ret2
      exact ⟨below_new (Below.refl _ _) _, by rw [HT.out]; exact ⟨a * 64, by simp, fun _ => rfl, by omega⟩⟩
    · obtain rfl : a = N := by omega
      obtain rfl : n = 0 := by omega
      go_enter Try.func27, Try.ntmps27
      go_wp2
      go_ret2
      exact ⟨below_new (Below.refl _ _) _, by rw [HT.out]; exact ⟨_, by simp; rfl, (fun h => by simp at h), by omega⟩⟩
  · have HT := Lib.hid (show there N a n = false by simp [there]; omega)
    have g1 : (N : Int) * 64 - (a : Int) * 64 < (n : Int) * 64 := by omega
    go_enter Try.func27, Try.ntmps27
    go_wp2
    go_ret2
    exact ⟨below_new (Below.refl _ _) _, by rw [HT.out]; rfl⟩
set_option maxHeartbeats 1000000 in
theorem part_any {D G N : Nat} {l : List Int} {left : Int} {cut torn : Bool} (w : World) (h : DiskAt w D G N l left cut torn) (a n : Int) :
    Calls Try.prog 23 #[.pointer (some ⟨D, 0, none⟩), .int .i64 a, .int .i64 n] w (PartIs w G N a n) := by
  have HB := Lib.hid (dblocks_any w h)
  have hm := h.max
  by_cases h1 : a < 0
  · have HT := Lib.hid (show there N a n = false by simp [there]; omega)
    clear h
    go_enter Try.func23, Try.ntmps23
    go_wp2
    go_ret2
    exact ⟨Below.refl _ _, by rw [HT.out]; rfl⟩
  have h1' : 0 ≤ a := by omega
  by_cases h2 : n < 0
  · have HT := Lib.hid (show there N a n = false by simp [there]; omega)
    clear h h1
    go_enter Try.func23, Try.ntmps23
    go_wp2
    go_ret2
    exact ⟨Below.refl _ _, by rw [HT.out]; rfl⟩
  have h2' : 0 ≤ n := by omega
  by_cases h3 : (N : Int) < a
  · have HT := Lib.hid (show there N a n = false by simp [there]; omega)
    clear h h1 h2
    go_enter Try.func23, Try.ntmps23
    go_wp2_with fail
    refine HB.out.mono ?_; rintro e w ⟨rfl, rfl⟩
    go_wp2_with fail
    go_ret2
    exact ⟨Below.refl _ _, by rw [HT.out]; rfl⟩
  have h3' : a ≤ (N : Int) := by omega
  by_cases h4 : (N : Int) < n
  · have HT := Lib.hid (show there N a n = false by simp [there]; omega)
    clear h h1 h2 h3
    go_enter Try.func23, Try.ntmps23
    go_wp2_with fail
    refine HB.out.mono ?_; rintro e w ⟨rfl, rfl⟩
    go_wp2_with fail
    refine HB.out.mono ?_; rintro e w ⟨rfl, rfl⟩
    go_wp2_with fail
    go_ret2
    exact ⟨Below.refl _ _, by rw [HT.out]; rfl⟩
  have h4' : n ≤ (N : Int) := by omega
  obtain ⟨a, rfl⟩ := Int.eq_ofNat_of_zero_le h1'
  obtain ⟨n, rfl⟩ := Int.eq_ofNat_of_zero_le h2'
  have HW := Lib.hid (within_any G N a n hm (by omega) (by omega) w)
  obtain ⟨c, z⟩ := blk_cells h.top
  clear h h1 h2 h3 h4 h1' h2'
  go_enter Try.func23, Try.ntmps23
  go_wp2_with fail
  refine HB.out.mono ?_; rintro e w ⟨rfl, rfl⟩
  go_wp2_with fail
  refine HB.out.mono ?_; rintro e w ⟨rfl, rfl⟩
  go_wp2_with fail
  refine HW.out.mono ?_
  rintro e w1 ⟨hb, hh⟩
  rcases ht : there N (a : Int) (n : Int) with _ | _
  · rw [ht] at hh
    simp only [Bool.false_eq_true, if_false] at hh
    subst hh
    have HT := Lib.hid ht
    clear ht
    go_wp2_with fail
    go_ret2
    exact ⟨hb, by rw [HT.out]; rfl⟩
  · rw [ht] at hh
    simp only [if_true] at hh
    obtain ⟨A, rfl, hA⟩ := hh
    have HT := Lib.hid ht
    have HA := Lib.hid hA
    clear ht hA
    go_wp2_with fail
    go_ret2
    exact ⟨hb, by rw [HT.out]; exact ⟨A, rfl, HA.out⟩⟩
/-- So many bytes from a place on. -/
def piece (l : List Int) (a n : Int) : List Int := (l.drop (a.toNat * 64)).take (n.toNat * 64)
theorem there_bd {N : Nat} {a n : Int} (h : there N a n = true) : 0 ≤ a ∧ 0 ≤ n ∧ a + n ≤ N := by simpa [there, and_assoc] using h
theorem piece_length {l : List Int} {N : Nat} {a n : Int} (hl : l.length = N * 64) (h : there N a n = true) : (piece l a n).length = n.toNat * 64 := by
  obtain ⟨h1, h2, h3⟩ := there_bd h
  unfold piece; rw [List.length_take, List.length_drop, hl]; omega
/-- Read's answer. -/
def ReadIs (w : World) (N : Nat) (l : List Int) (a n : Int) (e : Ending) (w' : World) : Prop :=
  Below w.heap.size w w' ∧ if there N a n then ∃ A c, e = .returned (.tuple #[.slice A (n.toNat * 64) c, .int .i64 0]) ∧ Fresh8 w.heap.size w' A (piece l a n) else e = .returned (.tuple #[.slice none 0 0, .int .i64 1])
set_option maxHeartbeats 1000000 in
theorem read_any {D G N : Nat} {l : List Int} {left : Int} {cut torn : Bool} (w : World) (h : DiskAt w D G N l left cut torn) (a n : Int) :
    Calls Try.prog 18 #[.pointer (some ⟨D, 0, none⟩), .int .i64 a, .int .i64 n] w (ReadIs w N l a n) := by
  have HP := Lib.hid (part_any w h a n)
  have HD := Lib.hid h
  clear h
  go_enter Try.func18, Try.ntmps18
  go_wp2_with fail
  refine HP.out.mono ?_
  rintro e w1 ⟨hb, hh⟩
  rcases ht : there N a n with _ | _
  · rw [ht] at hh
    simp only [Bool.false_eq_true, if_false] at hh
    subst hh
    have HT := Lib.hid ht
    clear ht
    go_wp2_with fail
    go_ret2
    exact ⟨hb, by rw [HT.out]; rfl⟩
  · rw [ht] at hh
    simp only [if_true] at hh
    obtain ⟨off, rfl, hoff, _⟩ := hh
    have HT := Lib.hid ht
    obtain ⟨h1, h2, h3⟩ := there_bd ht
    have HPL := Lib.hid (piece_length HD.out.len ht)
    have HR := Lib.hid (HD.out.row.keep hb)
    have HC := Lib.hid (clone_any G off (n.toNat * 64) ((N - a.toNat) * 64) (piece l a n) HPL.out.symm (by rw [HPL.out]; have := HD.out.max; omega) w1 (fun i hi => by
      rw [HPL.out] at hi
      rw [hoff (by omega)]
      have := HR.out.cell (a.toNat * 64 + i) (by rw [HD.out.len]; omega)
      rw [this, piece, List.getD_eq_getElem?_getD, List.getD_eq_getElem?_getD, List.getElem?_take, if_pos hi, List.getElem?_drop]))
    have HB := Lib.hid hb
    clear ht hoff hb
    go_wp2_with fail
    refine HC.out.mono ?_
    rintro e w2 ⟨A, c, rfl, hf, hb2⟩
    rw [HPL.out]
    have HF := Lib.hid (hf.mono (a' := w.heap.size) HB.out.size)
    have HB2 := Lib.hid (below_call HB.out hb2)
    clear hf hb2
    go_wp2_with fail
    go_ret2
    exact ⟨HB2.out, by rw [HT.out]; exact ⟨A, c, rfl, HF.out⟩⟩
set_option maxHeartbeats 400000 in
theorem read_nil (a n : Int) (w : World) : Calls Try.prog 18 #[.pointer none, .int .i64 a, .int .i64 n] w fun e w' => e = .returned (.tuple #[.slice none 0 0, .int .i64 2]) ∧ w' = w := by
  go_enter Try.func18, Try.ntmps18
  go_wp2
  go_ret2
  exact ⟨rfl, rfl⟩
/-- A disk is what it was, but for how it is cut. -/
def TurnsTo (w : World) (D G N : Nat) (l : List Int) (left : Int) (cut torn : Bool) (e : Ending) (w' : World) : Prop :=
  e = .returned (.tuple #[]) ∧ DiskAt w' D G N l left cut torn ∧ Moved w w' D G
theorem setTop {w : World} {D G N : Nat} {l : List Int} {left left' : Int} {cut torn cut' torn' : Bool} (h : DiskAt w D G N l left cut torn) {w' : World} (ht : w'.heap[D]? = some (.cells #[.slice (some ⟨G, 0, none⟩) (N * 64) (N * 64), .int .i64 left', .bool cut', .bool torn'] 52)) (hm : w'.heap[G]? = w.heap[G]?) : DiskAt w' D G N l left' cut' torn' :=
  ⟨ht, hm.trans h.row, h.len, h.max, h.ne⟩
set_option maxHeartbeats 400000 in
theorem cut_any {D G N : Nat} {l : List Int} {left : Int} {cut torn : Bool} (w : World) (h : DiskAt w D G N l left cut torn) (m : Int) :
    Calls Try.prog 13 #[.pointer (some ⟨D, 0, none⟩), .int .i64 m] w (TurnsTo w D G N l (max m 0) true torn) := by
  have HD := Lib.hid h
  obtain ⟨c, z⟩ := blk_cells h.top
  have lt := blk_lt h.top
  clear h
  go_enter Try.func13, Try.ntmps13
  go_wp2
  go_end0
  refine ⟨rfl, setTop HD.out ?_ ?_, ?_⟩
  · have := heap_set_same (i := 1) (v := .int .i64 (max m 0)) (heap_set_same (i := 2) (v := .bool true) (HD.out.top))
    simpa using this
  · rw [Below.heap_setCell _ _ _ _ (Ne.symm HD.out.ne), Below.heap_setCell _ _ _ _ (Ne.symm HD.out.ne)]
  · exact Moved.set (Moved.set (Moved.of_below (Below.refl _ _)))
set_option maxHeartbeats 400000 in
theorem cut_nil (m : Int) (w : World) : Calls Try.prog 13 #[.pointer none, .int .i64 m] w fun e w' => e = .returned (.tuple #[]) ∧ w' = w := by
  go_enter Try.func13, Try.ntmps13
  go_wp2
  go_end0
  exact ⟨rfl, rfl⟩
set_option maxHeartbeats 400000 in
theorem mend_any {D G N : Nat} {l : List Int} {left : Int} {cut torn : Bool} (w : World) (h : DiskAt w D G N l left cut torn) :
    Calls Try.prog 15 #[.pointer (some ⟨D, 0, none⟩)] w (TurnsTo w D G N l 0 false false) := by
  have HD := Lib.hid h
  obtain ⟨c, z⟩ := blk_cells h.top
  have lt := blk_lt h.top
  clear h
  go_enter Try.func15, Try.ntmps15
  go_wp2
  go_end0
  refine ⟨rfl, setTop HD.out ?_ ?_, ?_⟩
  · have := heap_set_same (i := 3) (v := .bool false) (heap_set_same (i := 1) (v := .int .i64 0) (heap_set_same (i := 2) (v := .bool false) (HD.out.top)))
    simpa using this
  · rw [Below.heap_setCell _ _ _ _ (Ne.symm HD.out.ne), Below.heap_setCell _ _ _ _ (Ne.symm HD.out.ne), Below.heap_setCell _ _ _ _ (Ne.symm HD.out.ne)]
  · exact Moved.set (Moved.set (Moved.set (Moved.of_below (Below.refl _ _))))
set_option maxHeartbeats 400000 in
theorem mend_nil (w : World) : Calls Try.prog 15 #[.pointer none] w fun e w' => e = .returned (.tuple #[]) ∧ w' = w := by
  go_enter Try.func15, Try.ntmps15
  go_wp2
  go_end0
  exact ⟨rfl, rfl⟩
/-- May a disk have so many blocks? -/
def sizeOk (n : Int) : Bool := decide (8 ≤ n) && decide (n ≤ 4096) && decide (n % 2 = 0)
/-- New's answer. -/
def NewIs (w : World) (n : Int) (e : Ending) (w' : World) : Prop :=
  Below w.heap.size w w' ∧ if sizeOk n then ∃ D G, e = .returned (.tuple #[.pointer (some ⟨D, 0, none⟩), .int .i64 0]) ∧ w.heap.size ≤ D ∧ w.heap.size ≤ G ∧ DiskAt w' D G n.toNat (z (n.toNat * 64)) 0 false false else e = .returned (.tuple #[.pointer none, .int .i64 1])
set_option maxHeartbeats 1000000 in
theorem new_any (n : Int) (w : World) : Calls Try.prog 6 #[.int .i64 n] w (NewIs w n) := by
  by_cases h1 : n < 8
  · have HT := Lib.hid (show sizeOk n = false by simp [sizeOk]; omega)
    go_enter Try.func6, Try.ntmps6
    go_wp2
    go_ret2
    exact ⟨Below.refl _ _, by rw [HT.out]; rfl⟩
  have h1' : 8 ≤ n := by omega
  by_cases h2 : 4096 < n
  · have HT := Lib.hid (show sizeOk n = false by simp [sizeOk]; omega)
    go_enter Try.func6, Try.ntmps6
    go_wp2
    go_ret2
    exact ⟨Below.refl _ _, by rw [HT.out]; rfl⟩
  have h2' : n ≤ 4096 := by omega
  by_cases h3 : n % 2 = 0
  · have HT := Lib.hid (show sizeOk n = true by simp [sizeOk]; omega)
    have h3' : (n % 2 == 0) = true := beq_iff_eq.2 h3
    have h3n : (n % 2 != 0) = false := by rw [bne, h3']; rfl
    obtain ⟨N, rfl⟩ := Int.eq_ofNat_of_zero_le (show 0 ≤ n by omega)
    obtain ⟨i0, hi, hz0, hz1, hz2⟩ := info_parts info5
    have HI := Lib.hid hi
    have HZ0 := Lib.hid hz0
    have HZ1 := Lib.hid hz1
    have HZ2 := Lib.hid hz2
    clear hi hz0 hz1 hz2 h1 h2 h3
    go_enter Try.func6, Try.ntmps6
    go_wp2_with (at_make; refine wpList_make_full _ rfl (.tmp 16) (.tmp 16) 32 rfl w.heap.size 5 i0 (.int .u8 0) 1 Try.underlying32 HI.out HZ0.out HZ1.out .i64 .i64 ((N : Int) * 64) ((N : Int) * 64) (N * 64) rfl rfl (by omega) (by omega) ?b2 ?b3 ?b4 ?_)
    case b2 => rw [HZ2.out]; omega
    case b3 => simp only [maxLen]; omega
    case b4 => exact Nat.le_refl _
    intro w1 hown hg1
    have R1 := Lib.hid (show RowAt w1 w.heap.size (z (N * 64)) from row_made (B := w.heap.size) (by simpa [Value.cells] using hown))
    have B1 := Lib.hid (show Below w.heap.size w w1 from (Below.refl _ _).grown hg1 (Nat.le_refl _) (fun g hg => by cases hg))
    clear hown hg1
    have hlt := R1.out.lt
    go_wp2_with fail
    go_ret2
    exact ⟨B1.out.alloc B1.out.size _, by rw [HT.out]; exact ⟨w1.heap.size, w.heap.size, rfl, B1.out.size, Nat.le_refl _, heap_top0, R1.out.keep (below_new (Below.refl _ _) _), by simp [z], by omega, by omega⟩⟩
  · have HT := Lib.hid (show sizeOk n = false by simp [sizeOk]; omega)
    have h3' : (n % 2 == 0) = false := beq_eq_false_iff_ne.2 h3
    have h3n : (n % 2 != 0) = true := by rw [bne, h3']; rfl
    clear h3
    go_enter Try.func6, Try.ntmps6
    go_wp2
    go_ret2
    exact ⟨Below.refl _ _, by rw [HT.out]; rfl⟩
end Go.Proofs.Ytcegkpgidineaaa
