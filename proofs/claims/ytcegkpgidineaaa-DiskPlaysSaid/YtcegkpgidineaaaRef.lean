/- The reference's disk. -/
import Derived.Test.YtcegkpgidineaaaAw
import Derived.RegionTactic
namespace Go.Proofs.Ytcegkpgidineaaa
open Go.RowKit
/-- The reference's disk: its three cells, and its bytes. -/
structure RefAt (w : World) (R H N : Nat) (l : List Int) (left : Int) (torn : Bool) : Prop where
  top : w.heap[R]? = some (.cells #[.slice (some ⟨H, 0, none⟩) (N * 64) (N * 64), .int .i64 left, .bool torn] 44)
  row : RowAt w H l
  len : l.length = N * 64
  max : N ≤ 4096
  ne : R ≠ H
theorem RefAt.keep {X y : World} {D G N : Nat} {l : List Int} {left : Int} {torn : Bool} (h : RefAt X D G N l left torn) (hb : Below X.heap.size X y) : RefAt y D G N l left torn :=
  ⟨keep_blk hb h.top, h.row.keep hb, h.len, h.max, h.ne⟩
theorem Moved.ref {w w' : World} {D G D' G' N : Nat} {l : List Int} {left : Int} {torn : Bool} (h : Moved w w' D G) (hd : RefAt w D' G' N l left torn) (h1 : D' ≠ D) (h2 : D' ≠ G) (h3 : G' ≠ D) (h4 : G' ≠ G) : RefAt w' D' G' N l left torn :=
  ⟨(h.block _ (blk_lt hd.top) h1 h2).trans hd.top, (h.block _ hd.row.lt h3 h4).trans hd.row, hd.len, hd.max, hd.ne⟩
/-- How many are left, as the reference says it. -/
def refLeft (left : Int) (cut : Bool) : Int := if cut then left else -1
set_option maxHeartbeats 400000 in
theorem rblocks_any {R H N : Nat} {l : List Int} {left : Int} {torn : Bool} (w : World) (h : RefAt w R H N l left torn) :
    Calls Try.prog 24 #[.pointer (some ⟨R, 0, none⟩)] w fun e w' => e = .returned (.int .i64 N) ∧ w' = w := by
  obtain ⟨c, z⟩ := blk_cells h.top
  have hm := h.max
  have e : (N : Int) * 64 / 64 = (N : Int) := by omega
  clear h
  go_enter Try.func24, Try.ntmps24
  go_wp2
  go_ret
  exact ⟨rfl, rfl⟩
/-- The reference's disk is what it was, but for how it is cut. -/
def RTurnsTo (w : World) (R H N : Nat) (l : List Int) (left : Int) (torn : Bool) (e : Ending) (w' : World) : Prop :=
  e = .returned (.tuple #[]) ∧ RefAt w' R H N l left torn ∧ Moved w w' R H
set_option maxHeartbeats 400000 in
theorem rcut_any {R H N : Nat} {l : List Int} {left : Int} {torn : Bool} (w : World) (h : RefAt w R H N l left torn) (m : Int) :
    Calls Try.prog 14 #[.pointer (some ⟨R, 0, none⟩), .int .i64 m] w (RTurnsTo w R H N l (max 0 m) torn) := by
  have HD := Lib.hid h
  obtain ⟨c, z⟩ := blk_cells h.top
  have lt := blk_lt h.top
  clear h
  go_enter Try.func14, Try.ntmps14
  go_wp2
  go_end0
  refine ⟨rfl, ⟨?_, ?_, HD.out.len, HD.out.max, HD.out.ne⟩, Moved.set (Moved.of_below (Below.refl _ _))⟩
  · have := heap_set_same (i := 1) (v := .int .i64 (max 0 m)) HD.out.top
    simpa using this
  · exact heap_far HD.out.ne HD.out.row
set_option maxHeartbeats 400000 in
theorem rmend_any {R H N : Nat} {l : List Int} {left : Int} {torn : Bool} (w : World) (h : RefAt w R H N l left torn) :
    Calls Try.prog 16 #[.pointer (some ⟨R, 0, none⟩)] w (RTurnsTo w R H N l (-1) false) := by
  have HD := Lib.hid h
  obtain ⟨c, z⟩ := blk_cells h.top
  have lt := blk_lt h.top
  clear h
  go_enter Try.func16, Try.ntmps16
  go_wp2
  go_end0
  refine ⟨rfl, ⟨?_, ?_, HD.out.len, HD.out.max, HD.out.ne⟩, Moved.set (Moved.set (Moved.of_below (Below.refl _ _)))⟩
  · have := heap_set_same (i := 2) (v := .bool false) (heap_set_same (i := 1) (v := .int .i64 (-1)) HD.out.top)
    simpa using this
  · exact heap_far HD.out.ne (heap_far HD.out.ne HD.out.row)
/-- NewDisk's answer. -/
def RNewIs (w : World) (n : Int) (e : Ending) (w' : World) : Prop :=
  Below w.heap.size w w' ∧ if sizeOk n then ∃ D G, e = .returned (.tuple #[.pointer (some ⟨D, 0, none⟩), .int .i64 0]) ∧ w.heap.size ≤ D ∧ w.heap.size ≤ G ∧ RefAt w' D G n.toNat (z (n.toNat * 64)) (-1) false else e = .returned (.tuple #[.pointer none, .int .i64 1])
set_option maxHeartbeats 1000000 in
theorem rnew_ok (N : Nat) (hok : sizeOk N = true) (w : World) : Calls Try.prog 7 #[.int .i64 (N : Int)] w (RNewIs w N) := by
  have HT := Lib.hid hok
  obtain ⟨h1', h2', h3⟩ : 8 ≤ (N : Int) ∧ (N : Int) ≤ 4096 ∧ (N : Int) % 2 = 0 := by simpa [sizeOk, and_assoc] using hok
  have h3' : ((N : Int) % 2 == 0) = true := beq_iff_eq.2 h3
  have h3n : ((N : Int) % 2 != 0) = false := by rw [bne, h3']; rfl
  obtain ⟨i0, hi, hz0, hz1, hz2⟩ := info_parts info5
  have HI := Lib.hid hi
  have HZ0 := Lib.hid hz0
  have HZ1 := Lib.hid hz1
  have HZ2 := Lib.hid hz2
  clear hi hz0 hz1 hz2 h3 hok
  go_enter Try.func7, Try.ntmps7
  go_wp2_with (at_make; refine wpList_make_full _ rfl (.tmp 16) (.tmp 16) 32 rfl w.heap.size 5 i0 (.int .u8 0) 1 Try.underlying32 HI.out HZ0.out HZ1.out .i64 .i64 ((N : Int) * 64) ((N : Int) * 64) (N * 64) rfl rfl (by omega) (by omega) ?b2 ?b3 ?b4 ?_)
  case b2 => rw [HZ2.out]; omega
  case b3 => simp only [maxLen]; omega
  case b4 => exact Nat.le_refl _
  intro w1 hown hg1
  have R1 := Lib.hid (show RowAt w1 w.heap.size (z (N * 64)) from row_made (B := w.heap.size) (by simpa [Value.cells] using hown))
  have B1 := Lib.hid (show Below w.heap.size w w1 from (Below.refl _ _).grown hg1 (Nat.le_refl _) (fun g hg => by cases hg))
  clear hown hg1
  have hlt := R1.out.lt
  go_wp2_with fail
  go_ret2
  exact ⟨B1.out.alloc B1.out.size _, by rw [HT.out]; exact ⟨w1.heap.size, w.heap.size, rfl, B1.out.size, Nat.le_refl _, heap_top0, R1.out.keep (below_new (Below.refl _ _) _), by simp [z], by omega, by omega⟩⟩
/-- Read's answer (the reference's). -/
def RReadIs (w : World) (N : Nat) (l : List Int) (a n : Int) (e : Ending) (w' : World) : Prop :=
  Below w.heap.size w w' ∧ if there N a n then ∃ A c, e = .returned (.tuple #[.slice A (n.toNat * 64) c, .int .i64 0]) ∧ Own8 w.heap.size w' (.slice A (n.toNat * 64) c) (piece l a n) else e = .returned (.tuple #[.slice none 0 0, .int .i64 1])
set_option maxHeartbeats 1000000 in
theorem rread_any {R H N : Nat} {l : List Int} {left : Int} {torn : Bool} (w : World) (h : RefAt w R H N l left torn) (a n : Int) :
    Calls Try.prog 19 #[.pointer (some ⟨R, 0, none⟩), .int .i64 a, .int .i64 n] w (RReadIs w N l a n) := by
  have HBL := Lib.hid (rblocks_any w h)
  have HD := Lib.hid h
  have hm := h.max
  by_cases h1 : a < 0
  · have HT := Lib.hid (show there N a n = false by simp [there]; omega)
    clear h
    go_enter Try.func19, Try.ntmps19
    go_wp2
    go_ret2
    exact ⟨Below.refl _ _, by rw [HT.out]; rfl⟩
  have h1' : 0 ≤ a := by omega
  by_cases h2 : n < 0
  · have HT := Lib.hid (show there N a n = false by simp [there]; omega)
    clear h h1
    go_enter Try.func19, Try.ntmps19
    go_wp2
    go_ret2
    exact ⟨Below.refl _ _, by rw [HT.out]; rfl⟩
  have h2' : 0 ≤ n := by omega
  by_cases h3 : (N : Int) < a
  · have HT := Lib.hid (show there N a n = false by simp [there]; omega)
    clear h h1 h2
    go_enter Try.func19, Try.ntmps19
    go_wp2_with fail
    refine HBL.out.mono ?_; rintro e w ⟨rfl, rfl⟩
    go_wp2_with fail
    go_ret2
    exact ⟨Below.refl _ _, by rw [HT.out]; rfl⟩
  have h3' : a ≤ (N : Int) := by omega
  obtain ⟨a, rfl⟩ := Int.eq_ofNat_of_zero_le h1'
  by_cases h4 : (N : Int) - (a : Int) < n
  · have HT := Lib.hid (show there N (a : Int) n = false by simp [there]; omega)
    have hsub : IntKind.i64.wrap ((N : Int) - (a : Int)) = (N : Int) - (a : Int) := IntWalk.i64_in _ (by omega)
    clear h h1 h2 h3
    go_enter Try.func19, Try.ntmps19
    go_wp2_with fail
    refine HBL.out.mono ?_; rintro e w ⟨rfl, rfl⟩
    go_wp2_with fail
    refine HBL.out.mono ?_; rintro e w ⟨rfl, rfl⟩
    go_wp2_with fail
    go_ret2
    exact ⟨Below.refl _ _, by rw [HT.out]; rfl⟩
  have h4' : n ≤ (N : Int) - (a : Int) := by omega
  obtain ⟨n, rfl⟩ := Int.eq_ofNat_of_zero_le h2'
  have ht : there N (a : Int) (n : Int) = true := by simp [there]; omega
  have HT := Lib.hid ht
  have HPL := Lib.hid (piece_length h.len ht)
  obtain ⟨c, z⟩ := blk_cells h.top
  have hsub : IntKind.i64.wrap ((N : Int) - (a : Int)) = (N : Int) - (a : Int) := IntWalk.i64_in _ (by omega)
  have u1 : (0 : Int) ≤ (a : Int) * 64 := by omega
  have u2 : (a : Int) * 64 ≤ ((a : Int) + (n : Int)) * 64 := by omega
  have u3 : ((a : Int) + (n : Int)) * 64 ≤ (N : Int) * 64 := by omega
  have u4 : ((a : Int) * 64).toNat = a * 64 := by omega
  have u5 : (((a : Int) + (n : Int)) * 64).toNat = (a + n) * 64 := by omega
  have u6 : (a + n) * 64 - a * 64 = n * 64 := by omega
  have HRD := Lib.hid (show ∀ A', (0 < n → A' = some ⟨H, a * 64, none⟩) → Read8 w A' (piece l a n) from fun A' hA' => by
    rcases Nat.eq_zero_or_pos n with hz | hz
    · exact .inl (List.length_eq_zero_iff.1 (by rw [HPL.out]; simp [hz]))
    · refine .inr ⟨H, a * 64, hA' hz, HD.out.row.lt, fun i hi => ?_⟩
      rw [HPL.out] at hi
      have := HD.out.row.cell (a * 64 + i) (by rw [HD.out.len]; simp at hi; omega)
      rw [this, piece, List.getD_eq_getElem?_getD, List.getD_eq_getElem?_getD, List.getElem?_take, if_pos (by simpa using hi), List.getElem?_drop]
      rfl)
  clear h h1 h2 h3 h4 ht
  rcases Nat.lt_or_ge a N with hlt | hge
  · have hne : ¬ N * 64 = a * 64 := by omega
    go_enter Try.func19, Try.ntmps19
    go_wp2_with fail
    refine HBL.out.mono ?_; rintro e w ⟨rfl, rfl⟩
    go_wp2_with fail
    refine HBL.out.mono ?_; rintro e w ⟨rfl, rfl⟩
    go_wp2_with (at_builtin; refine append8 rfl (.const (.slice none 0 0)) (.tmp 38) rfl w.heap.size _ [] rfl (Own8.nil _ _) (some ⟨H, a * 64, none⟩) (n * 64) (N * 64 - a * 64) (piece l a n) (by first | rfl | (simp [Act.eval]; done)) HPL.out.symm (HRD.out _ (fun _ => rfl)) (fun h => by cases h) ?hmax ?hbase ?_)
    case hmax => show 0 + n * 64 ≤ _; omega
    case hbase => exact Nat.le_refl _
    intro A2 c2 w2 hown2 hb2 _
    have HB2 := Lib.hid (hb2 _ (Below.refl _ _))
    rw [HPL.out] at hown2 ⊢
    clear hb2
    go_wp2_with fail
    go_ret2
    exact ⟨HB2.out, by rw [HT.out]; exact ⟨A2, c2, rfl, hown2.out⟩⟩
  · obtain rfl : N = a := by omega
    have hn0 : n ≤ 0 := by omega
    go_enter Try.func19, Try.ntmps19
    go_wp2_with fail
    refine HBL.out.mono ?_; rintro e w ⟨rfl, rfl⟩
    go_wp2_with fail
    refine HBL.out.mono ?_; rintro e w ⟨rfl, rfl⟩
    go_wp2_with (at_builtin; refine append8 rfl (.const (.slice none 0 0)) (.tmp 38) rfl w.heap.size _ [] rfl (Own8.nil _ _) (some ⟨H, 0, none⟩) (n * 64) 0 (piece l (N : Int) (n : Int)) (by first | rfl | (simp [Act.eval]; done)) HPL.out.symm (HRD.out _ (fun h => by omega)) (fun h => by cases h) ?hmax ?hbase ?_)
    case hmax => show 0 + n * 64 ≤ _; omega
    case hbase => exact Nat.le_refl _
    intro A2 c2 w2 hown2 hb2 _
    have HB2 := Lib.hid (hb2 _ (Below.refl _ _))
    rw [HPL.out] at hown2 ⊢
    clear hb2
    go_wp2_with fail
    go_ret2
    exact ⟨HB2.out, by rw [HT.out]; exact ⟨A2, c2, rfl, hown2.out⟩⟩
/-- So many bytes have been written. -/
structure WrTo (w wr : World) (R H N : Nat) (l : List Int) (left : Int) (cut : Bool) (a : Nat) (bl : List Int) (k : Nat) : Prop where
  top : wr.heap[R]? = some (.cells #[.slice (some ⟨H, 0, none⟩) (N * 64) (N * 64), .int .i64 (refLeft (left - k) cut), .bool false] 44)
  row : RowAt wr H (spl l (a * 64) (bl.take k))
  moved : Moved w wr R H
  fits : cut = true → (k : Int) ≤ left
  ne : R ≠ H
theorem Moved.set2 {a b : World} {D G i : Nat} {v : Value} (h : Moved a b D G) : Moved a (b.setCell ⟨G, i, none⟩ v) D G :=
  ⟨h.os, h.tape, h.output, Nat.le_trans h.size (by simp), fun k hk h1 h2 => by
    rw [Below.heap_setCell b ⟨G, i, none⟩ v k h2]; exact h.block k hk h1 h2⟩
theorem wrTo_start {w : World} {R H N a : Nat} {l bl : List Int} {left : Int} {cut : Bool} (h : RefAt w R H N l (refLeft left cut) false) (h0 : 0 ≤ left) : WrTo w w R H N l left cut a bl 0 :=
  ⟨by simpa using h.top, by rw [List.take_zero, spl_nil]; exact h.row, Moved.of_below (Below.refl _ _), fun _ => h0, h.ne⟩
theorem WrTo.far {w wr : World} {R H N a k b i : Nat} {l bl : List Int} {left : Int} {cut : Bool} {v : Value} (h : WrTo w wr R H N l left cut a bl k) (hb : b < w.heap.size) (h1 : b ≠ R) (h2 : b ≠ H) (hc : w.cell? ⟨b, i, none⟩ = some v) : wr.cell? ⟨b, i, none⟩ = some v :=
  (World.cell?_of_block (h.moved.block b hb h1 h2)).trans hc
theorem spl_set (l bl : List Int) (o k : Nat) (hk : k < bl.length) (hl : o + bl.length ≤ l.length) : (spl l o (bl.take k)).set (o + k) (bl.getD k 0) = spl l o (bl.take (k + 1)) := by
  unfold spl
  have h1 : (bl.take k).length = k := by rw [List.length_take]; omega
  have h2 : (bl.take (k + 1)).length = k + 1 := by rw [List.length_take]; omega
  rw [h1, h2]
  have hd : l.drop (o + k) = l[o + k]'(by omega) :: l.drop (o + (k + 1)) := by rw [List.drop_eq_getElem_cons (by omega)]; rfl
  rw [hd, List.set_append_right _ _ (by rw [List.length_take]; omega), List.set_append_right _ _ (by rw [h1, List.length_take]; omega)]
  have h3 : o + k - (l.take o).length - (bl.take k).length = 0 := by rw [h1, List.length_take]; omega
  rw [h3, List.set_cons_zero, List.take_add_one, List.append_assoc, List.getElem?_eq_getElem hk, List.getD_eq_getElem?_getD, List.getElem?_eq_getElem hk]
  rfl
set_option maxHeartbeats 4000000 in
theorem rwrite_any {R H N : Nat} {l : List Int} {left : Int} {cut torn : Bool} (w : World) (h : RefAt w R H N l (refLeft left cut) torn) (h0 : 0 ≤ left) (h1 : left ≤ 9223372036854775807) (a : Int) (A : Option Addr) (c : Nat) (bl : List Int) (hmax : bl.length ≤ 4294967295) (hA : Read8 w A bl) (hAD : bl ≠ [] → ∀ b off, A = some ⟨b, off, none⟩ → b ≠ R ∧ b ≠ H) :
    Calls Try.prog 11 #[.pointer (some ⟨R, 0, none⟩), .int .i64 a, .slice A bl.length c] w (fun e w' => e = .returned (.int .i64 (wrF N l left cut torn a bl).1) ∧ RefAt w' R H N (wrF N l left cut torn a bl).2.1 (refLeft (wrF N l left cut torn a bl).2.2.1 cut) (wrF N l left cut torn a bl).2.2.2 ∧ Moved w w' R H) := by
  have HBL := Lib.hid (rblocks_any w h)
  have HD := Lib.hid h
  have HA := Lib.hid hA
  have hm := h.max
  have HW1 := Lib.hid (fun h => show wrF N l left cut torn a bl = (1, l, left, torn) from if_pos h)
  have HW2 := Lib.hid (fun h h2 => show wrF N l left cut torn a bl = (25, l, left, torn) from (if_neg h).trans (if_pos h2))
  have HW3 := Lib.hid (fun h h2 => show wrF N l left cut torn a bl = (if cntF left cut bl.length < bl.length then 25 else 0, spl l (a.toNat * 64) (bl.take (cntF left cut bl.length)), if cut then left - cntF left cut bl.length else left, decide (cntF left cut bl.length < bl.length)) from (if_neg h).trans (if_neg h2))
  clear h hA
  generalize wrF N l left cut torn a bl = W at *
  by_cases hmod : bl.length % 64 = 0
  · have hm1 : ((bl.length : Int) % 64 == 0) = true := beq_iff_eq.2 (by omega)
    have hm2 : ((bl.length : Int) % 64 != 0) = false := by rw [bne, hm1]; rfl
    by_cases g1 : a < 0
    · have HR := Lib.hid (HW1.out (.inl (by simp [there]; omega)))
      clear hmod
      go_enter Try.func11, Try.ntmps11
      go_wp2_with fail
      go_ret
      exact ⟨by rw [HR.out]; rfl, by rw [HR.out]; exact HD.out, Moved.of_below (Below.refl _ _)⟩
    have g1' : 0 ≤ a := by omega
    by_cases g2 : (N : Int) < a
    · have HR := Lib.hid (HW1.out (.inl (by simp [there]; omega)))
      clear hmod g1
      go_enter Try.func11, Try.ntmps11
      go_wp2_with fail
      refine HBL.out.mono ?_; rintro e w ⟨rfl, rfl⟩
      go_wp2_with fail
      go_ret
      exact ⟨by rw [HR.out]; rfl, by rw [HR.out]; exact HD.out, Moved.of_below (Below.refl _ _)⟩
    have g2' : a ≤ (N : Int) := by omega
    obtain ⟨a, rfl⟩ := Int.eq_ofNat_of_zero_le g1'
    have hsub : IntKind.i64.wrap ((N : Int) - (a : Int)) = (N : Int) - (a : Int) := IntWalk.i64_in _ (by omega)
    by_cases g3 : (N : Int) - (a : Int) < (bl.length : Int) / 64
    · have HR := Lib.hid (HW1.out (.inl (by simp [there]; omega)))
      clear hmod g1 g2
      go_enter Try.func11, Try.ntmps11
      go_wp2_with fail
      refine HBL.out.mono ?_; rintro e w ⟨rfl, rfl⟩
      go_wp2_with fail
      refine HBL.out.mono ?_; rintro e w ⟨rfl, rfl⟩
      go_wp2_with fail
      go_ret
      exact ⟨by rw [HR.out]; rfl, by rw [HR.out]; exact HD.out, Moved.of_below (Below.refl _ _)⟩
    have g3' : (bl.length : Int) / 64 ≤ (N : Int) - (a : Int) := by omega
    have hno : ¬ (there N (a : Int) ((bl.length : Int) / 64) = false ∨ bl.length % 64 ≠ 0) := by
      rw [show there N (a : Int) ((bl.length : Int) / 64) = true by simp [there]; omega]; simp; exact hmod
    obtain ⟨c0, z0⟩ := blk_cells HD.out.top
    rcases torn with _ | _
    · have HR := Lib.hid (HW3.out hno (by decide))
      have hfit : a * 64 + bl.length ≤ N * 64 := by omega
      clear hmod g1 g2 g3 hno
      have HLN := Lib.hid HD.out.len
      rcases cut with _ | _
      · go_enter Try.func11, Try.ntmps11
        go_wp2_with fail
        refine HBL.out.mono ?_; rintro e w ⟨rfl, rfl⟩
        go_wp2_with fail
        refine HBL.out.mono ?_; rintro e w ⟨rfl, rfl⟩
        go_wp2_with fail
        go_loopw [7] (fun s7 wr => ∃ k : Nat, s7 = .int .i64 k ∧ k ≤ bl.length ∧ WrTo w wr R H N l left false a bl k) (fun s7 _ => bl.length - (intOf s7).toNat)
        case atStart => exact ⟨0, rfl, Nat.zero_le _, wrTo_start HD.out h0⟩
        case round =>
          obtain ⟨k, rfl, hk, hw⟩ := hrel
          have HK := Lib.hid hw
          have htp := hw.top
          rw [show refLeft (left - (k : Int)) false = -1 from rfl] at htp
          obtain ⟨c1, z1⟩ := blk_cells htp
          have l1 := blk_lt htp
          clear htp
          have hfac := hw.fits
          clear hw c0 z0
          by_cases hlt : k < bl.length
          · obtain ⟨bb, off, rfl, hbb, hbc⟩ := HA.out.at hlt
            have hbd := hAD (fun h => by rw [h] at hlt; simp at hlt) bb off rfl
            have hbc' := HK.out.far hbb hbd.1 hbd.2 hbc
            have hhc := HK.out.row.cell (a * 64 + k) (by rw [spl_len (by rw [List.length_take, HLN.out]; omega), HLN.out]; omega)
            have hhz := HK.out.row.melted (a * 64 + k)
            have HST := Lib.hid (spl_set l bl (a * 64) k hlt (by rw [HLN.out]; omega))
            clear hbc hbb hbd
            generalize bl.getD k 0 = y at *
            have v1 : IntKind.i64.wrap ((a : Int) * 64) = (a : Int) * 64 := IntWalk.i64_in _ (by omega)
            have v2 : IntKind.i64.wrap ((a : Int) * 64 + (k : Int)) = (a : Int) * 64 + (k : Int) := IntWalk.i64_in _ (by omega)
            have v3 : ((a : Int) * 64 + (k : Int)).toNat = a * 64 + k := by omega
            have v4 : (0 : Int) ≤ (a : Int) * 64 + (k : Int) := by omega
            have v5 : (a : Int) * 64 + (k : Int) < (N : Int) * 64 := by omega
            go_wp2_with fail
            go_region
            all_goals
              go_wp2_with fail
              go_roundw
              case rel => exact ⟨k + 1, by go_num, by omega, heap_drew (heap_far (Ne.symm HK.out.ne) HK.out.top), by rw [← HST.out]; exact HK.out.row.set _ y, (Moved.set2 HK.out.moved).drew, (fun h => by cases h), HK.out.ne⟩
              case measure => simp [intOf]; omega
          · have hkl : k = bl.length := by omega
            have HKL := Lib.hid hkl
            clear hlt hkl
            have hge : bl.length ≤ k := by have := HKL.out; omega
            go_wp2_with fail
            go_ret
            have hc : cntF left false bl.length = bl.length := rfl
            rw [hc, if_neg (Nat.lt_irrefl _), List.take_of_length_le (Nat.le_refl _), decide_eq_false (Nat.lt_irrefl _)] at HR
            have hrow := HK.out.row
            have htop := HK.out.top
            rw [HKL.out] at hrow htop
            rw [List.take_of_length_le (Nat.le_refl _)] at hrow
            rw [HR.out]
            exact ⟨rfl, ⟨htop, hrow, by rw [spl_len (by rw [HLN.out]; exact hfit)]; exact HLN.out, hm, HK.out.ne⟩, HK.out.moved⟩
      · go_enter Try.func11, Try.ntmps11
        go_wp2_with fail
        refine HBL.out.mono ?_; rintro e w ⟨rfl, rfl⟩
        go_wp2_with fail
        refine HBL.out.mono ?_; rintro e w ⟨rfl, rfl⟩
        go_wp2_with fail
        go_loopw [7] (fun s7 wr => ∃ k : Nat, s7 = .int .i64 k ∧ k ≤ bl.length ∧ WrTo w wr R H N l left true a bl k) (fun s7 _ => bl.length - (intOf s7).toNat)
        case atStart => exact ⟨0, rfl, Nat.zero_le _, wrTo_start HD.out h0⟩
        case round =>
          obtain ⟨k, rfl, hk, hw⟩ := hrel
          have HK := Lib.hid hw
          have htp := hw.top
          rw [show refLeft (left - (k : Int)) true = left - (k : Int) from rfl] at htp
          obtain ⟨c1, z1⟩ := blk_cells htp
          have l1 := blk_lt htp
          clear htp
          have hfac := hw.fits
          clear hw c0 z0
          by_cases hlt : k < bl.length
          · have hkL := hfac rfl
            by_cases hz : (k : Int) = left
            · have z1' : (left - (k : Int) == 0) = true := beq_iff_eq.2 (by omega)
              have HZ := Lib.hid hz
              clear hz hkL hfac
              go_wp2_with fail
              go_ret
              have hL : left.toNat = k := by have := HZ.out; omega
              have hc : cntF left true bl.length = k := by simp only [cntF, if_true]; rw [hL]; omega
              rw [hc, if_pos hlt, decide_eq_true hlt] at HR
              rw [HR.out]
              refine ⟨rfl, ⟨?_, heap_far HK.out.ne HK.out.row, by rw [spl_len (by rw [List.length_take, HLN.out]; omega)]; exact HLN.out, hm, HK.out.ne⟩, Moved.set HK.out.moved⟩
              have := heap_set_same (i := 2) (v := .bool true) HK.out.top
              simpa using this
            · have z1' : (left - (k : Int) == 0) = false := beq_eq_false_iff_ne.2 (by omega)
              have z2' : decide (0 < left - (k : Int)) = true := decide_eq_true (by omega)
              have z2'' : 0 < left - (k : Int) := by omega
              have z3' : IntKind.i64.wrap (left - (k : Int) - 1) = left - (k : Int) - 1 := IntWalk.i64_in _ (by omega)
              have hkl' : (k : Int) + 1 ≤ left := by omega
              clear hz hkL hfac
              obtain ⟨bb, off, rfl, hbb, hbc⟩ := HA.out.at hlt
              have hbd := hAD (fun h => by rw [h] at hlt; simp at hlt) bb off rfl
              have hbc' := HK.out.far hbb hbd.1 hbd.2 hbc
              have hhc := HK.out.row.cell (a * 64 + k) (by rw [spl_len (by rw [List.length_take, HLN.out]; omega), HLN.out]; omega)
              have hhz := HK.out.row.melted (a * 64 + k)
              have HST := Lib.hid (spl_set l bl (a * 64) k hlt (by rw [HLN.out]; omega))
              have e1 : (wr.setCell ⟨R, 1, none⟩ (.int .i64 (left - (k : Int) - 1))).cell? ⟨bb, off + k, none⟩ = some (.int .u8 (bl.getD k 0)) := cell_far (Ne.symm hbd.1) hbc'
              have e2 := cell_far (a := ⟨R, 1, none⟩) (v := .int .i64 (left - (k : Int) - 1)) HK.out.ne hhc
              clear hbc hbb hbd
              generalize bl.getD k 0 = y at *
              have v1 : IntKind.i64.wrap ((a : Int) * 64) = (a : Int) * 64 := IntWalk.i64_in _ (by omega)
              have v2 : IntKind.i64.wrap ((a : Int) * 64 + (k : Int)) = (a : Int) * 64 + (k : Int) := IntWalk.i64_in _ (by omega)
              have v3 : ((a : Int) * 64 + (k : Int)).toNat = a * 64 + k := by omega
              have v4 : (0 : Int) ≤ (a : Int) * 64 + (k : Int) := by omega
              have v5 : (a : Int) * 64 + (k : Int) < (N : Int) * 64 := by omega
              go_wp2_with fail
              go_region
              all_goals
                go_wp2_with fail
                go_roundw
                case rel =>
                  refine ⟨k + 1, by go_num, by omega, heap_drew (heap_far (Ne.symm HK.out.ne) ?_), by rw [← HST.out]; exact RowAt.set (heap_far HK.out.ne HK.out.row) _ y, (Moved.set2 (Moved.set HK.out.moved)).drew, (fun _ => by simp; omega), HK.out.ne⟩
                  have := heap_set_same (i := 1) (v := .int .i64 (left - (k : Int) - 1)) HK.out.top
                  simpa [refLeft, Int.sub_sub] using this
                case measure => simp [intOf]; omega
          · have hkl : k = bl.length := by omega
            have HKL := Lib.hid hkl
            clear hlt hkl
            have hge : bl.length ≤ k := by have := HKL.out; omega
            go_wp2_with fail
            go_ret
            have hc : cntF left true bl.length = bl.length := by simp only [cntF, if_true]; have := HK.out.fits rfl; rw [HKL.out] at this; omega
            rw [hc, if_neg (Nat.lt_irrefl _), List.take_of_length_le (Nat.le_refl _), decide_eq_false (Nat.lt_irrefl _)] at HR
            have hrow := HK.out.row
            have htop := HK.out.top
            rw [HKL.out] at hrow htop
            rw [List.take_of_length_le (Nat.le_refl _)] at hrow
            rw [HR.out]
            exact ⟨rfl, ⟨htop, hrow, by rw [spl_len (by rw [HLN.out]; exact hfit)]; exact HLN.out, hm, HK.out.ne⟩, HK.out.moved⟩
    · have HR := Lib.hid (HW2.out hno rfl)
      clear hmod g1 g2 g3 hno
      go_enter Try.func11, Try.ntmps11
      go_wp2_with fail
      refine HBL.out.mono ?_; rintro e w ⟨rfl, rfl⟩
      go_wp2_with fail
      refine HBL.out.mono ?_; rintro e w ⟨rfl, rfl⟩
      go_wp2_with fail
      go_ret
      exact ⟨by rw [HR.out]; rfl, by rw [HR.out]; exact HD.out, Moved.of_below (Below.refl _ _)⟩
  · have hm1 : ((bl.length : Int) % 64 == 0) = false := beq_eq_false_iff_ne.2 (by omega)
    have hm2 : ((bl.length : Int) % 64 != 0) = true := by rw [bne, hm1]; rfl
    have HR := Lib.hid (HW1.out (.inr hmod))
    clear hmod
    go_enter Try.func11, Try.ntmps11
    go_wp2_with fail
    go_ret
    exact ⟨by rw [HR.out]; rfl, by rw [HR.out]; exact HD.out, Moved.of_below (Below.refl _ _)⟩
end Go.Proofs.Ytcegkpgidineaaa
