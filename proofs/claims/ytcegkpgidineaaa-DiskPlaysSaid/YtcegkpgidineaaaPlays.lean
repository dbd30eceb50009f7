/- DiskPlays walked. -/
import Derived.Test.YtcegkpgidineaaaRef
namespace Go.Proofs.Ytcegkpgidineaaa
open Go.RowKit
theorem u64_mod10 (x : Int) : ∃ r : Nat, r < 10 ∧ wrap64 ((IntKind.u64.wrap x).tmod 10) = (r : Int) := by
  have h0 : 0 ≤ IntKind.u64.wrap x := by unfold IntKind.wrap; simp [IntKind.signed, IntKind.bits]; omega
  rw [Int.tmod_eq_emod_of_nonneg h0]
  have h1 := Int.emod_nonneg (IntKind.u64.wrap x) (b := (10 : Int)) (by omega)
  have h2 := Int.emod_lt_of_pos (IntKind.u64.wrap x) (b := (10 : Int)) (by omega)
  generalize IntKind.u64.wrap x % (10 : Int) = y at *
  exact ⟨y.toNat, by omega, by rw [IntWalk.wrap64_in _ (by omega)]; omega⟩
theorem u64_mod4 (x : Int) : ∃ r : Nat, r < 4 ∧ wrap64 ((IntKind.u64.wrap x).tmod 4) = (r : Int) := by
  have h0 : 0 ≤ IntKind.u64.wrap x := by unfold IntKind.wrap; simp [IntKind.signed, IntKind.bits]; omega
  rw [Int.tmod_eq_emod_of_nonneg h0]
  have h1 := Int.emod_nonneg (IntKind.u64.wrap x) (b := (4 : Int)) (by omega)
  have h2 := Int.emod_lt_of_pos (IntKind.u64.wrap x) (b := (4 : Int)) (by omega)
  generalize IntKind.u64.wrap x % (4 : Int) = y at *
  exact ⟨y.toNat, by omega, by rw [IntWalk.wrap64_in _ (by omega)]; omega⟩
/-- What came in: so many things to do. -/
structure OpIn where
  kind : Int
  place : Int
  num : Int
  A : Option Addr
  c : Nat
  data : List Int
def OpsIn (w : World) (O : Option Addr) (n : Nat) (os : Nat → OpIn) : Prop :=
  n = 0 ∨ ∃ b off, O = some ⟨b, off, none⟩ ∧ b < w.heap.size ∧ ∀ r, r < n → w.cell? ⟨b, off + r * 4, none⟩ = some (.int .i64 (os r).kind) ∧ w.cell? ⟨b, off + r * 4 + 1, none⟩ = some (.int .i64 (os r).place) ∧ w.cell? ⟨b, off + r * 4 + 2, none⟩ = some (.int .i64 (os r).num) ∧ w.cell? ⟨b, off + r * 4 + 3, none⟩ = some (.slice (os r).A (os r).data.length (os r).c) ∧
    -9223372036854775808 ≤ (os r).num ∧ (os r).num ≤ 9223372036854775807 ∧ (os r).data.length ≤ (os r).c ∧ ((os r).A = none → (os r).c = 0) ∧ Bytes8 (os r).data ∧ Read8 w (os r).A (os r).data
theorem OpsIn.at {w : World} {O : Option Addr} {n r : Nat} {os : Nat → OpIn} (h : OpsIn w O n os) (hr : r < n) :
    ∃ b off, O = some ⟨b, off, none⟩ ∧ b < w.heap.size ∧ w.cell? ⟨b, off + r * 4, none⟩ = some (.int .i64 (os r).kind) ∧ w.cell? ⟨b, off + r * 4 + 1, none⟩ = some (.int .i64 (os r).place) ∧ w.cell? ⟨b, off + r * 4 + 2, none⟩ = some (.int .i64 (os r).num) ∧ w.cell? ⟨b, off + r * 4 + 3, none⟩ = some (.slice (os r).A (os r).data.length (os r).c) ∧
    -9223372036854775808 ≤ (os r).num ∧ (os r).num ≤ 9223372036854775807 ∧ (os r).data.length ≤ (os r).c ∧ ((os r).A = none → (os r).c = 0) ∧ Bytes8 (os r).data ∧ Read8 w (os r).A (os r).data := by
  rcases h with h | ⟨b, off, e, hlt, hh⟩
  · omega
  · exact ⟨b, off, e, hlt, hh r hr⟩
/-- Both disks say the same. -/
structure Both (w wr : World) (D G R H N : Nat) (l : List Int) (left : Int) (cut torn : Bool) : Prop where
  below : Below w.heap.size w wr
  disk : DiskAt wr D G N l left cut torn
  ref : RefAt wr R H N l (refLeft left cut) torn
  left0 : 0 ≤ left
  left1 : left ≤ 9223372036854775807
  b8 : Bytes8 l
  hD : w.heap.size ≤ D
  hG : w.heap.size ≤ G
  hR : w.heap.size ≤ R
  hH : w.heap.size ≤ H
  ne1 : D ≠ R
  ne2 : D ≠ H
  ne3 : G ≠ R
  ne4 : G ≠ H
theorem DiskAt.drew {w : World} {D G N : Nat} {l : List Int} {left : Int} {cut torn : Bool} (h : DiskAt w D G N l left cut torn) : DiskAt w.drew D G N l left cut torn := ⟨h.top, h.row, h.len, h.max, h.ne⟩
theorem RefAt.drew {w : World} {R H N : Nat} {l : List Int} {left : Int} {torn : Bool} (h : RefAt w R H N l left torn) : RefAt w.drew R H N l left torn := ⟨h.top, h.row, h.len, h.max, h.ne⟩
theorem Moved.rowAt {w w' : World} {D G g : Nat} {l : List Int} (h : Moved w w' D G) (hr : RowAt w g l) (h1 : g ≠ D) (h2 : g ≠ G) : RowAt w' g l := (h.block g hr.lt h1 h2).trans hr
theorem DiskAt.drewN {w : World} {D G N n : Nat} {l : List Int} {left : Int} {cut torn : Bool} (h : DiskAt w D G N l left cut torn) : DiskAt (w.drewN n) D G N l left cut torn := ⟨h.top, h.row, h.len, h.max, h.ne⟩
theorem read8_dN {w : World} {A : Option Addr} {l : List Int} {n : Nat} (h : Read8 w A l) : Read8 (w.drewN n) A l := h
theorem piece_whole (l : List Int) (N : Nat) (h : l.length = N * 64) : piece l 0 (N : Int) = l := by
  unfold piece; rw [show (0 : Int).toNat * 64 = 0 from rfl, List.drop_zero, List.take_of_length_le (by rw [h]; simp)]
/-- What a Read hands back. -/
def resL (N : Nat) (l : List Int) (a n : Int) : List Int := if there N a n then piece l a n else []
def resC (N : Nat) (a n : Int) : Int := if there N a n then 0 else 1
theorem res8 {N : Nat} {l : List Int} {a n : Int} (h : Bytes8 l) : Bytes8 (resL N l a n) := by
  unfold resL; split
  · exact bytes8_take (bytes8_drop h _) _
  · exact fun x hx => by simp at hx
theorem read_shape {w w' : World} {N : Nat} {l : List Int} {a n : Int} {e : Ending} (h : ReadIs w N l a n e w') (hl : l.length = N * 64) : ∃ A c, e = .returned (.tuple #[.slice A (resL N l a n).length c, .int .i64 (resC N a n)]) ∧ Read8 w' A (resL N l a n) ∧ Below w.heap.size w w' := by
  obtain ⟨hb, hh⟩ := h
  unfold resL resC
  split at hh
  · rename_i ht
    obtain ⟨A, c, rfl, hf⟩ := hh
    rw [if_pos ht, if_pos ht, piece_length hl ht]
    exact ⟨A, c, rfl, hf.read, hb⟩
  · rename_i ht
    rw [if_neg ht, if_neg ht]
    exact ⟨none, 0, hh, .inl rfl, hb⟩
theorem rread_shape {w w' : World} {N : Nat} {l : List Int} {a n : Int} {e : Ending} (h : RReadIs w N l a n e w') (hl : l.length = N * 64) : ∃ A c, e = .returned (.tuple #[.slice A (resL N l a n).length c, .int .i64 (resC N a n)]) ∧ Read8 w' A (resL N l a n) ∧ Below w.heap.size w w' := by
  obtain ⟨hb, hh⟩ := h
  unfold resL resC
  split at hh
  · rename_i ht
    obtain ⟨A, c, rfl, hf⟩ := hh
    rw [if_pos ht, if_pos ht, piece_length hl ht]
    exact ⟨A, c, rfl, hf.read, hb⟩
  · rename_i ht
    rw [if_neg ht, if_neg ht]
    exact ⟨none, 0, hh, .inl rfl, hb⟩
theorem eq8s (A B : Option Addr) (n c d : Nat) (l : List Int) (hn : n = l.length) (h8 : Bytes8 l) (w : World) (hr : Read8 w A l) (hs : Read8 w B l) : Calls Try.prog 20 #[.slice A n c, .slice B n d] w fun e w' => e = .returned (.bool true) ∧ w' = w := by
  have := bytes_any A B n n c d l l hn hn h8 h8 w hr hs
  simpa using this
theorem Both.keep {w X y : World} {D G R H N : Nat} {l : List Int} {left : Int} {cut torn : Bool} (h : Both w X D G R H N l left cut torn) (hb : Below X.heap.size X y) : Both w y D G R H N l left cut torn :=
  ⟨below_call h.below hb, h.disk.keep hb, h.ref.keep hb, h.left0, h.left1, h.b8, h.hD, h.hG, h.hR, h.hH, h.ne1, h.ne2, h.ne3, h.ne4⟩
theorem wrF_ok (N : Nat) (l : List Int) (left : Int) (cut torn : Bool) (a : Int) (bl : List Int) (h0 : 0 ≤ left) (h1 : left ≤ 9223372036854775807) (h8 : Bytes8 l) (hb : Bytes8 bl) : 0 ≤ (wrF N l left cut torn a bl).2.2.1 ∧ (wrF N l left cut torn a bl).2.2.1 ≤ 9223372036854775807 ∧ Bytes8 (wrF N l left cut torn a bl).2.1 := by
  unfold wrF
  split
  · exact ⟨h0, h1, h8⟩
  · split
    · exact ⟨h0, h1, h8⟩
    · refine ⟨?_, ?_, bytes8_append (bytes8_take h8 _) (bytes8_append (bytes8_take hb _) (bytes8_drop h8 _))⟩
      · simp only
        split
        · rename_i hc; simp only [cntF, hc, if_true]; omega
        · exact h0
      · simp only
        split
        · rename_i hc; simp only [cntF, hc, if_true]; omega
        · exact h1
set_option maxHeartbeats 4000000 in
set_option maxRecDepth 100000 in
theorem plays_any (n : Int) (O : Option Addr) (no co : Nat) (os : Nat → OpIn) (hno : no ≤ 9223372036854775807) (w : World) (hO : OpsIn w O no os) :
    Calls Try.prog 3 #[.int .i64 n, .slice O no co] w fun e w' => e = .returned (.bool true) ∧ Below w.heap.size w w' := by
  have HO := Lib.hid hO
  have HAW := Lib.hid (fun wx => awake_any wx)
  clear hO
  obtain ⟨m, hm, hme⟩ := u64_mod10 n
  obtain ⟨N, hN⟩ : ∃ N : Nat, 8 + 2 * (m : Int) = (N : Int) := ⟨8 + 2 * m, by omega⟩
  have hs : sizeOk (N : Int) = true := by simp [sizeOk]; omega
  have HS := Lib.hid hs
  have hNb : 8 ≤ N ∧ N ≤ 26 := by omega
  clear hs
  go_enter Try.func3, Try.ntmps3
  go_wp2_with fail
  simp only [hme]
  clear hme hN
  refine (new_any N w).mono ?_
  rintro e w1 ⟨hb1, hh⟩
  rw [if_pos HS.out] at hh
  obtain ⟨D, G, rfl, hD, hG, hd⟩ := hh
  have HD1 := Lib.hid (show DiskAt w1 D G N (z (N * 64)) 0 false false from hd)
  have HB1 := Lib.hid hb1
  clear hb1 hd
  go_wp2_with fail
  refine (rnew_ok N HS.out w1).mono ?_
  rintro e w2 ⟨hb2, hh⟩
  rw [if_pos HS.out] at hh
  obtain ⟨R, H, rfl, hR, hH, hr⟩ := hh
  have HBO2 := Lib.hid (show Both w w2 D G R H N (z (N * 64)) 0 false false from ⟨below_call HB1.out hb2, HD1.out.keep hb2, hr, by decide, by decide, bytes8_z _, hD, hG, Nat.le_trans HB1.out.size hR, Nat.le_trans HB1.out.size hH, by have := blk_lt HD1.out.top; omega, by have := blk_lt HD1.out.top; omega, by have := HD1.out.row.lt; omega, by have := HD1.out.row.lt; omega⟩)
  clear hb2 hr
  go_wp2_with fail
  refine (HAW.out w2).mono ?_
  rintro e w3 ⟨rfl, hb3⟩
  have HBO3 := Lib.hid (HBO2.out.keep hb3)
  clear hb3
  go_wp2_with fail
  go_loopw [9] (fun s9 wr => ∃ (i : Nat) (l : List Int) (left : Int) (cut torn : Bool), s9 = .int .i64 i ∧ i ≤ 60 ∧ Both w wr D G R H N l left cut torn) (fun s9 _ => 60 - (intOf s9).toNat)
  case atStart => exact ⟨0, _, _, _, _, rfl, by omega, HBO3.out⟩
  case round =>
    obtain ⟨i, l, left, cut, torn, rfl, hi, hbo⟩ := hrel
    have HBO := Lib.hid hbo
    clear hbo
    by_cases hi1 : i < no
    · by_cases hi2 : i < 60
      · obtain ⟨b, off, rfl, hbl, k0, k1, k2, k3, hn0, hn1, hdc, hAc, h8, hrd⟩ := HO.out.at hi1
        obtain ⟨⟨kd, pl, nu, A, c, bl⟩, ho⟩ : ∃ o, os i = o := ⟨_, rfl⟩
        rw [ho] at k0 k1 k2 k3 hn0 hn1 hdc hAc h8 hrd
        simp only at k0 k1 k2 k3 hn0 hn1 hdc hAc h8 hrd
        have q0 := keep_cell HBO.out.below k0
        have q1 := keep_cell HBO.out.below k1
        have q2 := keep_cell HBO.out.below k2
        have q3 := keep_cell HBO.out.below k3
        have H8 := Lib.hid h8
        have HRD := Lib.hid hrd
        have hsz : w.heap.size ≤ wr.heap.size := HBO.out.below.size
        clear k0 k1 k2 k3 h8 hrd ho
        by_cases hbig : (1000 : Int) < (bl.length : Int)
        · go_wp2_with fail
          go_ret
          exact ⟨rfl, below_new HBO.out.below _⟩
        · have hbig' : (bl.length : Int) ≤ 1000 := by omega
          clear hbig
          have hAO : ∀ b off, A = some ⟨b, off, none⟩ → bl ≠ [] → b < w.heap.size := fun b off e hne => by
            rcases HRD.out with h | ⟨b', off', h, hlt, _⟩
            · exact absurd h hne
            · rw [h] at e; cases e; exact hlt
          go_upto_block 2 with fail
          go_cut [11] (fun s11 wx => s11 = .bool true ∧ wx.heap[wr.heap.size]? = some (.cells #[.int .i64 kd, .int .i64 pl, .int .i64 nu, .slice A bl.length c] 34) ∧ ∃ (l' : List Int) (left' : Int) (cut' torn' : Bool), Both w wx D G R H N l' left' cut' torn')
          case first =>
            have hP0 : (wr.alloc (.cells #[.int .i64 kd, .int .i64 pl, .int .i64 nu, .slice A bl.length c] 34)).heap[wr.heap.size]? = some (.cells #[.int .i64 kd, .int .i64 pl, .int .i64 nu, .slice A bl.length c] 34) := heap_top0
            have HBA := Lib.hid (HBO.out.keep (below_new (Below.refl _ _) (.cells #[.int .i64 kd, .int .i64 pl, .int .i64 nu, .slice A bl.length c] 34)))
            have hDlt := blk_lt HBO.out.disk.top
            have hGlt := HBO.out.disk.row.lt
            have hRlt := blk_lt HBO.out.ref.top
            have hHlt := HBO.out.ref.row.lt
            by_cases hk1 : kd = 1
            · have hk1' : (kd == 1) = true := beq_iff_eq.2 hk1
              clear hk1
              have HOW := Lib.hid (fun wx hx => own_any A bl.length c bl 71 rfl (by omega) wx hx hAc)
              go_wp2_with fail
              refine (HOW.out _ (HRD.out.keep HBA.out.below)).mono ?_
              rintro e w4 ⟨g, rfl, hr4, hg4, hb4⟩
              have HB4 := Lib.hid (HBA.out.keep hb4)
              have hP4 := keep_blk hb4 hP0
              have HP4 := Lib.hid hP4
              have kp4 : w4.cell? ⟨wr.heap.size, 1, none⟩ = some (.int .i64 pl) := by rw [(blk_cells hP4).1]; rfl
              have kp4c : w4.cell? ⟨wr.heap.size, 3, none⟩ = some (.slice A bl.length c) := by rw [(blk_cells hP4).1]; rfl
              have HG4 := Lib.hid hr4
              have hg4' : wr.heap.size + 1 ≤ g := by simpa using hg4
              have hgw : g < w4.heap.size := hr4.lt
              clear hb4 hP4 hP0 hr4 hg4
              have hnd : ∀ b off, some (⟨g, 0, none⟩ : Addr) = some ⟨b, off, none⟩ → b ≠ D ∧ b ≠ G := fun b off e => by cases e; exact ⟨by omega, by omega⟩
              have HND := Lib.hid hnd
              have hxm : bl.length ≤ 4294967295 := by omega
              have HNR := Lib.hid (show bl ≠ [] → ∀ b off, A = some ⟨b, off, none⟩ → b ≠ R ∧ b ≠ H from fun hne b off e => by
                have := hAO b off e hne
                have h1 := HBO.out.hR
                have h2 := HBO.out.hH
                exact ⟨by omega, by omega⟩)
              have HWD := Lib.hid (fun (wx : World) (hd : DiskAt wx D G N l left cut torn) (hx : RowAt wx g (bl ++ [71, 71, 71])) => write_any wx hd HBO.out.left0 HBO.out.left1 pl (some ⟨g, 0, none⟩) (bl.length + 3) bl (by omega) hxm (by have := read8_take hx.lt hx.cells bl.length; rwa [List.take_left' rfl] at this) HND.out)
              have HWR := Lib.hid (fun (wx : World) (hd : RefAt wx R H N l (refLeft left cut) torn) (hx : Read8 wx A bl) => rwrite_any wx hd HBO.out.left0 HBO.out.left1 pl A c bl hxm hx HNR.out)
              have HKE := Lib.hid (fun (wx : World) (hx : RowAt wx g (bl ++ [71, 71, 71])) hy => kept_any g A c bl 71 wx hxm hx hy)
              have HOK := Lib.hid (wrF_ok N l left cut torn pl bl HBO.out.left0 HBO.out.left1 HBO.out.b8 H8.out)
              generalize wrF N l left cut torn pl bl = W at *
              obtain ⟨cd, l', left', torn'⟩ := W
              clear hnd hxm
              go_wp2_with fail
              go_region_held3 (fun w' => w'.cell? ⟨wr.heap.size, 1, none⟩ = some (.int .i64 pl) ∧ w'.cell? ⟨wr.heap.size, 3, none⟩ = some (.slice A bl.length c)) (exact ⟨by (repeat (first | (with_reducible exact kp4) | (with_reducible exact kp5) | (with_reducible exact kp6) | (with_reducible exact kp7) | (with_reducible refine cell_drew ?_))), by (repeat (first | (with_reducible exact kp4c) | (with_reducible exact kp5c) | (with_reducible exact kp6c) | (with_reducible exact kp7c) | (with_reducible refine cell_drew ?_)))⟩) (first | (go_at_call 10; refine (HWD.out _ HB4.out.disk.drew (by exact HG4.out)).mono ?_; rintro e w5 ⟨rfl, hd5, hm5⟩; have kp5c : w5.cell? ⟨wr.heap.size, 3, none⟩ = some (.slice A bl.length c) := (World.cell?_of_block (a := ⟨wr.heap.size, 3, none⟩) (hm5.block wr.heap.size (by exact (blk_lt HP4.out)) (by omega) (by omega))).trans kp4c; have kp5 : w5.cell? ⟨wr.heap.size, 1, none⟩ = some (.int .i64 pl) := (World.cell?_of_block (a := ⟨wr.heap.size, 1, none⟩) (hm5.block wr.heap.size (by exact (blk_lt HP4.out)) (by omega) (by omega))).trans kp4; have HP5 := Lib.hid ((hm5.block wr.heap.size (by exact (blk_lt HP4.out)) (by omega) (by omega)).trans HP4.out); have HR5 := Lib.hid (hm5.ref HB4.out.ref.drew (Ne.symm HBO.out.ne1) (Ne.symm HBO.out.ne3) (Ne.symm HBO.out.ne2) (Ne.symm HBO.out.ne4)); have HG5 := Lib.hid (hm5.rowAt (g := g) (l := bl ++ [71, 71, 71]) HG4.out (by omega) (by omega)); have HL5 := Lib.hid (show Below w.heap.size w w5 from (Below.drew HB4.out.below).trans (hm5.below HB4.out.below.size HBO.out.hD HBO.out.hG)); have HD5 := Lib.hid hd5; clear hd5 hm5) | (go_at_call 11; refine (HWR.out _ (by exact HR5.out) (by exact (HRD.out.keep HL5.out))).mono ?_; rintro e w6 ⟨rfl, hr6, hm6⟩; have kp6c : w6.cell? ⟨wr.heap.size, 3, none⟩ = some (.slice A bl.length c) := (World.cell?_of_block (a := ⟨wr.heap.size, 3, none⟩) (hm6.block wr.heap.size (by exact (blk_lt HP5.out)) (by omega) (by omega))).trans kp5c; have kp6 : w6.cell? ⟨wr.heap.size, 1, none⟩ = some (.int .i64 pl) := (World.cell?_of_block (a := ⟨wr.heap.size, 1, none⟩) (hm6.block wr.heap.size (by exact (blk_lt HP5.out)) (by omega) (by omega))).trans kp5; have HP6 := Lib.hid ((hm6.block wr.heap.size (by exact (blk_lt HP5.out)) (by omega) (by omega)).trans HP5.out); have HD6 := Lib.hid (hm6.disk (by exact HD5.out) HBO.out.ne1 HBO.out.ne2 HBO.out.ne3 HBO.out.ne4); have HG6 := Lib.hid (hm6.rowAt (g := g) (l := bl ++ [71, 71, 71]) HG5.out (by omega) (by omega)); have HL6 := Lib.hid (show Below w.heap.size w w6 from HL5.out.trans (hm6.below HL5.out.size HBO.out.hR HBO.out.hH)); have HR6 := Lib.hid hr6; clear hr6 hm6) | (go_at_call 12; refine (HKE.out _ (by exact HG6.out) (by exact (HRD.out.keep HL6.out))).mono ?_; rintro e w7 ⟨rfl, hb7⟩; have kp7 := keep_cell hb7 kp6; have kp7c := keep_cell hb7 kp6c; have HP7 := Lib.hid (keep_blk hb7 HP6.out); have HD7 := Lib.hid (HD6.out.keep hb7); have HR7 := Lib.hid (HR6.out.keep hb7); have HL7 := Lib.hid (below_call HL6.out hb7); clear hb7))
              all_goals
                go_wp2_with fail
                go_meet
                exact ⟨by simp, HP7.out, l', left', cut, torn', HL7.out, HD7.out, HR7.out, HOK.out.1, HOK.out.2.1, HOK.out.2.2, HBO.out.hD, HBO.out.hG, HBO.out.hR, HBO.out.hH, HBO.out.ne1, HBO.out.ne2, HBO.out.ne3, HBO.out.ne4⟩
            have hk1' : (kd == 1) = false := beq_eq_false_iff_ne.2 hk1
            by_cases hk2 : kd = 2
            · have hk2' : (kd == 2) = true := beq_iff_eq.2 hk2
              clear hk1 hk2
              go_wp2_with fail
              refine (cut_any _ HBA.out.disk nu).mono ?_
              rintro e w4 ⟨rfl, hd4, hm4⟩
              have HD4 := Lib.hid hd4
              have HR4 := Lib.hid (hm4.ref HBA.out.ref (Ne.symm HBA.out.ne1) (Ne.symm HBA.out.ne3) (Ne.symm HBA.out.ne2) (Ne.symm HBA.out.ne4))
              have HB4 := Lib.hid (HBA.out.below.trans (hm4.below HBA.out.below.size HBA.out.hD HBA.out.hG))
              have hP4 := (hm4.block wr.heap.size (by simp) (by omega) (by omega)).trans hP0
              clear hd4 hm4
              obtain ⟨cp, zp⟩ := blk_cells hP4
              have HP4 := Lib.hid hP4
              clear hP4 hP0
              go_wp2_with fail
              refine (rcut_any w4 HR4.out nu).mono ?_
              rintro e w5 ⟨rfl, hr5, hm5⟩
              have HB5 := Lib.hid (HB4.out.trans (hm5.below HB4.out.size HBO.out.hR HBO.out.hH))
              have HD5 := Lib.hid (hm5.disk HD4.out HBO.out.ne1 HBO.out.ne2 HBO.out.ne3 HBO.out.ne4)
              have HR5 := Lib.hid hr5
              have hs4 := HB4.out.size
              have HP5 := Lib.hid ((hm5.block wr.heap.size (blk_lt HP4.out) (by omega) (by omega)).trans HP4.out)
              clear hr5 hm5 cp zp
              go_wp2_with fail
              go_meet
              exact ⟨rfl, HP5.out, l, max nu 0, true, torn, HB5.out, HD5.out, by rw [show refLeft (max nu 0) true = max 0 nu by simp [refLeft]; omega]; exact HR5.out, by omega, by omega, HBO.out.b8, HBO.out.hD, HBO.out.hG, HBO.out.hR, HBO.out.hH, HBO.out.ne1, HBO.out.ne2, HBO.out.ne3, HBO.out.ne4⟩
            have hk2' : (kd == 2) = false := beq_eq_false_iff_ne.2 hk2
            by_cases hk3 : kd = 3
            · have hk3' : (kd == 3) = true := beq_iff_eq.2 hk3
              clear hk1 hk2 hk3
              go_wp2_with fail
              refine (mend_any _ HBA.out.disk).mono ?_
              rintro e w4 ⟨rfl, hd4, hm4⟩
              have HD4 := Lib.hid hd4
              have HR4 := Lib.hid (hm4.ref HBA.out.ref (Ne.symm HBA.out.ne1) (Ne.symm HBA.out.ne3) (Ne.symm HBA.out.ne2) (Ne.symm HBA.out.ne4))
              have HB4 := Lib.hid (HBA.out.below.trans (hm4.below HBA.out.below.size HBA.out.hD HBA.out.hG))
              have HP4 := Lib.hid ((hm4.block wr.heap.size (by simp) (by omega) (by omega)).trans hP0)
              clear hd4 hm4 hP0
              go_wp2_with fail
              refine (rmend_any w4 HR4.out).mono ?_
              rintro e w5 ⟨rfl, hr5, hm5⟩
              have HB5 := Lib.hid (HB4.out.trans (hm5.below HB4.out.size HBO.out.hR HBO.out.hH))
              have HD5 := Lib.hid (hm5.disk HD4.out HBO.out.ne1 HBO.out.ne2 HBO.out.ne3 HBO.out.ne4)
              have HR5 := Lib.hid hr5
              have hs4 := HB4.out.size
              have HP5 := Lib.hid ((hm5.block wr.heap.size (blk_lt HP4.out) (by omega) (by omega)).trans HP4.out)
              clear hr5 hm5
              go_wp2_with fail
              go_meet
              exact ⟨rfl, HP5.out, l, 0, false, false, HB5.out, HD5.out, HR5.out, by omega, by omega, HBO.out.b8, HBO.out.hD, HBO.out.hG, HBO.out.hR, HBO.out.hH, HBO.out.ne1, HBO.out.ne2, HBO.out.ne3, HBO.out.ne4⟩
            have hk3' : (kd == 3) = false := beq_eq_false_iff_ne.2 hk3
            clear hk1 hk2 hk3
            obtain ⟨f, hf, hfe⟩ := u64_mod4 nu
            go_wp2_with fail
            simp only [hfe]
            clear hfe
            have HX8 := Lib.hid (fillF_8 f H8.out)
            have HXL := Lib.hid (fillF_length f bl)
            have HFI := Lib.hid (fun wx hx => fill_any f (by omega) A c bl (by omega) wx hx)
            generalize fillF f bl = X at *
            refine (HFI.out _ (HRD.out.keep HBA.out.below)).mono ?_
            rintro e w4 ⟨g, rfl, hr4, hg4, hb4⟩
            have HB4 := Lib.hid (HBA.out.keep hb4)
            have hP4 := keep_blk hb4 hP0
            have HP4 := Lib.hid hP4
            have kp4 : w4.cell? ⟨wr.heap.size, 1, none⟩ = some (.int .i64 pl) := by rw [(blk_cells hP4).1]; rfl
            have HG4 := Lib.hid hr4
            have hg4' : wr.heap.size + 1 ≤ g := by simpa using hg4
            have hgw : g < w4.heap.size := hr4.lt
            clear hb4 hP4 hP0 hr4 hg4
            have hnd : ∀ b off, some (⟨g, 0, none⟩ : Addr) = some ⟨b, off, none⟩ → b ≠ D ∧ b ≠ G := fun b off e => by cases e; exact ⟨by omega, by omega⟩
            have hnr : ∀ b off, some (⟨g, 0, none⟩ : Addr) = some ⟨b, off, none⟩ → b ≠ R ∧ b ≠ H := fun b off e => by cases e; exact ⟨by omega, by omega⟩
            have HND := Lib.hid hnd
            have HNR := Lib.hid hnr
            have hxm : X.length ≤ 4294967295 := by rw [HXL.out]; omega
            have HWD := Lib.hid (fun (wx : World) (hd : DiskAt wx D G N l left cut torn) (hx : RowAt wx g X) => write_any wx hd HBO.out.left0 HBO.out.left1 pl (some ⟨g, 0, none⟩) X.length X (Nat.le_refl _) hxm (.inr ⟨g, 0, rfl, hx.lt, hx.cells⟩) HND.out)
            have HWR := Lib.hid (fun (wx : World) (hd : RefAt wx R H N l (refLeft left cut) torn) (hx : RowAt wx g X) => rwrite_any wx hd HBO.out.left0 HBO.out.left1 pl (some ⟨g, 0, none⟩) X.length X hxm (.inr ⟨g, 0, rfl, hx.lt, hx.cells⟩) (fun _ => HNR.out))
            have HOK := Lib.hid (wrF_ok N l left cut torn pl X HBO.out.left0 HBO.out.left1 HBO.out.b8 HX8.out)
            generalize wrF N l left cut torn pl X = W at *
            obtain ⟨cd, l', left', torn'⟩ := W
            clear hnd hnr hxm
            go_wp2_with fail
            go_region_held3 (fun w' => w'.cell? ⟨wr.heap.size, 1, none⟩ = some (.int .i64 pl)) ((repeat (first | (with_reducible exact kp4) | (with_reducible exact kp5) | (with_reducible exact kp6) | (with_reducible refine cell_drew ?_)))) (first | (go_at_call 10; refine (HWD.out _ HB4.out.disk.drew (by exact HG4.out)).mono ?_; rintro e w5 ⟨rfl, hd5, hm5⟩; have kp5 : w5.cell? ⟨wr.heap.size, 1, none⟩ = some (.int .i64 pl) := (World.cell?_of_block (a := ⟨wr.heap.size, 1, none⟩) (hm5.block wr.heap.size (by exact (blk_lt HP4.out)) (by omega) (by omega))).trans kp4; have HP5 := Lib.hid ((hm5.block wr.heap.size (by exact (blk_lt HP4.out)) (by omega) (by omega)).trans HP4.out); have HR5 := Lib.hid (hm5.ref HB4.out.ref.drew (Ne.symm HBO.out.ne1) (Ne.symm HBO.out.ne3) (Ne.symm HBO.out.ne2) (Ne.symm HBO.out.ne4)); have HG5 := Lib.hid (hm5.rowAt (g := g) (l := X) HG4.out (by omega) (by omega)); have HL5 := Lib.hid (show Below w.heap.size w w5 from (Below.drew HB4.out.below).trans (hm5.below HB4.out.below.size HBO.out.hD HBO.out.hG)); have HD5 := Lib.hid hd5; clear hd5 hm5) | (go_at_call 11; refine (HWR.out _ (by exact HR5.out) (by exact HG5.out)).mono ?_; rintro e w6 ⟨rfl, hr6, hm6⟩; have kp6 : w6.cell? ⟨wr.heap.size, 1, none⟩ = some (.int .i64 pl) := (World.cell?_of_block (a := ⟨wr.heap.size, 1, none⟩) (hm6.block wr.heap.size (by exact (blk_lt HP5.out)) (by omega) (by omega))).trans kp5; have HP6 := Lib.hid ((hm6.block wr.heap.size (by exact (blk_lt HP5.out)) (by omega) (by omega)).trans HP5.out); have HD6 := Lib.hid (hm6.disk (by exact HD5.out) HBO.out.ne1 HBO.out.ne2 HBO.out.ne3 HBO.out.ne4); have HL6 := Lib.hid (show Below w.heap.size w w6 from HL5.out.trans (hm6.below HL5.out.size HBO.out.hR HBO.out.hH)); have HR6 := Lib.hid hr6; clear hr6 hm6))
            all_goals
              go_wp2_with fail
              go_meet
              exact ⟨by simp, HP6.out, l', left', cut, torn', HL6.out, HD6.out, HR6.out, HOK.out.1, HOK.out.2.1, HOK.out.2.2, HBO.out.hD, HBO.out.hG, HBO.out.hR, HBO.out.hH, HBO.out.ne1, HBO.out.ne2, HBO.out.ne3, HBO.out.ne4⟩
          case rest =>
            obtain ⟨rfl, hP, l', left', cut', torn', hbo⟩ := hcut
            have HX := Lib.hid hbo
            have HP := Lib.hid hP
            have hlen : l'.length = N * 64 := hbo.disk.len
            have HLEN := Lib.hid hlen
            have HT0 := Lib.hid (show there N 0 (N : Int) = true by simp [there])
            obtain ⟨cp, zp⟩ := blk_cells hP
            have lp := blk_lt hP
            clear hP hbo hlen hAO
            go_wp2_with fail
            refine (read_any wc HX.out.disk 0 N).mono ?_
            rintro e w5 ⟨hb5, hh⟩
            rw [HT0.out, if_pos rfl, piece_whole l' N HLEN.out] at hh
            obtain ⟨A5, c5, rfl, hf5⟩ := hh
            rw [show ((N : Int)).toNat * 64 = N * 64 by simp]
            have HX5 := Lib.hid (HX.out.keep hb5)
            have HR5 := Lib.hid hf5.read
            have hP5 := keep_blk hb5 HP.out
            have HP5 := Lib.hid hP5
            clear hb5 hf5 cp zp lp
            obtain ⟨cp, zp⟩ := blk_cells hP5
            have lp := blk_lt hP5
            clear hP5
            go_wp2_with fail
            refine (read_any w5 HX5.out.disk pl nu).mono ?_
            rintro e w6 hrd6
            obtain ⟨A6, c6, rfl, hr6, hb6⟩ := read_shape hrd6 HLEN.out
            have HX6 := Lib.hid (HX5.out.keep hb6)
            have HR56 := Lib.hid (HR5.out.keep hb6)
            have HR6 := Lib.hid hr6
            have hP6 := keep_blk hb6 HP5.out
            clear hrd6 hb6 hr6 cp zp lp
            obtain ⟨cp, zp⟩ := blk_cells hP6
            have lp := blk_lt hP6
            clear hP6
            go_wp2_with fail
            refine (rread_any w6 HX6.out.ref pl nu).mono ?_
            rintro e w7 hrd7
            obtain ⟨A7, c7, rfl, hr7, hb7⟩ := rread_shape hrd7 HLEN.out
            have HX7 := Lib.hid (HX6.out.keep hb7)
            have HR57 := Lib.hid (HR56.out.keep hb7)
            have HR67 := Lib.hid (HR6.out.keep hb7)
            have HR7 := Lib.hid hr7
            clear hrd7 hb7 hr7 cp zp lp
            have HL8 := Lib.hid (res8 (N := N) (a := pl) (n := nu) HX7.out.b8)
            generalize resL N l' pl nu = L at *
            generalize resC N pl nu = cdr at *
            have HE1 := Lib.hid (fun (wx : World) (hx : Read8 wx A5 l') (hy : Read8 wx (some ⟨H, 0, none⟩) l') => eq8s A5 (some ⟨H, 0, none⟩) (N * 64) c5 (N * 64) l' HLEN.out.symm HX7.out.b8 wx hx hy)
            have HE2 := Lib.hid (fun (wx : World) (hx : Read8 wx A6 L) (hy : Read8 wx A7 L) => eq8s A6 A7 L.length c6 c7 L rfl HL8.out wx hx hy)
            have HRH := Lib.hid (show Read8 w7 (some ⟨H, 0, none⟩) l' from .inr ⟨H, 0, rfl, HX7.out.ref.row.lt, HX7.out.ref.row.cells⟩)
            obtain ⟨cr, zr⟩ := blk_cells HX7.out.ref.top
            have lr := blk_lt HX7.out.ref.top
            go_wp2_with fail
            go_quiet ((first | (go_at_call 20; exact Calls.quiet_of_same (HE1.out _ (read8_dN HR57.out) (read8_dN HRH.out))) | (go_at_call 20; exact Calls.quiet_of_same (HE2.out _ (read8_dN HR67.out) (read8_dN HR7.out))) | (go_at_call 21; exact Calls.quiet_of_same (torn_any _ HX7.out.disk.drewN)) | (go_at_call 22; exact Calls.quiet_of_same (dblocks_any _ HX7.out.disk.drewN))))
            clear cr zr lr
            go_wp2_with fail
            go_roundw
            case rel => exact ⟨i + 1, l', left', cut', torn', by go_num, by omega, HX7.out.keep (below_drewNs (Below.refl _ _))⟩
            case measure => simp [intOf]; omega
      · have hd : decide ((i : Int) < 60) = false := decide_eq_false (by omega)
        go_wp2_with fail
        go_ret
        exact ⟨rfl, HBO.out.below⟩
    · have hd : decide ((i : Int) < (no : Int)) = false := decide_eq_false (by omega)
      go_wp2_with fail
      go_ret
      exact ⟨rfl, HBO.out.below⟩
end Go.Proofs.Ytcegkpgidineaaa
