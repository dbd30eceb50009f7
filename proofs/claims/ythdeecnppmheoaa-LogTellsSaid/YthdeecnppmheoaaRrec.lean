/- get4 and record of the reference. -/
import Derived.Test.YthdeecnppmheoaaRpack
import Derived.BigQuiet
import Derived.Deep.QuietTactic
import Derived.OwnWalk
import Derived.Deep.DeepCutAuto
import Derived.Deep.CutBlock
import Derived.Deep.RegionHeld3
namespace Go.Proofs.Ythdeecnppmheoaa
open Go.RowKit
set_option maxHeartbeats 2000000 in
theorem get4_any (b off n c i : Nat) (x0 x1 x2 x3 : Int) (hi : i + 4 ≤ n) (hn : n ≤ 140737488351232) (a0 : 0 ≤ x0) (b0 : x0 ≤ 255) (a1 : 0 ≤ x1) (b1 : x1 ≤ 255) (a2 : 0 ≤ x2) (b2 : x2 ≤ 255) (a3 : 0 ≤ x3) (b3 : x3 ≤ 255) (w : World)
    (h0 : w.cell? ⟨b, off + i, none⟩ = some (.int .u8 x0)) (h1 : w.cell? ⟨b, off + (i + 1), none⟩ = some (.int .u8 x1)) (h2 : w.cell? ⟨b, off + (i + 2), none⟩ = some (.int .u8 x2)) (h3 : w.cell? ⟨b, off + (i + 3), none⟩ = some (.int .u8 x3)) :
    Calls Try.prog 29 #[.slice (some ⟨b, off, none⟩) n c, .int .i64 (i : Int)] w fun e w' => e = .returned (.int .u32 (getF x0 x1 x2 x3)) ∧ ∃ m, w' = w.drewN m := by
  have hn0 : (i : Int) < (n : Int) := by omega
  have hn1 : (i : Int) + 1 < (n : Int) := by omega
  have hn2 : (i : Int) + 2 < (n : Int) := by omega
  have hn3 : (i : Int) + 3 < (n : Int) := by omega
  have q1 : IntKind.i64.wrap ((i : Int) + 1) = (i : Int) + 1 := IntWalk.i64_in _ (by omega)
  have q2 : IntKind.i64.wrap ((i : Int) + 2) = (i : Int) + 2 := IntWalk.i64_in _ (by omega)
  have q3 : IntKind.i64.wrap ((i : Int) + 3) = (i : Int) + 3 := IntWalk.i64_in _ (by omega)
  have p1 : (0 : Int) ≤ (i : Int) + 1 := by omega
  have p2 : (0 : Int) ≤ (i : Int) + 2 := by omega
  have p3 : (0 : Int) ≤ (i : Int) + 3 := by omega
  have r1 : ((i : Int) + 1).toNat = i + 1 := by omega
  have r2 : ((i : Int) + 2).toNat = i + 2 := by omega
  have r3 : ((i : Int) + 3).toNat = i + 3 := by omega
  go_enter Try.func29, Try.ntmps29
  go_wp2_with fail
  go_quiet (fail)
  go_wp2
  go_ret
  exact ⟨ret_u32 (by rw [u32_join24 (x0 * 16777216) (x1 * 65536) (by omega) (by omega) (by omega) (by omega) (by omega), u32_join16 (x0 * 16777216 + x1 * 65536) (x2 * 256) (by omega) (by omega) (by omega) (by omega) (by omega), u32_join8 (x0 * 16777216 + x1 * 65536 + x2 * 256) x3 (by omega) (by omega) (by omega) (by omega) (by omega)]; rfl), nq, rfl⟩
/-- get4 at a place of a list. -/
theorem get4_at (b off i n c : Nat) (l : List Int) (h8 : Bytes8 l) (hn : n = l.length) (hmax : n ≤ 140737488351232) (hi : i + 4 ≤ l.length) (w : World) (hcell : Has8 w b off l) :
    Calls Try.prog 29 #[.slice (some ⟨b, off, none⟩) n c, .int .i64 (i : Int)] w fun e w' => e = .returned (.int .u32 (numAt l i)) ∧ ∃ m, w' = w.drewN m := by
  obtain ⟨a0, b0⟩ := bytes8_get h8 i
  obtain ⟨a1, b1⟩ := bytes8_get h8 (i + 1)
  obtain ⟨a2, b2⟩ := bytes8_get h8 (i + 2)
  obtain ⟨a3, b3⟩ := bytes8_get h8 (i + 3)
  refine (get4_any b off n c i _ _ _ _ (by omega) hmax a0 b0 a1 b1 a2 b2 a3 b3 w (hcell i (by omega)) (hcell (i + 1) (by omega)) (hcell (i + 2) (by omega)) (hcell (i + 3) (by omega))).mono ?_
  rintro e w' ⟨rfl, hm⟩
  exact ⟨by rw [(numAt_eq h8 i).1], hm⟩
theorem str_magic : (⟨#[67, 68, 88, 49]⟩ : ByteArray) = strOfNums magic := by decide +kernel
theorem magic_ne {l : List Int} (h8 : Bytes8 l) (b : Bool) (h : decide (l.take 4 = magic) = b) : ((strOfNums (l.take 4)).toList == [67, 68, 88, 49]) = b := by
  have e : (strOfNums magic).toList = [67, 68, 88, 49] := by rw [← str_magic, ByteArray.toList_eq]
  rw [← e, str_eq8 (bytes8_take h8 4) magic8, h]
set_option maxHeartbeats 1000000 in
theorem rec_short (A : Option Addr) (n c : Nat) (hn : (n : Int) < 64) (w : World) : Calls Try.prog 21 #[.slice A n c] w (NoRec w) := by
  go_enter Try.func21, Try.ntmps21
  go_wp2
  refine bodyPost_ret (v := .tuple #[.agg #[.int .u32 0, .int .u8 0, .slice none 0 0], .int .i64 0]) ?_ rfl ⟨rfl, ?_⟩
  · simp [results, Try.results21, go_sem]
  · repeat (first | (with_reducible exact Below.refl _ _) | (with_reducible refine below_new ?_ _) | (with_reducible refine Below.drew ?_) | (with_reducible refine below_drewNs ?_) | (with_reducible refine below_set ?_ (Nat.le_refl _)))
set_option maxHeartbeats 1000000 in
theorem rec_magic (b off n c : Nat) (l : List Int) (hn : n = l.length) (h64 : (64 : Int) ≤ (n : Int)) (hc : n ≤ c) (h8 : Bytes8 l) (w : World) (hlt : b < w.heap.size) (hcell : Has8 w b off l) (hm : l.take 4 ≠ magic) :
    Calls Try.prog 21 #[.slice (some ⟨b, off, none⟩) n c] w (NoRec w) := by
  have kc := conv8 (w.alloc (.cells #[.int .u32 0, .int .u8 0, .slice none 0 0] 34)) (some ⟨b, off, none⟩) c (l.take 4) (read8_take (by simp; omega) hcell.old 4)
  rw [show (l.take 4).length = 4 by rw [List.length_take]; omega] at kc
  have hc4 : (4 : Int) ≤ (c : Int) := by omega
  have he := magic_ne h8 false (decide_eq_false hm)
  clear hcell hm hn h8
  go_enter Try.func21, Try.ntmps21
  go_wp2_with fail
  refine bodyPost_ret (v := .tuple #[.agg #[.int .u32 0, .int .u8 0, .slice none 0 0], .int .i64 0]) ?_ rfl ⟨rfl, ?_⟩
  · simp [results, Try.results21, go_sem]
  · repeat (first | (with_reducible exact Below.refl _ _) | (with_reducible refine below_new ?_ _) | (with_reducible refine Below.drew ?_) | (with_reducible refine below_drewNs ?_) | (with_reducible refine below_set ?_ (Nat.le_refl _)))
set_option maxHeartbeats 1000000 in
theorem rec_far (b off n c : Nat) (l : List Int) (hn : n = l.length) (h64 : (64 : Int) ≤ (n : Int)) (hmax : n ≤ 140737488351232) (hc : n ≤ c) (h8 : Bytes8 l) (w : World) (hlt : b < w.heap.size) (hcell : Has8 w b off l) (hm : l.take 4 = magic) (hk : n < numAt l 8) :
    Calls Try.prog 21 #[.slice (some ⟨b, off, none⟩) n c] w (NoRec w) := by
  have kc := conv8 (w.alloc (.cells #[.int .u32 0, .int .u8 0, .slice none 0 0] 34)) (some ⟨b, off, none⟩) c (l.take 4) (read8_take (by simp; omega) hcell.old 4)
  rw [show (l.take 4).length = 4 by rw [List.length_take]; omega] at kc
  have hc4 : (4 : Int) ≤ (c : Int) := by omega
  have he := magic_ne h8 true (decide_eq_true hm)
  obtain ⟨_, hN⟩ := numAt_eq h8 8
  have HG := Lib.hid (fun wx hx => get4_at b off 8 n c l h8 hn hmax (by omega) wx hx)
  have HH := Lib.hid hcell
  generalize numAt l 8 = N at *
  have hk' : (n : Int) < (N : Int) := by omega
  clear hcell hm hn h8
  go_enter Try.func21, Try.ntmps21
  go_wp2_with fail
  refine (HG.out _ HH.out.old).mono ?_
  rintro e w2 ⟨rfl, m, rfl⟩
  go_wp2_with fail
  refine bodyPost_ret (v := .tuple #[.agg #[.int .u32 0, .int .u8 0, .slice none 0 0], .int .i64 0]) ?_ rfl ⟨rfl, ?_⟩
  · simp [results, Try.results21, go_sem]
  · repeat (first | (with_reducible exact Below.refl _ _) | (with_reducible refine below_new ?_ _) | (with_reducible refine Below.drew ?_) | (with_reducible refine below_drewNs ?_) | (with_reducible refine below_set ?_ (Nat.le_refl _)))
theorem three_sets {w : World} {b : Nat} {a0 a1 a2 v0 v1 v2 : Value} {t : TypeId} (h : w.heap[b]? = some (.cells #[a0, a1, a2] t)) : (((w.setCell ⟨b, 0, none⟩ v0).setCell ⟨b, 1, none⟩ v1).setCell ⟨b, 2, none⟩ v2).heap[b]? = some (.cells #[v0, v1, v2] t) := by
  have := heap_set_same (i := 2) (v := v2) (heap_set_same (i := 1) (v := v1) (heap_set_same (i := 0) (v := v0) h))
  simpa using this
theorem quiet_add'' {P : Program} {f : FuncId} {args : Array Value} {w : World} {n : Nat} {v : Value} (h : Calls P f args (w.drewN n) fun e w' => e = .returned v ∧ ∃ m, w' = (w.drewN n).drewN m) :
    Calls P f args (w.drewN n) fun e w' => e = .returned v ∧ ∃ m, w' = w.drewN m :=
  h.mono fun _ _ ⟨he, m, hm⟩ => ⟨he, n + m, by rw [hm, World.drewN_drewN]⟩
theorem read8_drewN' {w : World} {A : Option Addr} {l : List Int} {n : Nat} (h : Read8 w A l) : Read8 (w.drewN n) A l := h
theorem below_drewNs' {B : Nat} {a x : World} {n : Nat} (h : Below B a x) : Below B a (x.drewN n) := ⟨h.os, h.tape, h.output, h.size, h.block⟩
theorem own_fresh {B : Nat} {w : World} {A : Option Addr} {n c : Nat} {l : List Int} (h : Own8 B w (.slice A n c) l) : Fresh8 B w A l := by
  by_cases hne : l = []
  · exact .inl hne
  · obtain ⟨g, rfl, _, hB, hlt, _, hc⟩ := h.row hne
    obtain ⟨_, cur, hb⟩ := owns_block h g rfl
    exact .inr ⟨g, 0, cur, (0, 0), rfl, hB, hb, hc⟩
/-- record's answer. -/
def RecIs (w : World) (l : List Int) (e : Ending) (w' : World) : Prop :=
  match recAt l with
  | none => NoRec w e w'
  | some ((q, k, d), K) => IsRec w q k d (64 * K) e w'
set_option maxHeartbeats 4000000 in
theorem rec_near (b off n c : Nat) (l : List Int) (hn : n = l.length) (h64 : (64 : Int) ≤ (n : Int)) (hmax : n ≤ 140737488351232) (hc : n ≤ c) (h8 : Bytes8 l) (w : World) (hlt : b < w.heap.size) (hcell : Has8 w b off l) (hm : l.take 4 = magic) (hk : numAt l 8 ≤ n) :
    Calls Try.prog 21 #[.slice (some ⟨b, off, none⟩) n c] w (fun e w' => RecIs w l e w') := by
  have kc := conv8 (w.alloc (.cells #[.int .u32 0, .int .u8 0, .slice none 0 0] 34)) (some ⟨b, off, none⟩) c (l.take 4) (read8_take (by simp; omega) hcell.old 4)
  rw [show (l.take 4).length = 4 by rw [List.length_take]; omega] at kc
  have hc4 : (4 : Int) ≤ (c : Int) := by omega
  have he := magic_ne h8 true (decide_eq_true hm)
  obtain ⟨_, hN⟩ := numAt_eq h8 8
  have HG := Lib.hid (fun wx hx => get4_at b off 8 n c l h8 hn hmax (by omega) wx hx)
  have HG4 := Lib.hid (fun wx hx => get4_at b off 4 n c l h8 hn hmax (by omega) wx hx)
  have HH := Lib.hid hcell
  have h12 := hcell 12 (by omega)
  have HM := Lib.hid hm
  have H8 := Lib.hid h8
  have HNL := Lib.hid hn
  obtain ⟨N, hNe⟩ : ∃ N, numAt l 8 = N := ⟨_, rfl⟩
  have HNE := Lib.hid hNe
  rw [hNe] at hk hN HG
  obtain ⟨x12, hx12⟩ : ∃ x, l.getD 12 0 = x := ⟨_, rfl⟩
  have HX12 := Lib.hid hx12
  rw [hx12] at h12
  obtain ⟨Q, hQ⟩ : ∃ Q, numAt l 4 = Q := ⟨_, rfl⟩
  have HQ := Lib.hid hQ
  rw [hQ] at HG4
  have hne1 : w.heap.size ≠ b := by omega
  have hne2 : w.heap.size + 1 ≠ b := by omega
  clear hcell hm hn h8 hNe hx12 hQ
  go_enter Try.func21, Try.ntmps21
  go_wp2_with fail
  refine (HG.out _ HH.out.old).mono ?_
  rintro e w2 ⟨rfl, m, rfl⟩
  have hk' : (N : Int) ≤ (n : Int) := by omega
  have hn12 : (12 : Int) < (n : Int) := by omega
  have hh := HH.out
  have h12o : (w.alloc (.cells #[.int .u32 0, .int .u8 0, .slice none 0 0] 34)).cell? ⟨b, off + 12, none⟩ = some (.int .u8 x12) := cell_old h12
  go_wp2_with fail
  go_cut [5] (fun s5 wx => s5 = .pointer (some ⟨w.heap.size + 1, 0, none⟩) ∧ Below w.heap.size w wx ∧ wx.heap[w.heap.size]? = some (.cells #[.int .u32 0, .int .u8 0, .slice none 0 0] 34) ∧ wx.heap[w.heap.size + 1]? = some (.cells #[.int .u32 Q, .int .u8 x12, .slice none 0 0] 34))
  case first =>
    go_region_held3 (fun w' => Has8 w' b off l ∧ w'.cell? ⟨b, off + 12, none⟩ = some (.int .u8 x12)) (exact ⟨by (repeat (first | (with_reducible exact hh) | (with_reducible refine Has8.drewN ?_) | (with_reducible refine Has8.drew ?_) | (with_reducible refine Has8.old ?_) | (with_reducible refine Has8.set ?_ hne2))), by (repeat (first | (with_reducible exact h12) | (with_reducible refine cell_drewN ?_) | (with_reducible refine cell_drew ?_) | (with_reducible refine cell_old ?_) | (with_reducible refine cell_far hne2 ?_)))⟩) (first | (go_at_call 29; refine (HG4.out _ (by change Has8 _ b off l; (repeat (first | (with_reducible exact hh) | (with_reducible refine Has8.drewN ?_) | (with_reducible refine Has8.drew ?_) | (with_reducible refine Has8.old ?_))))).mono ?_; rintro e wg ⟨rfl, mg, rfl⟩))
    all_goals
      go_wp2_with fail
      go_meet
      refine ⟨rfl, ?_, ?_, ?_⟩
      · repeat (first | (with_reducible exact Below.refl _ _) | (with_reducible refine below_new ?_ _) | (with_reducible refine Below.drew ?_) | (with_reducible refine below_drewNs ?_) | (with_reducible refine below_set ?_ (Nat.le_succ _)))
      · repeat (first | (with_reducible exact heap_top0) | (with_reducible refine heap_old ?_) | (with_reducible refine heap_drew ?_) | (with_reducible refine heap_drewN ?_) | (with_reducible refine heap_far (Nat.succ_ne_self _) ?_))
      · first | exact heap_top' (by simp) | (refine three_sets (a0 := .int .u32 0) (a1 := .int .u8 0) (a2 := .slice none 0 0) ?_; (repeat (first | ((with_reducible refine heap_top' ?_); simp; done) | (with_reducible refine heap_drew ?_) | (with_reducible refine heap_drewN ?_))))
  case rest =>
    obtain ⟨rfl, hb, hr, hx⟩ := hcut
    have HB := Lib.hid hb
    have HR := Lib.hid hr
    have HX := Lib.hid hx
    have HH1 := Lib.hid (Has8.keep HH.out hb)
    obtain ⟨cr, zr⟩ := blk_cells hr
    obtain ⟨cx, zx⟩ := blk_cells hx
    have lx := blk_lt hx
    have hbl : b < wc.heap.size := by omega
    clear hb hr hx kc he hh h12o
    obtain ⟨K, hK⟩ : ∃ K, (N + 81) / 64 = K := ⟨_, rfl⟩
    have hke : (18 + (N : Int) + 64 - 1) / 64 = (K : Int) := by omega
    have hk1 : 1 ≤ K := by omega
    have hNK : N + 18 ≤ 64 * K := by omega
    have HK := Lib.hid hK
    clear hK
    have hw2 : IntKind.i64.wrap ((K : Int) * 64 - 1) = (K : Int) * 64 - 1 := IntWalk.i64_in _ (by omega)
    go_wp2_with fail
    simp only [hke]
    by_cases hkn : K * 64 ≤ n
    · have hlast := HH1.out (K * 64 - 1) (by have := HNL.out; omega)
      have hw4 : ((K : Int) * 64 - 1).toNat = K * 64 - 1 := by omega
      have hp0 : (0 : Int) ≤ (K : Int) * 64 - 1 := by omega
      have hp1 : (K : Int) * 64 - 1 < (n : Int) := by omega
      have hp2 : (1 : Int) ≤ (K : Int) * 64 := by omega
      have hp3 : (K : Int) * 64 ≤ (n : Int) := by omega
      have hg1 : decide ((n : Int) < (K : Int) * 64) = false := decide_eq_false (by omega)
      by_cases hw : l.getD (K * 64 - 1) 0 = 1
      · have hx := beq_iff_eq.2 hw
        have HZ0 := Lib.hid (show (numAt l (13 + N) : Int) = sumF ((l.drop 4).take (N + 9)) → recAt l = some (((Q : Int), x12, (l.drop 13).take N), K) from fun hs => by
          unfold recAt; rw [HNE.out, HK.out, HQ.out, HX12.out, if_pos]
          exact ⟨by have := HNL.out; omega, HM.out, by rw [← HNL.out]; omega, hw, hs⟩)
        have HG2 := Lib.hid (fun wx hx => get4_at b off (13 + N) n c l H8.out HNL.out hmax (by have := HNL.out; omega) wx hx)
        have HS2 := Lib.hid (fun wx hx => rsum_any (some ⟨b, off + 4, none⟩) (13 + N - 4) (c - 4) ((l.drop 4).take (N + 9)) (by have := HNL.out; simp; omega) wx (by simp; omega) (bytes8_take (bytes8_drop H8.out 4) _) hx)
        have HR2 := Lib.hid (has8_mid HH1.out hbl 4 (N + 9))
        generalize l.getD (K * 64 - 1) 0 = x at *
        have hx2 : (x != (1 : Int)) = false := by rw [bne, hx]; rfl
        have hw5 : IntKind.i64.wrap (13 + (N : Int)) = 13 + (N : Int) := IntWalk.i64_in _ (by omega)
        have hw6 : (13 + (N : Int)).toNat = 13 + N := by omega
        have hp4 : (0 : Int) ≤ 13 + (N : Int) := by omega
        have hp5 : (13 : Int) + (N : Int) ≤ (n : Int) := by omega
        have hp6 : (13 : Int) + (N : Int) ≤ (c : Int) := by omega
        have hp7 : (4 : Int) ≤ 13 + (N : Int) := by omega
        have hc5 : ¬ c = 4 := by omega
        have hcast : ((13 + N : Nat) : Int) = 13 + (N : Int) := by omega
        rw [hcast] at HG2
        clear hw hcast
        by_cases hs : (numAt l (13 + N) : Int) = sumF ((l.drop 4).take (N + 9))
        · have hgs := beq_iff_eq.2 hs
          have HZ := Lib.hid (HZ0.out hs)
          have HDL := Lib.hid (show ((l.drop 13).take N).length = N by have := HNL.out; simp; omega)
          have HD := Lib.hid (has8_mid HH1.out hbl 13 N)
          generalize sumF ((l.drop 4).take (N + 9)) = S at *
          generalize numAt l (13 + N) = G at *
          generalize (l.drop 13).take N = data at *
          have hgs2 : ((G : Int) != S) = false := by rw [bne, hgs]; rfl
          clear hs
          go_quiet ((first | (go_at_call 29; exact quiet_add'' (HG2.out _ (Has8.drewN HH1.out))) | (go_at_call 12; exact Calls.quiet_of_same (HS2.out _ (read8_drewN' HR2.out)))))
          clear hgs hgs2 hx hx2 hg1
          have hc13 : ¬ c = 13 := by omega
          have hq3 : (13 : Int) ≤ 13 + (N : Int) := by omega
          go_wp2_with (at_builtin; refine append8 rfl (.const (.slice none 0 0)) (.tmp 65) rfl (w.heap.size + 2) _ [] rfl (Own8.nil _ _) (some ⟨b, off + 13, none⟩) N (c - 13) data rfl ?hn ?hA (fun h => by cases h) ?hmax ?hbase ?_)
          case hn => exact HDL.out.symm
          case hA => exact HD.out
          case hmax => show 0 + N ≤ _; omega
          case hbase => show _ ≤ wc.heap.size; omega
          intro A2 c2 w2 hown2 hb2 _
          have hb3 := hb2 wc (below_drewNs' (Below.refl _ _))
          have HB2 := Lib.hid (show Below w.heap.size w w2 from HB.out.trans (hb3.mono (by omega)))
          have br : w2.heap[w.heap.size]? = some (.cells #[.int .u32 0, .int .u8 0, .slice none 0 0] 34) := (hb3.block _ (by omega)).trans HR.out
          have bx : w2.heap[w.heap.size + 1]? = some (.cells #[.int .u32 Q, .int .u8 x12, .slice none 0 0] 34) := (hb3.block _ (by omega)).trans HX.out
          have HF := Lib.hid (own_fresh hown2.out)
          clear hb2 hb3 cr zr cx zx lx
          obtain ⟨cr, zr⟩ := blk_cells br
          obtain ⟨cx, zx⟩ := blk_cells bx
          have BR := Lib.hid br
          have BX := Lib.hid bx
          have nrx : w.heap.size + 1 ≠ w.heap.size := by omega
          clear br bx
          go_wp2_with fail
          have bq := three_sets (v0 := .int .u32 Q) (v1 := .int .u8 x12) (v2 := .slice A2 data.length c2) (heap_far (a := ⟨w.heap.size + 1, 2, none⟩) (v := .slice A2 data.length c2) nrx BR.out)
          obtain ⟨cq, _⟩ := blk_cells bq
          refine bodyPost_ret (v := .tuple #[.agg #[.int .u32 Q, .int .u8 x12, .slice A2 data.length c2], .int .i64 ((K : Int) * 64)]) ?_ rfl ?_
          · simp [results, Try.results21, go_sem, cq]
          · show RecIs w l _ _
            simp only [RecIs, HZ.out]
            refine ⟨A2, c2, by rw [show ((64 * K : Nat) : Int) = (K : Int) * 64 by omega], ?_, ?_⟩
            · exact (((((HF.out.set (by simp)).set (by simp)).set (by simp)).set (by simp)).mono (by simp))
            · repeat (first | (with_reducible exact HB2.out) | (with_reducible refine below_set ?_ (Nat.le_refl _)) | (with_reducible refine below_set ?_ (Nat.le_succ _)))
        · have hgs : ((numAt l (13 + N) : Int) == sumF ((l.drop 4).take (N + 9))) = false := beq_eq_false_iff_ne.2 hs
          have HZ := Lib.hid (show recAt l = none by
            unfold recAt; rw [HNE.out, HK.out, if_neg]; rintro ⟨_, _, _, _, h⟩; exact hs h)
          generalize sumF ((l.drop 4).take (N + 9)) = S at *
          generalize numAt l (13 + N) = G at *
          have hgs2 : ((G : Int) != S) = true := by rw [bne, hgs]; rfl
          clear hs
          go_quiet ((first | (go_at_call 29; exact quiet_add'' (HG2.out _ (Has8.drewN HH1.out))) | (go_at_call 12; exact Calls.quiet_of_same (HS2.out _ (read8_drewN' HR2.out)))))
          go_wp2_with fail
          have b3 := three_sets (v0 := .int .u32 0) (v1 := .int .u8 0) (v2 := .slice none 0 0) (heap_drewN (m := nq) HR.out)
          obtain ⟨c3, _⟩ := blk_cells b3
          refine bodyPost_ret (v := .tuple #[.agg #[.int .u32 0, .int .u8 0, .slice none 0 0], .int .i64 0]) ?_ rfl ?_
          · simp [results, Try.results21, go_sem, c3]
          · show RecIs w l _ _
            simp only [RecIs, HZ.out]
            refine ⟨rfl, ?_⟩
            repeat (first | (with_reducible exact HB.out) | (with_reducible refine below_new ?_ _) | (with_reducible refine Below.drew ?_) | (with_reducible refine below_drewNs ?_) | (with_reducible refine below_set ?_ (Nat.le_refl _)))
      · have hx : (l.getD (K * 64 - 1) 0 == (1 : Int)) = false := beq_eq_false_iff_ne.2 hw
        have HZ := Lib.hid (show recAt l = none by
          unfold recAt; rw [HNE.out, HK.out, if_neg]; rintro ⟨_, _, _, h, _⟩; exact hw h)
        generalize l.getD (K * 64 - 1) 0 = x at *
        have hx2 : (x != (1 : Int)) = true := by rw [bne, hx]; rfl
        clear hw
        go_quiet (fail)
        go_wp2_with fail
        have b3 := three_sets (v0 := .int .u32 0) (v1 := .int .u8 0) (v2 := .slice none 0 0) (heap_drewN (m := nq) HR.out)
        obtain ⟨c3, _⟩ := blk_cells b3
        refine bodyPost_ret (v := .tuple #[.agg #[.int .u32 0, .int .u8 0, .slice none 0 0], .int .i64 0]) ?_ rfl ?_
        · simp [results, Try.results21, go_sem, c3]
        · show RecIs w l _ _
          simp only [RecIs, HZ.out]
          refine ⟨rfl, ?_⟩
          repeat (first | (with_reducible exact HB.out) | (with_reducible refine below_new ?_ _) | (with_reducible refine Below.drew ?_) | (with_reducible refine below_drewNs ?_) | (with_reducible refine below_set ?_ (Nat.le_refl _)))
    · have hg1 : decide ((n : Int) < (K : Int) * 64) = true := decide_eq_true (by omega)
      have HZ := Lib.hid (show recAt l = none by
        unfold recAt; rw [HNE.out, HK.out, if_neg]; rintro ⟨_, _, h, _⟩; rw [← HNL.out] at h; omega)
      go_quiet (fail)
      go_wp2_with fail
      have b3 := three_sets (v0 := .int .u32 0) (v1 := .int .u8 0) (v2 := .slice none 0 0) (heap_drewN (m := nq) HR.out)
      obtain ⟨c3, _⟩ := blk_cells b3
      refine bodyPost_ret (v := .tuple #[.agg #[.int .u32 0, .int .u8 0, .slice none 0 0], .int .i64 0]) ?_ rfl ?_
      · simp [results, Try.results21, go_sem, c3]
      · show RecIs w l _ _
        simp only [RecIs, HZ.out]
        refine ⟨rfl, ?_⟩
        repeat (first | (with_reducible exact HB.out) | (with_reducible refine below_new ?_ _) | (with_reducible refine Below.drew ?_) | (with_reducible refine below_drewNs ?_) | (with_reducible refine below_set ?_ (Nat.le_refl _)))
theorem rec_any (A : Option Addr) (n c : Nat) (l : List Int) (hn : n = l.length) (hmax : n ≤ 140737488351232) (hc : n ≤ c) (h8 : Bytes8 l) (w : World) (hr : Read8 w A l) :
    Calls Try.prog 21 #[.slice A n c] w (RecIs w l) := by
  change Calls Try.prog 21 _ w (fun e w' => RecIs w l e w')
  rcases Nat.lt_or_ge n 64 with h | h
  · have hz : recAt l = none := by unfold recAt; rw [if_neg]; omega
    simp only [RecIs, hz]
    exact rec_short A n c (by omega) w
  · rcases hr with rfl | ⟨b, off, rfl, hlt, hcell⟩
    · simp at hn; omega
    by_cases hm : l.take 4 = magic
    · by_cases hk : numAt l 8 ≤ n
      · exact rec_near b off n c l hn (by omega) hmax hc h8 w hlt hcell hm hk
      · have hz : recAt l = none := by unfold recAt; rw [if_neg]; rintro ⟨_, _, h, _⟩; rw [← hn] at h; omega
        simp only [RecIs, hz]
        exact rec_far b off n c l hn (by omega) hmax hc h8 w hlt hcell hm (by omega)
    · have hz : recAt l = none := by unfold recAt; rw [if_neg]; rintro ⟨_, h, _⟩; exact hm h
      simp only [RecIs, hz]
      exact rec_magic b off n c l hn (by omega) hc h8 w hlt hcell hm
end Go.Proofs.Ythdeecnppmheoaa
