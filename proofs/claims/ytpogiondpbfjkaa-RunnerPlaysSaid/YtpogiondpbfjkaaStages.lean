/- stages: of sizes. -/
import Derived.Test.YtpogiondpbfjkaaZeros
namespace Go.Proofs.Ytpogiondpbfjkaa
open Go.RowKit Go.Conc
theorem info50 : (Try.prog.info? 50).map (fun i => (i.zero, i.size, i.bytes)) = some (some (.slice none 0 0), 1, 24) := by kernel_rfl
theorem info57 : (Try.prog.info? 57).map (fun i => (i.zero, i.size, i.bytes)) = some (some (.agg #[.string "".toUTF8, .string "".toUTF8]), 2, 32) := by kernel_rfl
theorem info3 : (Try.prog.info? 3).map (fun i => (i.zero, i.size, i.bytes)) = some (some (.int .i64 0), 1, 8) := by kernel_rfl
theorem info60 : (Try.prog.info? 60).map (fun i => (i.zero, i.size, i.bytes)) = some (some (.agg #[.int .i64 0, .int .i64 0, .int .i64 0]), 3, 24) := by kernel_rfl
theorem owns_apart {w w' : World} {B1 B2 e1 e2 s1 s2 n1 n2 : Nat} {v1 v2 : Value} {x1 x2 : List Value} (h1 : w.ownsRow B1 e1 s1 v1 n1 x1) (h2 : w.ownsRow B2 e2 s2 v2 n2 x2) (hne : e1 ≠ e2) (hg : w.grownBy w' v2.ownBlock) : w'.ownsRow B1 e1 s1 v1 n1 x1 := by
  refine h1.kept hg ?_
  cases h : v1.ownBlock with
  | none => exact .inl rfl
  | some g =>
    refine .inr (fun e => ?_)
    obtain ⟨_, c1, k1⟩ := owns_block h1 g h
    obtain ⟨_, c2, k2⟩ := owns_block h2 g e.symm
    rw [k1] at k2
    simp at k2
    exact hne k2.2
theorem owns_keep {a : Nat} {X y : World} {e s n : Nat} {v : Value} {xs : List Value} (h : X.ownsRow a e s v n xs) (hb : Below X.heap.size X y) : y.ownsRow a e s v n xs := by
  obtain ⟨h0, h1⟩ := h
  refine ⟨h0, ?_⟩
  rcases h1 with h1 | ⟨g, cap, cur, h1, h2, h3, h4⟩
  · exact .inl h1
  · exact .inr ⟨g, cap, cur, h1, h2, keep_blk hb h3, h4⟩
theorem owns_slice {a : Nat} {w : World} {e s n : Nat} {v : Value} {xs : List Value} (h : w.ownsRow a e s v n xs) : ∃ A c, v = .slice A n c := by
  rcases h.2 with ⟨rfl, rfl⟩ | ⟨g, cap, cur, rfl, _⟩
  · exact ⟨_, _, rfl⟩
  · exact ⟨_, _, rfl⟩
/-- What is left of a number by a small one. -/
def modN (m : Nat) (x : Int) : Nat := ((IntKind.u64.wrap x).tmod (m : Int)).toNat
theorem modN_lt (m : Nat) (x : Int) (hm : 0 < m) : modN m x < m := by
  have h0 : 0 ≤ IntKind.u64.wrap x := by unfold IntKind.wrap; simp [IntKind.signed, IntKind.bits]; omega
  unfold modN
  rw [Int.tmod_eq_emod_of_nonneg h0]
  have h1 := Int.emod_nonneg (IntKind.u64.wrap x) (b := (m : Int)) (by omega)
  have h2 := Int.emod_lt_of_pos (IntKind.u64.wrap x) (b := (m : Int)) (by omega)
  omega
theorem modN_eq (m : Nat) (x : Int) (hm : 0 < m) (hmm : m < 4294967296) : wrap64 ((IntKind.u64.wrap x).tmod (m : Int)) = (modN m x : Int) := by
  have h0 : 0 ≤ IntKind.u64.wrap x := by unfold IntKind.wrap; simp [IntKind.signed, IntKind.bits]; omega
  have hl := modN_lt m x hm
  unfold modN at *
  rw [Int.tmod_eq_emod_of_nonneg h0] at *
  have h1 := Int.emod_nonneg (IntKind.u64.wrap x) (b := (m : Int)) (by omega)
  generalize IntKind.u64.wrap x % (m : Int) = y at *
  rw [IntWalk.wrap64_in _ (by omega)]; omega
theorem modN_eq5 (x : Int) : wrap64 ((IntKind.u64.wrap x).tmod 5) = (modN 5 x : Int) := modN_eq 5 x (by decide) (by decide)
/-- Numbers that came in. -/
def IntsIn (w : World) (O : Option Addr) (n : Nat) (ds : Nat → Int) : Prop :=
  n = 0 ∨ ∃ b off, O = some ⟨b, off, none⟩ ∧ b < w.heap.size ∧ ∀ i, i < n → w.cell? ⟨b, off + i, none⟩ = some (.int .i64 (ds i))
theorem IntsIn.keep {X y : World} {O : Option Addr} {n : Nat} {ds : Nat → Int} (h : IntsIn X O n ds) (hb : Below X.heap.size X y) : IntsIn y O n ds := by
  rcases h with h | ⟨b, off, rfl, hlt, hr⟩
  · exact .inl h
  · exact .inr ⟨b, off, rfl, Nat.lt_of_lt_of_le hlt hb.size, fun i hi => keep_cell hb (hr i hi)⟩
theorem IntsIn.at {w : World} {O : Option Addr} {n i : Nat} {ds : Nat → Int} (h : IntsIn w O n ds) (hi : i < n) : ∃ b off, O = some ⟨b, off, none⟩ ∧ b < w.heap.size ∧ w.cell? ⟨b, off + i, none⟩ = some (.int .i64 (ds i)) := by
  rcases h with h | ⟨b, off, e, hlt, hh⟩
  · omega
  · exact ⟨b, off, e, hlt, hh i hi⟩
/-- How many requests each stage has. -/
def sizesL (ds : Nat → Int) (n : Nat) : List Nat := (List.range (min n 8)).map fun i => modN 5 (ds i)
theorem sizesL_length (ds : Nat → Int) (n : Nat) : (sizesL ds n).length = min n 8 := by simp [sizesL]
theorem sizesL_succ (ds : Nat → Int) (n : Nat) (h : n < 8) : sizesL ds (n + 1) = sizesL ds n ++ [modN 5 (ds n)] := by
  unfold sizesL
  rw [Nat.min_eq_left (by omega), Nat.min_eq_left (by omega), List.range_succ, List.map_append]; rfl
/-- A row of rows of so many requests. -/
def OwnR (B : Nat) (w : World) (v : Value) (L : List Nat) : Prop := ∃ xs, w.ownsRow B 50 1 v L.length xs ∧ ∀ i, i < L.length → ∃ A c, xs[i]? = some (.slice A (L.getD i 0) c)
theorem OwnR.nil (B : Nat) (w : World) : OwnR B w (.slice none 0 0) [] := ⟨[], ⟨rfl, .inl ⟨rfl, rfl⟩⟩, fun _ hi => absurd hi (Nat.not_lt_zero _)⟩
theorem OwnR.keep {B : Nat} {X y : World} {v : Value} {L : List Nat} (h : OwnR B X v L) (hb : Below X.heap.size X y) : OwnR B y v L := by
  obtain ⟨xs, h1, h2⟩ := h; exact ⟨xs, owns_keep h1 hb, h2⟩
theorem OwnR.slice {B : Nat} {w : World} {v : Value} {L : List Nat} (h : OwnR B w v L) : ∃ A c, v = .slice A L.length c := by
  obtain ⟨xs, h1, _⟩ := h; exact owns_slice h1
/-- Rows of so many requests, to be read. -/
def RowsAt (w : World) (A : Option Addr) (L : List Nat) : Prop :=
  L = [] ∨ ∃ g, A = some ⟨g, 0, none⟩ ∧ g < w.heap.size ∧ ∀ i, i < L.length → ∃ Ai ci, w.cell? ⟨g, i, none⟩ = some (.slice Ai (L.getD i 0) ci)
theorem RowsAt.keep {X y : World} {A : Option Addr} {L : List Nat} (h : RowsAt X A L) (hb : Below X.heap.size X y) : RowsAt y A L := by
  rcases h with h | ⟨g, h1, h2, h3⟩
  · exact .inl h
  · exact .inr ⟨g, h1, Nat.lt_of_lt_of_le h2 hb.size, fun i hi => by obtain ⟨Ai, ci, h⟩ := h3 i hi; exact ⟨Ai, ci, keep_cell hb h⟩⟩
theorem OwnR.rows {B : Nat} {w : World} {A : Option Addr} {n c : Nat} {L : List Nat} (h : OwnR B w (.slice A n c) L) : n = L.length ∧ RowsAt w A L := by
  obtain ⟨xs, ⟨hx, hr⟩, h2⟩ := h
  rcases hr with ⟨hv, hz⟩ | ⟨g, cap, cur, hv, _, hb, hn, _, hs, ht⟩
  · simp only [Value.slice.injEq] at hv
    exact ⟨by omega, .inl (List.length_eq_zero_iff.1 hz)⟩
  · simp only [Value.slice.injEq] at hv
    refine ⟨hv.2.1, .inr ⟨g, hv.1, blk_lt hb, fun i hi => ?_⟩⟩
    obtain ⟨Ai, ci, hj⟩ := h2 i hi
    refine ⟨Ai, ci, ?_⟩
    rw [← ht, List.getElem?_take] at hj
    split at hj
    · simp only [World.cell?, hb]; simpa using hj
    · cases hj
/-- stages' answer. -/
def StagesIs (w : World) (L : List Nat) (e : Ending) (w' : World) : Prop := ∃ v, e = .returned v ∧ OwnR w.heap.size w' v L ∧ Below w.heap.size w w'
set_option maxHeartbeats 2000000 in
theorem stages_any (O : Option Addr) (n c : Nat) (ds : Nat → Int) (hn : n ≤ 9223372036854775807) (w : World) (ha : IntsIn w O n ds) :
    Calls Try.prog 9 #[.slice O n c] w (StagesIs w (sizesL ds n)) := by
  have HA := Lib.hid ha
  clear ha
  go_enter Try.func9, Try.ntmps9
  go_wp2_with fail
  go_loopw [3, 4] (fun s3 s4 wr => ∃ (k : Nat) (v : Value), s4 = .int .i64 k ∧ s3 = v ∧ k ≤ 8 ∧ k ≤ n ∧ OwnR w.heap.size wr v (sizesL ds k) ∧ Below w.heap.size w wr) (fun _ s4 _ => 8 - (intOf s4).toNat)
  case atStart => exact ⟨0, _, rfl, rfl, by omega, by omega, OwnR.nil _ _, Below.refl _ _⟩
  case round =>
    obtain ⟨k, v, rfl, rfl, hk8, hkn, hown, hbel⟩ := hrel
    obtain ⟨Ao, co, rfl⟩ := hown.slice
    have HO := Lib.hid hown
    have HB := Lib.hid hbel
    clear hown hbel
    by_cases hlt : k < n
    · have hd : decide (k < n) = true := decide_eq_true hlt
      by_cases hl8 : k < 8
      · have hd8 : decide ((k : Int) < 8) = true := decide_eq_true (by omega)
        have hd8' : decide (k < 8) = true := decide_eq_true (by omega)
        obtain ⟨b, off, rfl, hbl, hc⟩ := HA.out.at hlt
        have HC := Lib.hid hc
        have hcw := keep_cell HB.out hc
        have HS := Lib.hid (sizesL_succ ds k hl8)
        have HL := Lib.hid (sizesL_length ds k)
        have hm := modN_eq5 (ds k)
        have hm5 := modN_lt 5 (ds k) (by decide)
        have HM5 := Lib.hid hm5
        have HM := Lib.hid hm
        have HLT := Lib.hid hlt
        have HL8 := Lib.hid hl8
        generalize modN 5 (ds k) = m at *
        clear hlt hl8 hm
        go_wp2_with fail
        go_loopw [5, 6] (fun s5 s6 wx => ∃ (j : Nat) (u : Value), s6 = .int .i64 j ∧ s5 = u ∧ j ≤ m ∧ (∃ xs, wx.ownsRow w.heap.size 57 2 u j xs) ∧ OwnR w.heap.size wx (.slice Ao (sizesL ds k).length co) (sizesL ds k) ∧ Below w.heap.size w wx) (fun _ s6 _ => m - (intOf s6).toNat)
        case atStart => exact ⟨0, _, rfl, rfl, by omega, ⟨[], rfl, .inl ⟨rfl, rfl⟩⟩, HO.out, HB.out⟩
        case round =>
          obtain ⟨j, u, rfl, rfl, hjm, ⟨xs, hown⟩, hR, hbel⟩ := hrel
          have HOJ := Lib.hid hown
          have HRJ := Lib.hid hR
          have HBJ := Lib.hid hbel
          have hcj := keep_cell hbel HC.out
          obtain ⟨Au, cu, hu⟩ := owns_slice hown
          subst hu
          clear hown hR hbel hcw
          by_cases hjl : j < m
          · have hdj : decide ((j : Int) < wrap64 ((IntKind.u64.wrap (ds k)).tmod 5)) = true := by rw [HM.out]; exact decide_eq_true (by omega)
            have HJL := Lib.hid hjl
            clear hjl
            obtain ⟨i0, hi, hz0, hz1, hz2⟩ := info_parts info57
            have HI := Lib.hid hi
            have HZ0 := Lib.hid hz0
            have HZ1 := Lib.hid hz1
            have HZ2 := Lib.hid hz2
            clear hi hz0 hz1 hz2
            go_wp2_with (at_builtin; refine wpList_append_own _ rfl (.tmp 28) (.tmp 30) 50 rfl w.heap.size 57 i0 (.agg #[.string "".toUTF8, .string "".toUTF8]) 2 32 Try.underlying50 HI.out HZ0.out HZ1.out HZ2.out rfl (by decide) _ j xs rfl ?hown ⟨wr.heap.size, 0, none⟩ 1 1 [.string ⟨#[97, 64, 104]⟩, .string ⟨#[98, 64, 104]⟩] rfl rfl ?hnews ?h1 ?h63 ?hbytes ?hbase ?_)
            case hown => exact owns_keep HOJ.out (below_new (Below.refl _ _) _)
            case hnews =>
              intro i u hi
              match i, hi with
              | 0, hi => simp at hi; subst hi; rw [addr_add]; exact cell_top0 rfl
              | 1, hi => simp at hi; subst hi; rw [addr_add]; exact cell_top0 rfl
              | i + 2, hi => simp at hi
            case h1 => intro u hu; simp at hu; rcases hu with rfl | rfl <;> rfl
            case h63 => simp only [maxLen]; have := HM5.out; omega
            case hbytes => have := HM5.out; omega
            case hbase => exact (below_new HBJ.out _).size
            intro u2 w2 hown2 hg2 _
            have HB2 := Lib.hid ((below_new HBJ.out _).grown hg2 (below_new HBJ.out _).size (fun g e => (owns_block HOJ.out g e).1))
            obtain ⟨ys, hy1, hy2⟩ := HRJ.out
            have HR2 := Lib.hid (show OwnR w.heap.size w2 (.slice Ao (sizesL ds k).length co) (sizesL ds k) from ⟨ys, owns_apart (owns_keep hy1 (below_new (Below.refl _ _) _)) (owns_keep HOJ.out (below_new (Below.refl _ _) _)) (by decide) hg2, hy2⟩)
            clear hg2 hy1 hy2 hcj
            obtain ⟨A2, c2, rfl⟩ := owns_slice hown2
            have HO2 := Lib.hid hown2
            clear hown2
            go_wp2_with fail
            go_roundw
            case rel => exact ⟨j + 1, _, by go_num, rfl, HJL.out, ⟨_, HO2.out⟩, HR2.out, HB2.out⟩
            case measure => have := HJL.out; simp [intOf]; omega
          · obtain rfl : j = m := by omega
            have hdj : decide ((j : Int) < wrap64 ((IntKind.u64.wrap (ds k)).tmod 5)) = false := by rw [HM.out]; exact decide_eq_false (by omega)
            clear hjl
            obtain ⟨i0, hi, hz0, hz1, hz2⟩ := info_parts info50
            have HI := Lib.hid hi
            have HZ0 := Lib.hid hz0
            have HZ1 := Lib.hid hz1
            have HZ2 := Lib.hid hz2
            clear hi hz0 hz1 hz2
            obtain ⟨ys, hy1, hy2⟩ := HRJ.out
            have HY1 := Lib.hid hy1
            have HY2 := Lib.hid hy2
            clear hy1 hy2
            go_wp2_with (at_builtin; refine wpList_append_own _ rfl (.tmp 32) (.tmp 34) 24 rfl w.heap.size 50 i0 (.slice none 0 0) 1 24 Try.underlying24 HI.out HZ0.out HZ1.out HZ2.out rfl (by decide) _ (sizesL ds k).length ys rfl ?hown ⟨wr.heap.size, 0, none⟩ 1 1 [.slice Au j cu] rfl rfl (cell_one_new _ _ _) ?h1 ?h63 ?hbytes ?hbase ?_)
            case hown => exact owns_keep HY1.out (below_new (Below.refl _ _) _)
            case h1 => intro u hu; simp at hu; subst hu; rfl
            case h63 => simp only [maxLen]; have := HL.out; omega
            case hbytes => have := HL.out; omega
            case hbase => exact (below_new HBJ.out _).size
            intro v2 w2 hown2 hg2 _
            have HB2 := Lib.hid ((below_new HBJ.out _).grown hg2 (below_new HBJ.out _).size (fun g e => (owns_block HY1.out g e).1))
            have HO2 := Lib.hid (show OwnR w.heap.size w2 v2 (sizesL ds (k + 1)) from by
              rw [HS.out]
              refine ⟨ys ++ [.slice Au j cu], by rw [List.length_append]; exact hown2, fun i hi => ?_⟩
              have hyl : ys.length = (sizesL ds k).length := by have := HY1.out.1; omega
              rw [List.length_append, List.length_singleton] at hi
              by_cases hil : i < (sizesL ds k).length
              · obtain ⟨A, c', h⟩ := HY2.out i hil
                refine ⟨A, c', ?_⟩
                rw [List.getElem?_append_left (by omega), h, List.getD_eq_getElem?_getD, List.getD_eq_getElem?_getD, List.getElem?_append_left hil]
              · obtain rfl : i = (sizesL ds k).length := by omega
                refine ⟨Au, cu, ?_⟩
                rw [List.getElem?_append_right (by omega), hyl, List.getD_eq_getElem?_getD, List.getElem?_append_right (by omega)]
                simp)
            clear hg2 hown2 hcj
            obtain ⟨A2, c2, rfl⟩ := HO2.out.slice
            go_wp2_with fail
            go_roundw
            case rel => exact ⟨k + 1, _, by go_num, rfl, by have := HL8.out; omega, HLT.out, HO2.out, HB2.out⟩
            case measure => have := HL8.out; simp [intOf]; omega
      · have hd8 : decide ((k : Int) < 8) = false := decide_eq_false (by omega)
        obtain rfl : k = 8 := by omega
        have HSZ := Lib.hid (show sizesL ds n = sizesL ds 8 by unfold sizesL; rw [Nat.min_eq_right (by omega)]; rfl)
        clear hlt hl8
        go_wp2_with fail
        all_goals
          go_ret
          rw [HSZ.out]
          exact ⟨_, rfl, HO.out, HB.out⟩
    · obtain rfl : k = n := by omega
      have hd : decide (k < k) = false := decide_eq_false (by omega)
      clear hlt
      go_wp2_with fail
      go_ret
      exact ⟨_, rfl, HO.out, HB.out⟩
end Go.Proofs.Ytpogiondpbfjkaa
