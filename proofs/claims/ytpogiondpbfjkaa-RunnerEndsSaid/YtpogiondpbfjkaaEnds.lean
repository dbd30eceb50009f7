/- RunnerEnds walked. -/
import Derived.Test.YtpogiondpbfjkaaEnr
import Derived.Test.YtpogiondpbfjkaaAlone
namespace Go.Proofs.Ytpogiondpbfjkaa
open Go.RowKit Go.Conc
/-- Up to which try the answers to one are lost. -/
def loE (nl : Nat) (dl : Nat → Int) (k : Nat) : Int := if k < nl then (modN 6 (dl k) : Int) else 0
/-- How one is answered. -/
def kindE (nb : Nat) (da : Nat → Int) (k : Nat) : Int := if k < nb ∧ (da k).tmod 2 = 0 then 2 else 1
theorem kindE_or (nb : Nat) (da : Nat → Int) (k : Nat) : kindE nb da k = 1 ∨ kindE nb da k = 2 := by unfold kindE; split <;> simp
theorem einv_head {L : List Nat} {N : Nat} {r : Rn} {X : List (Int × Int)} {T : Nat → Int} {i : Nat} (h : EInv L N r X T i) (hi : i ≤ 1000) :
    ∃ t, X = r.openL t ∧ 1 ≤ t ∧ t ≤ 4 ∧ r.Ok ∧ r.sizes = L ∧ r.l.length = N ∧ (∀ k, k ∈ r.opens → k < N ∧ T k = t - 1) ∧ ∀ lo kind : Nat → Int, (∀ k, kind k = 1 ∨ kind k = 2) →
      if (replyAll lo kind t r r.opens).2 = [] then EInv L N ((replyAll lo kind t r r.opens).1.tick 10).1 ((replyAll lo kind t r r.opens).1.tick 10).2 (fun x => if x ∈ r.opens then t else T x) (i + 1)
      else EInv L N (replyAll lo kind t r r.opens).1 (replyAll lo kind t r r.opens).2 (fun x => if x ∈ r.opens then t else T x) (i + 1) := by
  obtain ⟨h1, h2, h3, h4⟩ := h
  rcases h4 with ⟨t, a, b, c, d⟩ | ⟨a, b, c⟩
  · refine ⟨t, b, a.t1, a.t4, a.ok, h1, h2, fun k hk => ?_, fun lo kind hk => einv_round h1 h2 h3 a c hi d lo kind hk⟩
    have := (opens_mem.1 hk).2.1
    have := a.ok.fin_le
    exact ⟨by omega, (d k (by omega)).2.1 hk⟩
  · have hst := a.stage
    have hop : r.opens = [] := opens_empty.2 fun i x y => by
      have hf : r.fin = r.first := by unfold Rn.fin; rw [if_pos (by omega)]
      omega
    refine ⟨1, by unfold Rn.openL; rw [hop, b]; rfl, by decide, by decide, a.ok, h1, h2, fun k hk => (by rw [hop] at hk; cases hk), fun lo kind hk => ?_⟩
    rw [hop]
    show if ([] : List (Int × Int)) = [] then EInv L N (r.tick 10).1 (r.tick 10).2 (fun x => if x ∈ ([] : List Nat) then 1 else T x) (i + 1) else _
    rw [if_pos rfl]
    obtain ⟨g1, g2, g3⟩ := dz_tick a (by omega)
    rw [g1]
    exact ⟨h1, h2, by show (Rn.later _ 10).now ≤ _; rw [g3]; omega, .inr ⟨g2, rfl, fun x hx h3 => by simpa using c x hx h3⟩⟩
theorem einv_end {L : List Nat} {N : Nat} {r : Rn} {X : List (Int × Int)} {T : Nat → Int} {i : Nat} (h : EInv L N r X T i) (hi : 4 * L.length + 2 ≤ i) : Dz r ∧ X = [] ∧ ∀ x, x < N → (r.rq x).out = 3 → T x = 4 := by
  obtain ⟨h1, h2, h3, h4⟩ := h
  rcases h4 with ⟨t, a, b, c, d⟩ | h
  · have s := a.stage
    have q := a.t4
    rw [h1] at s; omega
  · exact h
theorem einv_start (L : List Nat) (h1 : L.sum ≤ 1000) (h2 : L.length ≤ 1000) : EInv L L.sum (Rn.new L).start.1 (Rn.new L).start.2 (fun _ => 0) 0 := by
  have hs : (Rn.new L).start = Rn.begin { Rn.new L with started := true } := by unfold Rn.start; rw [if_neg (by simp [Rn.new])]
  have hw : wrap64 ((0 : Int) + 10) = 10 := by rw [IntWalk.wrap64_in _ (by omega)]; rfl
  rw [hs]
  obtain ⟨r', g1, g2, g3, g4, g5, g6, g7, g8, g9⟩ := begin_fresh _ { Rn.new L with started := true } rfl (Rn.Ok.new h1 h2).on (fun i _ hl => by
    have : i < L.sum := by simpa [Rn.new] using hl
    exact new_rq L i this)
  have hr : Rn.begin { Rn.new L with started := true } = (r', (beginF (({ Rn.new L with started := true } : Rn).sizes.length - ({ Rn.new L with started := true } : Rn).stage) { Rn.new L with started := true }).2) := by
    rw [← g1]; rfl
  rw [hr]
  show EInv L L.sum r' (beginF _ _).2 _ 0
  have e1 : r'.l.length = L.sum := by rw [g3]; simp [Rn.new]
  have e2 : r'.first = 0 := g7
  have e3 : r'.now = 0 := g6
  refine ⟨g4, e1, by show r'.now ≤ _; rw [e3]; simp, ?_⟩
  rcases g9 with ⟨a1, a2, a3, a4⟩ | ⟨a1, a2, a3, a4⟩
  · have hcur : ∀ i, r'.first ≤ i → i < r'.fin → r'.rq i = ⟨1, 10, 0⟩ := fun i hi hf => by
      rw [a4 i, if_pos ⟨hi, hf⟩]
      show Rq.mk 1 (wrap64 ((0 : Int) + 10)) 0 = _
      rw [hw]
    have hnew : ∀ i, r'.fin ≤ i → i < r'.l.length → r'.rq i = ⟨0, 0, 0⟩ := fun i hi hl => by
      rw [a4 i, if_neg (by omega)]
      exact new_rq L i (by omega)
    have hop : r'.opens = List.range' r'.first (r'.fin - r'.first) := those_full fun i hi hf => by rw [hcur i hi hf]; rfl
    refine .inl ⟨1, ⟨g2, g5, a1, fun e => ?_, fun i hi => by omega, fun i hi hf _ => ?_, hnew, by decide, by decide, by show 0 ≤ r'.now; rw [e3]; decide⟩, ?_, by omega, fun x hx => ⟨fun h3 => ?_, fun _ => rfl, fun _ => rfl⟩⟩
    · rw [hop] at e
      have := congrArg List.length e
      simp at this; omega
    · rw [hcur i hi hf, e3]; exact ⟨rfl, by decide⟩
    · rw [a3]; unfold Rn.stageL Rn.openL; rw [hop]
    · by_cases hf : x < r'.fin
      · rw [hcur x (by omega) hf] at h3; cases h3
      · rw [hnew x (by omega) (by omega)] at h3; cases h3
  · exact .inr ⟨⟨g2, g5, a1, fun i hi => by omega, by show 0 ≤ r'.now; rw [e3]; decide⟩, a3, fun x hx => by omega⟩
theorem openL_length (r : Rn) (t : Int) : (r.openL t).length = r.opens.length := by simp [Rn.openL]
theorem openL_get (r : Rn) (t : Int) (j : Nat) (k : Nat) (h : r.opens[j]? = some k) : (r.openL t)[j]? = some ((k : Int), t) := by simp [Rn.openL, h]
theorem take_next {l : List Nat} {j k : Nat} (hj : l[j]? = some k) : l.take (j + 1) = l.take j ++ [k] := by
  rw [List.take_add_one, hj]; rfl
theorem drop_next {l : List Nat} {j k : Nat} (hj : l[j]? = some k) : l.drop j = k :: l.drop (j + 1) := by
  obtain ⟨hl, hj⟩ := List.getElem?_eq_some_iff.1 hj
  rw [List.drop_eq_getElem_cons hl, hj]
theorem nodup_take {l : List Nat} (h : l.Nodup) {j k : Nat} (hj : l[j]? = some k) : k ∉ l.take j := by
  intro hk
  rw [← List.take_append_drop j l, drop_next hj, List.nodup_append] at h
  exact h.2.2 k hk k (by simp) rfl
theorem reply_length {r : Rn} (h : r.Ok) (no kd : Int) : (r.reply no kd).2.length ≤ 1000 := by
  unfold Rn.reply
  split
  · exact after_length (h.put _ _)
  · simp
theorem reply_sizes (r : Rn) (no kd : Int) : (r.reply no kd).1.sizes = r.sizes := by
  unfold Rn.reply
  split
  · rw [after_sizes]; rfl
  · rfl
theorem replyAll_ok (lo kind : Nat → Int) (t : Int) (r : Rn) (L : List Nat) (h : r.Ok) : (replyAll lo kind t r L).1.Ok := by
  induction L generalizing r with
  | nil => exact h
  | cons k rest ih =>
    unfold replyAll
    split
    · exact ih r h
    · exact ih _ (h.reply _ _)
theorem modN_eq6 (x : Int) : wrap64 ((IntKind.u64.wrap x).tmod 6) = (modN 6 x : Int) := modN_eq 6 x (by decide) (by decide)
theorem tmod2_bd (x : Int) : -9223372036854775808 ≤ x.tmod 2 ∧ x.tmod 2 ≤ 9223372036854775807 := by
  have h1 := Int.tmod_lt_of_pos x (b := 2) (by decide)
  have h2 := Int.lt_tmod_of_pos x (b := 2) (by decide)
  omega
theorem outcome_nat {r : Rn} {k : Nat} (hk : k < r.l.length) : r.outcome k = (r.rq k).out := by
  unfold Rn.outcome
  rw [if_neg (by omega), if_neg (by omega), Int.toNat_natCast]
set_option maxHeartbeats 16000000 in
set_option maxRecDepth 100000 in
theorem ends_any (O : Option Addr) (na ca : Nat) (ds : Nat → Int) (O1 : Option Addr) (nb cb : Nat) (da : Nat → Int) (O2 : Option Addr) (nl cl : Nat) (dl : Nat → Int) (hna : na ≤ 9223372036854775807) (hnb : nb ≤ 9223372036854775807) (hnl : nl ≤ 9223372036854775807) (w : World) (ha : IntsIn w O na ds) (hb : IntsIn w O1 nb da) (hc : IntsIn w O2 nl dl) : Calls Try.prog 6 #[.slice O na ca, .slice O1 nb cb, .slice O2 nl cl] w (TestIs w true) := by
  have HA := Lib.hid ha
  have HAB := Lib.hid hb
  have HAC := Lib.hid hc
  clear ha hb hc
  obtain ⟨hL8, hLs⟩ := sizesL_bd ds na
  go_enter Try.func6, Try.ntmps6
  go_wp2_with fail
  refine (stages_any O na ca ds hna w HA.out).mono ?_
  rintro e w1 ⟨v1, rfl, ho1, hb1⟩
  obtain ⟨A1, c1, rfl⟩ := ho1.slice
  have HB1 := Lib.hid hb1
  have HW1 := Lib.hid ho1.rows.2
  clear ho1 hb1
  generalize sizesL ds na = L at *
  go_wp2_with fail
  refine (new_any A1 c1 L (by omega) (by omega) w1 HW1.out).mono ?_
  rintro e w2 ⟨R, G, A, c, S, sc, rfl, hR, hG, hr2, hb2⟩
  have HR2 := Lib.hid hr2
  have HB2 := Lib.hid hb2
  have HRG := Lib.hid (And.intro hR hG)
  have HOK2 := Lib.hid (Rn.Ok.new (L := L) (by omega) (by omega))
  clear hr2 hb2 hR hG
  go_wp2_with fail
  refine (awake_any w2).mono ?_
  rintro e w6 ⟨rfl, hb⟩
  have HB6 := Lib.hid (below_call HB2.out hb)
  have HR6 := Lib.hid (HR2.out.keep hb)
  have HOK6 := Lib.hid HOK2.out
  clear hb
  go_wp2_with fail
  go_loopw [9, 10] (fun s9 s10 wx => ∃ k : Nat, s10 = .int .i64 k ∧ s9 = .int .i64 ((L.take k).sum : Nat) ∧ k ≤ L.length ∧ wx = w6) (fun _ s10 _ => L.length - (intOf s10).toNat)
  case atStart => exact ⟨0, rfl, rfl, by omega, rfl⟩
  case round =>
    obtain ⟨k, rfl, rfl, hk, hwx⟩ := hrel
    rw [hwx]
    clear hwx
    by_cases hkl : k < L.length
    · have hd : decide (k < L.length) = true := decide_eq_true hkl
      have hkl' : (k : Int) < (L.length : Int) := by omega
      have HKL := Lib.hid hkl
      obtain ⟨g1, hA1, hg1, Ai, ci, hc1⟩ := (HW1.out.keep HB6.out).at hkl
      subst hA1
      have HT := Lib.hid (sum_take_succ L k hkl)
      have HTL := Lib.hid (sum_take_le L (k + 1))
      generalize hm : L.getD k 0 = m at *
      generalize hS : (L.take k).sum = sm at *
      clear hkl hm hS
      have hsm : sm + m ≤ 40 := by have := HT.out; have := HTL.out; omega
      go_wp2_with fail
      go_roundw
      case rel => exact ⟨k + 1, by go_num, by rw [HT.out]; rfl, HKL.out, trivial⟩
      case measure => have := HKL.out; simp [intOf]; omega
    · obtain rfl : k = L.length := by omega
      have hd : decide (L.length < L.length) = false := decide_eq_false (by omega)
      rw [List.take_length]
      obtain ⟨N, hN⟩ : ∃ N, L.sum = N := ⟨_, rfl⟩
      have HN := Lib.hid hN
      rw [hN] at hLs ⊢
      clear hkl hN
      obtain ⟨i0, hi, hz0, hz1, hz2⟩ := info_parts info3
      have HI := Lib.hid hi
      have HZ0 := Lib.hid hz0
      have HZ1 := Lib.hid hz1
      have HZ2 := Lib.hid hz2
      clear hi hz0 hz1 hz2
      go_wp2_with (at_make; refine wpList_make_full _ rfl (.tmp 46) (.tmp 46) 26 rfl w1.heap.size 3 i0 (.int .i64 0) 1 Try.underlying26 HI.out HZ0.out HZ1.out .i64 .i64 (N : Int) (N : Int) N rfl rfl rfl rfl ?b2 ?b3 ?b4 ?_)
      case b2 => rw [HZ2.out]; omega
      case b3 => simp only [maxLen]; omega
      case b4 => exact HB6.out.size
      intro w7 hown7 hg7
      have HB67 := Lib.hid (show Below w6.heap.size w6 w7 from (Below.refl w6.heap.size w6).grown hg7 (Nat.le_refl _) (fun g hg => by cases hg))
      have HB7 := Lib.hid (HB6.out.trans (HB67.out.mono HB6.out.size))
      have HR7 := Lib.hid (HR6.out.keep HB67.out)
      have HAR7 := Lib.hid (Arr.of_made (B := w1.heap.size) (w := w7) (g := w6.heap.size) (n := N) (by rw [Nat.mul_one]; exact hown7))
      have HL9 := Lib.hid HR6.out.low
      have HG9 := Lib.hid (show R ≠ w6.heap.size ∧ G ≠ w6.heap.size ∧ w1.heap.size ≤ w6.heap.size from ⟨by have := HL9.out.1; omega, by have := HL9.out.2.1; omega, HB6.out.size⟩)
      clear hown7 hg7
      generalize w6.heap.size = g9 at *
      go_wp2_with fail
      refine (start_any w7 HR7.out HOK6.out).mono ?_
      intro e w8 hg
      obtain ⟨A8, c8, rfl, hrd, hAn, hr, hok, hm, ho⟩ := gives_slice hg
      have hinv := einv_start L (by have := HN.out; omega) (by omega)
      obtain ⟨r0, X0, hx⟩ : ∃ r X, (Rn.new L).start = (r, X) := ⟨_, _, rfl⟩
      rw [hx] at hr hok ho hinv ⊢
      simp only at hr hok ho hinv ⊢
      rw [HN.out] at hinv
      have HR8 := Lib.hid hr
      have HOK8 := Lib.hid hok
      have HO8 := Lib.hid ho
      have HS8 := Lib.hid (show w7.heap.size ≤ w8.heap.size from hm.size)
      have HR97 := Lib.hid (show R < w7.heap.size ∧ G < w7.heap.size from ⟨by have := HR7.out.low.1; omega, by have := HR7.out.low.2.1; omega⟩)
      have HAR8 := Lib.hid (HAR7.out.moved hm (Ne.symm HG9.out.1) (Ne.symm HG9.out.2.1))
      have HB8 := Lib.hid (HB7.out.trans (hm.below HB7.out.size HRG.out.1 HRG.out.2))
      have HINV := Lib.hid hinv
      clear hg hrd hAn hr hok hm ho hx hinv
      go_wp2_with fail
      go_loopw [12, 13] (fun s12 s13 wr => ∃ (r : Rn) (i : Nat) (X : List (Int × Int)) (Ax : Option Addr) (cx : Nat) (T : Nat → Int), s12 = .slice Ax X.length cx ∧ s13 = .int .i64 i ∧ i ≤ 100 ∧ w7.heap.size ≤ wr.heap.size ∧ OwnS w7.heap.size wr (.slice Ax X.length cx) X ∧ RunAt wr R G A c S sc r ∧ r.Ok ∧ EInv L N r X T i ∧ Arr wr g9 N T ∧ Below w1.heap.size w1 wr) (fun _ s13 _ => 100 - (intOf s13).toNat)
      case atStart => exact ⟨r0, 0, X0, A8, c8, _, rfl, rfl, by omega, HS8.out, HO8.out, HR8.out, HOK8.out, HINV.out, HAR8.out, HB8.out⟩
      case round =>
        obtain ⟨r, i, X, Ax, cx, T, rfl, rfl, hi100, hws, hown, hrun, hok, hinv, harr, hbel⟩ := hrel
        have HWS := Lib.hid hws
        have HO := Lib.hid hown
        have HR := Lib.hid hrun
        have HOK := Lib.hid hok
        have HAR := Lib.hid harr
        have HB := Lib.hid hbel
        have HE := Lib.hid hinv
        clear hws hown hrun hok harr hbel hinv
        by_cases hir : i < 4 * L.length + 2
        · have hdi : decide ((i : Int) < 4 * (L.length : Int) + 2) = true := decide_eq_true (by omega)
          have hdi' : decide (i < 4 * L.length + 2) = true := decide_eq_true hir
          have HIR := Lib.hid hir
          obtain ⟨t, rfl, ht1, ht4, _, hrs, hrn, hTk, hround⟩ := einv_head HE.out (by omega)
          have HTK := Lib.hid hTk
          have HRO := Lib.hid hround
          have HRS := Lib.hid hrs
          have HRN := Lib.hid hrn
          clear hTk hround hir hrs hrn
          go_wp2_with fail
          have hOn : r.opens.length ≤ 40 := by have h1 := opens_length HOK.out; have h2 := those_le r (fun q => q.out == 0) r.first; have h3 := HOK.out.fin_le; have h4 := HRN.out; unfold Rn.opens; omega
          have HXL := Lib.hid (openL_length r t)
          have hx40 : (r.openL t).length ≤ 40 := by have := openL_length r t; omega
          go_loopw [14] (fun s14 wx => ∃ j : Nat, s14 = .int .i64 j ∧ j ≤ (r.openL t).length ∧ Arr wx g9 N (fun x => if x ∈ r.opens.take j then t else T x) ∧ RunAt wx R G A c S sc r ∧ w7.heap.size ≤ wx.heap.size ∧ OwnS w7.heap.size wx (.slice Ax (r.openL t).length cx) (r.openL t) ∧ Below w1.heap.size w1 wx) (fun s14 _ => (r.openL t).length - (intOf s14).toNat)
          case atStart => exact ⟨0, rfl, by omega, HAR.out.eq (fun x _ => by simp), HR.out, HWS.out, HO.out, HB.out⟩
          case round =>
            obtain ⟨j, rfl, hj, harr, hrun, hws, hown, hbel⟩ := hrel
            have HWj := Lib.hid hws
            have HARj := Lib.hid harr
            have HRj := Lib.hid hrun
            have HOj := Lib.hid hown
            have HBj := Lib.hid hbel
            clear hws harr hrun hown hbel
            have hxl := HXL.out
            by_cases hjl : j < (r.openL t).length
            · have hdj : decide (j < (r.openL t).length) = true := decide_eq_true hjl
              have hjl' : (j : Int) < ((r.openL t).length : Int) := by omega
              have HJL := Lib.hid hjl
              obtain ⟨k, hk⟩ : ∃ k, r.opens[j]? = some k := ⟨_, List.getElem?_eq_getElem (by omega)⟩
              have HK := Lib.hid hk
              have hko : k ∈ r.opens := List.mem_of_getElem? hk
              obtain ⟨hkN, hTk⟩ := HTK.out k hko
              obtain ⟨A0, c0, hsv, _, _, hrd⟩ := HOj.out.slice
              simp only [Value.slice.injEq] at hsv
              obtain ⟨rfl, _, rfl⟩ := hsv
              obtain ⟨g, hA, hgl, q0, q1⟩ := hrd.at (openL_get r t j k hk)
              subst hA
              simp only at q0 q1
              have hcell := HARj.out.cell hkN
              rw [if_neg (nodup_take (opens_nodup r) hk), hTk] at hcell
              have hmelt := HARj.out.melt
              have HKN := Lib.hid hkN
              have hkN' : (k : Int) < (N : Int) := by omega
              have hd0 : decide ((k : Int) < 0) = false := decide_eq_false (by omega)
              have hdN : decide (N ≤ k) = false := decide_eq_false (by omega)
              have hdN' : decide ((N : Int) ≤ (k : Int)) = false := decide_eq_false (by omega)
              have hinc : wrap64 (t - 1 + 1) = t := by rw [IntWalk.wrap64_in _ (by omega)]; omega
              have hne : (t != t) = false := bne_self_eq_false t
              have hd4 : decide (4 < t) = false := decide_eq_false (by omega)
              clear hjl hk hko hTk hrd hxl
              go_wp2_with (go_quiet (fail))
              have HARk := Lib.hid (show Arr ((wr.drewN nq).setCell ⟨g9, k, none⟩ (.int .i64 t)) g9 N (fun x => if x ∈ r.opens.take (j + 1) then t else T x) from (HARj.out.drewN.set k HKN.out t).eq (fun x _ => by
                  rw [take_next HK.out]
                  by_cases hx : x = k
                  · subst hx; simp
                  · simp [hx]))
              have HRk := Lib.hid (show RunAt ((wr.drewN nq).setCell ⟨g9, k, none⟩ (.int .i64 t)) R G A c S sc r from HRj.out.drewN.below (HL9.out.eq HRS.out) (Below.setCell (Below.refl g9 _) (Nat.le_refl _) (.int .i64 t)))
              have HOk := Lib.hid (show OwnS w7.heap.size ((wr.drewN nq).setCell ⟨g9, k, none⟩ (.int .i64 t)) _ _ from HOj.out.drewN.arr HARj.out.drewN)
              have HBk := Lib.hid (show Below w1.heap.size w1 ((wr.drewN nq).setCell ⟨g9, k, none⟩ (.int .i64 t)) from Below.setCell (below_drewNs HBj.out) HG9.out.2.2 (.int .i64 t))
              go_roundw
              case rel => exact ⟨j + 1, by go_num, HJL.out, HARk.out, HRk.out, by simpa using HWj.out, HOk.out, HBk.out⟩
              case measure => have := HJL.out; have := HXL.out; simp [intOf]; omega
            · obtain rfl : j = (r.openL t).length := by omega
              have hdj : decide ((r.openL t).length < (r.openL t).length) = false := decide_eq_false (by omega)
              clear hjl hxl
              have HARe := Lib.hid (show Arr wr g9 N (fun x => if x ∈ r.opens then t else T x) from HARj.out.eq (fun x _ => by rw [HXL.out, List.take_length]))
              obtain ⟨w4, rfl⟩ : ∃ w4, w4 = wr := ⟨_, rfl⟩
              have HR4 := Lib.hid (show R < w4.heap.size ∧ G < w4.heap.size from ⟨HRj.out.low.1, HRj.out.low.2.1⟩)
              go_wp2_with fail
              go_loopw [16, 17] (fun s16 s17 wx => ∃ (j : Nat) (rj : Rn) (M : List (Int × Int)) (Am : Option Addr) (cm : Nat), s17 = .int .i64 j ∧ s16 = .slice Am M.length cm ∧ j ≤ (r.openL t).length ∧ M.length ≤ 1000 * j ∧ OwnS w4.heap.size wx (.slice Am M.length cm) M ∧ RunAt wx R G A c S sc rj ∧ rj.Ok ∧ rj.sizes = L ∧ (replyAll (loE nl dl) (kindE nb da) t rj (r.opens.drop j)).1 = (replyAll (loE nl dl) (kindE nb da) t r r.opens).1 ∧ M ++ (replyAll (loE nl dl) (kindE nb da) t rj (r.opens.drop j)).2 = (replyAll (loE nl dl) (kindE nb da) t r r.opens).2 ∧ Moved w4 wx R G) (fun _ s17 _ => (r.openL t).length - (intOf s17).toNat)
              case atStart => exact ⟨0, r, [], none, 0, rfl, rfl, by omega, by simp, OwnS.nil _ _, HRj.out, HOK.out, HRS.out, rfl, rfl, Moved.same _ _ _⟩
              case round =>
                obtain ⟨j, rj, M, Am, cm, rfl, rfl, hj, hMl, hown, hrun, hok, hsz, hy1, hy2, hmv⟩ := hrel
                have HM := Lib.hid hown
                have HRr := Lib.hid hrun
                have HOKr := Lib.hid hok
                have HSZr := Lib.hid hsz
                have HY1 := Lib.hid hy1
                have HY2 := Lib.hid hy2
                have HMV := Lib.hid hmv
                have HML := Lib.hid hMl
                have HBr := Lib.hid (HBj.out.trans (hmv.below HBj.out.size HRG.out.1 HRG.out.2))
                have HARr := Lib.hid (HARe.out.moved hmv (Ne.symm HG9.out.1) (Ne.symm HG9.out.2.1))
                have HOr := Lib.hid (HOj.out.low HR97.out.1 HR97.out.2 hmv)
                clear hown hrun hok hsz hy1 hy2 hmv hMl
                have hxl := HXL.out
                by_cases hjl : j < (r.openL t).length
                · have hdj : decide (j < (r.openL t).length) = true := decide_eq_true hjl
                  have hjl' : (j : Int) < ((r.openL t).length : Int) := by omega
                  have HJL := Lib.hid hjl
                  obtain ⟨k, hk⟩ : ∃ k, r.opens[j]? = some k := ⟨_, List.getElem?_eq_getElem (by omega)⟩
                  have HK := Lib.hid hk
                  have hko : k ∈ r.opens := List.mem_of_getElem? hk
                  obtain ⟨hkN, hTk⟩ := HTK.out k hko
                  obtain ⟨A0, c0, hsv, _, _, hrd⟩ := HOr.out.slice
                  simp only [Value.slice.injEq] at hsv
                  obtain ⟨rfl, _, rfl⟩ := hsv
                  obtain ⟨g, hA, hgl, q0, q1⟩ := hrd.at (openL_get r t j k hk)
                  subst hA
                  simp only at q0 q1
                  have hcell := HARr.out.cell hkN
                  rw [if_pos hko] at hcell
                  have hmelt := HARr.out.melt
                  have hkN' : (k : Int) < (N : Int) := by omega
                  have HDR := Lib.hid (drop_next hk)
                  rw [HDR.out] at HY1 HY2
                  clear hjl hk hko hTk hrd hxl q1
                  by_cases hkl : k < nl
                  · have hdl : decide (k < nl) = true := decide_eq_true hkl
                    have hkl' : (k : Int) < (nl : Int) := by omega
                    obtain ⟨b2, off2, hO2, hbl2, hc2⟩ := HAC.out.at hkl
                    subst hO2
                    have hcw2 := keep_cell (HB1.out.trans (HBr.out.mono HB1.out.size)) hc2
                    have hm6 := modN_eq6 (dl k)
                    by_cases hlo : t ≤ (modN 6 (dl k) : Int)
                    · have HLO := Lib.hid (show t ≤ loE nl dl k from by unfold loE; rw [if_pos hkl]; exact hlo)
                      have hdo : decide (t ≤ wrap64 ((IntKind.u64.wrap (dl k)).tmod 6)) = true := by rw [hm6]; exact decide_eq_true hlo
                      clear hm6 hlo hc2 hkl
                      have HRA := Lib.hid (show replyAll (loE nl dl) (kindE nb da) t rj (k :: r.opens.drop (j + 1)) = replyAll (loE nl dl) (kindE nb da) t rj (r.opens.drop (j + 1)) by rw [replyAll, if_pos HLO.out])
                      rw [HRA.out] at HY1 HY2
                      go_wp2_with (go_quiet (fail))
                      go_roundw
                      case rel => exact ⟨j + 1, rj, M, Am, cm, by go_num, rfl, HJL.out, by have := HML.out; omega, HM.out.drewN, HRr.out.drewN, HOKr.out, HSZr.out, HY1.out, HY2.out, HMV.out.drewN⟩
                      case measure => have := HJL.out; have := HXL.out; simp [intOf]; omega
                    · have HLO := Lib.hid (show ¬ t ≤ loE nl dl k from by unfold loE; rw [if_pos hkl]; exact hlo)
                      have hdo : decide (t ≤ wrap64 ((IntKind.u64.wrap (dl k)).tmod 6)) = false := by rw [hm6]; exact decide_eq_false hlo
                      clear hm6 hlo hc2 hkl
                      by_cases hkb : k < nb
                      · have hdb : decide (k < nb) = true := decide_eq_true hkb
                        have hkb' : (k : Int) < (nb : Int) := by omega
                        obtain ⟨b1, off1, hO1, hbl1, hc1⟩ := HAB.out.at hkb
                        subst hO1
                        have hcw1 := keep_cell (HB1.out.trans (HBr.out.mono HB1.out.size)) hc1
                        clear hc1
                        by_cases hev : (da k).tmod 2 = 0
                        · have HKD := Lib.hid (show kindE nb da k = 2 from by unfold kindE; rw [if_pos ⟨hkb, hev⟩])
                          have hdv : ((da k).tmod 2 == 0) = true := beq_iff_eq.2 hev
                          have hdw : (wrap64 ((da k).tmod 2) == 0) = true := by rw [hev, IntWalk.wrap64_in _ (by omega)]; rfl
                          clear hev hkb
                          have HRA := Lib.hid (show replyAll (loE nl dl) (kindE nb da) t rj (k :: r.opens.drop (j + 1)) = ((replyAll (loE nl dl) (kindE nb da) t (rj.reply k 2).1 (r.opens.drop (j + 1))).1, (rj.reply k 2).2 ++ (replyAll (loE nl dl) (kindE nb da) t (rj.reply k 2).1 (r.opens.drop (j + 1))).2) by rw [replyAll, if_neg HLO.out, HKD.out])
                          rw [HRA.out] at HY1 HY2
                          go_wp2_with (go_quiet (fail))
                          have HRq := Lib.hid (HRr.out.drewN (n := nq))
                          have HMq := Lib.hid (HM.out.drewN (n := nq))
                          have HMVq := Lib.hid (HMV.out.drewN (m := nq))
                          generalize wr.drewN nq = wq at *
                          refine (reply_any wq k 2 HRq.out HOKr.out).mono ?_
                          intro e w5 hg
                          have hsz5 := reply_sizes rj k 2
                          have hln5 := reply_length HOKr.out k 2
                          obtain ⟨r5, M5, hx⟩ : ∃ r5 M5, rj.reply k 2 = (r5, M5) := ⟨_, _, rfl⟩
                          rw [hx] at hg hsz5 hln5 HY1 HY2
                          simp only at hsz5 hln5 HY1 HY2
                          obtain ⟨A5, c5, rfl, hrd, hAn, hr, hok, hm, ho⟩ := gives_slice hg
                          simp only at hr hok ho hrd ⊢
                          have HR5 := Lib.hid hr
                          have HOK5 := Lib.hid hok
                          have HMV5 := Lib.hid (HMVq.out.trans hm)
                          have HM5 := Lib.hid (HMq.out.low HR4.out.1 HR4.out.2 hm)
                          have HRD5 := Lib.hid hrd
                          have HAN5 := Lib.hid hAn
                          have HSZ5 := Lib.hid hsz5
                          have HLN5 := Lib.hid hln5
                          clear hg hrd hAn hr hok hm ho hx hsz5 hln5 q0 hcell hmelt
                          go_wp2_with (at_builtin; refine appendS rfl (.tmp 146) (.tmp 151) rfl w4.heap.size _ M rfl ?hown A5 M5.length c5 M5 rfl rfl ?hA HAN5.out ?hmax ?hbase ?_)
                          case hown => exact HM5.out
                          case hA => exact HRD5.out
                          case hmax => have := HML.out; have := HLN5.out; have := HJL.out; have := HXL.out; omega
                          case hbase => exact HMV5.out.size
                          intro A6 c6 w6 hown6 hb6 hg6
                          have HB6 := Lib.hid (hb6 w5 (Below.refl _ _))
                          have HR6 := Lib.hid (HR5.out.below (HRj.out.low.eq (show r5.sizes = r.sizes from by rw [HSZ5.out, HSZr.out, HRS.out])) HB6.out)
                          clear hb6 hg6
                          go_wp2_with fail
                          go_roundw
                          case rel => exact ⟨j + 1, r5, M ++ M5, A6, c6, by go_num, by rw [List.length_append], HJL.out, by have := HML.out; have := HLN5.out; simp; omega, by rw [List.length_append]; exact hown6.out, HR6.out, HOK5.out, by rw [HSZ5.out]; exact HSZr.out, HY1.out, by have := HY2.out; simpa using this, HMV5.out.then HB6.out⟩
                          case measure => have := HJL.out; have := HXL.out; simp [intOf]; omega
                        · have HKD := Lib.hid (show kindE nb da k = 1 from by unfold kindE; rw [if_neg (fun hh => hev hh.2)])
                          have hdv : ((da k).tmod 2 == 0) = false := beq_eq_false_iff_ne.2 hev
                          have hdw : (wrap64 ((da k).tmod 2) == 0) = false := by rw [IntWalk.wrap64_in _ (tmod2_bd _)]; exact hdv
                          clear hev hkb
                          have HRA := Lib.hid (show replyAll (loE nl dl) (kindE nb da) t rj (k :: r.opens.drop (j + 1)) = ((replyAll (loE nl dl) (kindE nb da) t (rj.reply k 1).1 (r.opens.drop (j + 1))).1, (rj.reply k 1).2 ++ (replyAll (loE nl dl) (kindE nb da) t (rj.reply k 1).1 (r.opens.drop (j + 1))).2) by rw [replyAll, if_neg HLO.out, HKD.out])
                          rw [HRA.out] at HY1 HY2
                          go_wp2_with (go_quiet (fail))
                          have HRq := Lib.hid (HRr.out.drewN (n := nq))
                          have HMq := Lib.hid (HM.out.drewN (n := nq))
                          have HMVq := Lib.hid (HMV.out.drewN (m := nq))
                          generalize wr.drewN nq = wq at *
                          refine (reply_any wq k 1 HRq.out HOKr.out).mono ?_
                          intro e w5 hg
                          have hsz5 := reply_sizes rj k 1
                          have hln5 := reply_length HOKr.out k 1
                          obtain ⟨r5, M5, hx⟩ : ∃ r5 M5, rj.reply k 1 = (r5, M5) := ⟨_, _, rfl⟩
                          rw [hx] at hg hsz5 hln5 HY1 HY2
                          simp only at hsz5 hln5 HY1 HY2
                          obtain ⟨A5, c5, rfl, hrd, hAn, hr, hok, hm, ho⟩ := gives_slice hg
                          simp only at hr hok ho hrd ⊢
                          have HR5 := Lib.hid hr
                          have HOK5 := Lib.hid hok
                          have HMV5 := Lib.hid (HMVq.out.trans hm)
                          have HM5 := Lib.hid (HMq.out.low HR4.out.1 HR4.out.2 hm)
                          have HRD5 := Lib.hid hrd
                          have HAN5 := Lib.hid hAn
                          have HSZ5 := Lib.hid hsz5
                          have HLN5 := Lib.hid hln5
                          clear hg hrd hAn hr hok hm ho hx hsz5 hln5 q0 hcell hmelt
                          go_wp2_with (at_builtin; refine appendS rfl (.tmp 146) (.tmp 151) rfl w4.heap.size _ M rfl ?hown A5 M5.length c5 M5 rfl rfl ?hA HAN5.out ?hmax ?hbase ?_)
                          case hown => exact HM5.out
                          case hA => exact HRD5.out
                          case hmax => have := HML.out; have := HLN5.out; have := HJL.out; have := HXL.out; omega
                          case hbase => exact HMV5.out.size
                          intro A6 c6 w6 hown6 hb6 hg6
                          have HB6 := Lib.hid (hb6 w5 (Below.refl _ _))
                          have HR6 := Lib.hid (HR5.out.below (HRj.out.low.eq (show r5.sizes = r.sizes from by rw [HSZ5.out, HSZr.out, HRS.out])) HB6.out)
                          clear hb6 hg6
                          go_wp2_with fail
                          go_roundw
                          case rel => exact ⟨j + 1, r5, M ++ M5, A6, c6, by go_num, by rw [List.length_append], HJL.out, by have := HML.out; have := HLN5.out; simp; omega, by rw [List.length_append]; exact hown6.out, HR6.out, HOK5.out, by rw [HSZ5.out]; exact HSZr.out, HY1.out, by have := HY2.out; simpa using this, HMV5.out.then HB6.out⟩
                          case measure => have := HJL.out; have := HXL.out; simp [intOf]; omega
                      · have HKD := Lib.hid (show kindE nb da k = 1 from by unfold kindE; rw [if_neg (fun hh => hkb hh.1)])
                        have hdb : decide (k < nb) = false := decide_eq_false hkb
                        clear hkb
                        have HRA := Lib.hid (show replyAll (loE nl dl) (kindE nb da) t rj (k :: r.opens.drop (j + 1)) = ((replyAll (loE nl dl) (kindE nb da) t (rj.reply k 1).1 (r.opens.drop (j + 1))).1, (rj.reply k 1).2 ++ (replyAll (loE nl dl) (kindE nb da) t (rj.reply k 1).1 (r.opens.drop (j + 1))).2) by rw [replyAll, if_neg HLO.out, HKD.out])
                        rw [HRA.out] at HY1 HY2
                        go_wp2_with (go_quiet (fail))
                        have HRq := Lib.hid (HRr.out.drewN (n := nq))
                        have HMq := Lib.hid (HM.out.drewN (n := nq))
                        have HMVq := Lib.hid (HMV.out.drewN (m := nq))
                        generalize wr.drewN nq = wq at *
                        refine (reply_any wq k 1 HRq.out HOKr.out).mono ?_
                        intro e w5 hg
                        have hsz5 := reply_sizes rj k 1
                        have hln5 := reply_length HOKr.out k 1
                        obtain ⟨r5, M5, hx⟩ : ∃ r5 M5, rj.reply k 1 = (r5, M5) := ⟨_, _, rfl⟩
                        rw [hx] at hg hsz5 hln5 HY1 HY2
                        simp only at hsz5 hln5 HY1 HY2
                        obtain ⟨A5, c5, rfl, hrd, hAn, hr, hok, hm, ho⟩ := gives_slice hg
                        simp only at hr hok ho hrd ⊢
                        have HR5 := Lib.hid hr
                        have HOK5 := Lib.hid hok
                        have HMV5 := Lib.hid (HMVq.out.trans hm)
                        have HM5 := Lib.hid (HMq.out.low HR4.out.1 HR4.out.2 hm)
                        have HRD5 := Lib.hid hrd
                        have HAN5 := Lib.hid hAn
                        have HSZ5 := Lib.hid hsz5
                        have HLN5 := Lib.hid hln5
                        clear hg hrd hAn hr hok hm ho hx hsz5 hln5 q0 hcell hmelt
                        go_wp2_with (at_builtin; refine appendS rfl (.tmp 146) (.tmp 151) rfl w4.heap.size _ M rfl ?hown A5 M5.length c5 M5 rfl rfl ?hA HAN5.out ?hmax ?hbase ?_)
                        case hown => exact HM5.out
                        case hA => exact HRD5.out
                        case hmax => have := HML.out; have := HLN5.out; have := HJL.out; have := HXL.out; omega
                        case hbase => exact HMV5.out.size
                        intro A6 c6 w6 hown6 hb6 hg6
                        have HB6 := Lib.hid (hb6 w5 (Below.refl _ _))
                        have HR6 := Lib.hid (HR5.out.below (HRj.out.low.eq (show r5.sizes = r.sizes from by rw [HSZ5.out, HSZr.out, HRS.out])) HB6.out)
                        clear hb6 hg6
                        go_wp2_with fail
                        go_roundw
                        case rel => exact ⟨j + 1, r5, M ++ M5, A6, c6, by go_num, by rw [List.length_append], HJL.out, by have := HML.out; have := HLN5.out; simp; omega, by rw [List.length_append]; exact hown6.out, HR6.out, HOK5.out, by rw [HSZ5.out]; exact HSZr.out, HY1.out, by have := HY2.out; simpa using this, HMV5.out.then HB6.out⟩
                        case measure => have := HJL.out; have := HXL.out; simp [intOf]; omega
                  · have HLO := Lib.hid (show ¬ t ≤ loE nl dl k from by unfold loE; rw [if_neg hkl]; omega)
                    have hdl : decide (k < nl) = false := decide_eq_false hkl
                    clear hkl
                    by_cases hkb : k < nb
                    · have hdb : decide (k < nb) = true := decide_eq_true hkb
                      have hkb' : (k : Int) < (nb : Int) := by omega
                      obtain ⟨b1, off1, hO1, hbl1, hc1⟩ := HAB.out.at hkb
                      subst hO1
                      have hcw1 := keep_cell (HB1.out.trans (HBr.out.mono HB1.out.size)) hc1
                      clear hc1
                      by_cases hev : (da k).tmod 2 = 0
                      · have HKD := Lib.hid (show kindE nb da k = 2 from by unfold kindE; rw [if_pos ⟨hkb, hev⟩])
                        have hdv : ((da k).tmod 2 == 0) = true := beq_iff_eq.2 hev
                        have hdw : (wrap64 ((da k).tmod 2) == 0) = true := by rw [hev, IntWalk.wrap64_in _ (by omega)]; rfl
                        clear hev hkb
                        have HRA := Lib.hid (show replyAll (loE nl dl) (kindE nb da) t rj (k :: r.opens.drop (j + 1)) = ((replyAll (loE nl dl) (kindE nb da) t (rj.reply k 2).1 (r.opens.drop (j + 1))).1, (rj.reply k 2).2 ++ (replyAll (loE nl dl) (kindE nb da) t (rj.reply k 2).1 (r.opens.drop (j + 1))).2) by rw [replyAll, if_neg HLO.out, HKD.out])
                        rw [HRA.out] at HY1 HY2
                        go_wp2_with (go_quiet (fail))
                        have HRq := Lib.hid (HRr.out.drewN (n := nq))
                        have HMq := Lib.hid (HM.out.drewN (n := nq))
                        have HMVq := Lib.hid (HMV.out.drewN (m := nq))
                        generalize wr.drewN nq = wq at *
                        refine (reply_any wq k 2 HRq.out HOKr.out).mono ?_
                        intro e w5 hg
                        have hsz5 := reply_sizes rj k 2
                        have hln5 := reply_length HOKr.out k 2
                        obtain ⟨r5, M5, hx⟩ : ∃ r5 M5, rj.reply k 2 = (r5, M5) := ⟨_, _, rfl⟩
                        rw [hx] at hg hsz5 hln5 HY1 HY2
                        simp only at hsz5 hln5 HY1 HY2
                        obtain ⟨A5, c5, rfl, hrd, hAn, hr, hok, hm, ho⟩ := gives_slice hg
                        simp only at hr hok ho hrd ⊢
                        have HR5 := Lib.hid hr
                        have HOK5 := Lib.hid hok
                        have HMV5 := Lib.hid (HMVq.out.trans hm)
                        have HM5 := Lib.hid (HMq.out.low HR4.out.1 HR4.out.2 hm)
                        have HRD5 := Lib.hid hrd
                        have HAN5 := Lib.hid hAn
                        have HSZ5 := Lib.hid hsz5
                        have HLN5 := Lib.hid hln5
                        clear hg hrd hAn hr hok hm ho hx hsz5 hln5 q0 hcell hmelt
                        go_wp2_with (at_builtin; refine appendS rfl (.tmp 146) (.tmp 151) rfl w4.heap.size _ M rfl ?hown A5 M5.length c5 M5 rfl rfl ?hA HAN5.out ?hmax ?hbase ?_)
                        case hown => exact HM5.out
                        case hA => exact HRD5.out
                        case hmax => have := HML.out; have := HLN5.out; have := HJL.out; have := HXL.out; omega
                        case hbase => exact HMV5.out.size
                        intro A6 c6 w6 hown6 hb6 hg6
                        have HB6 := Lib.hid (hb6 w5 (Below.refl _ _))
                        have HR6 := Lib.hid (HR5.out.below (HRj.out.low.eq (show r5.sizes = r.sizes from by rw [HSZ5.out, HSZr.out, HRS.out])) HB6.out)
                        clear hb6 hg6
                        go_wp2_with fail
                        go_roundw
                        case rel => exact ⟨j + 1, r5, M ++ M5, A6, c6, by go_num, by rw [List.length_append], HJL.out, by have := HML.out; have := HLN5.out; simp; omega, by rw [List.length_append]; exact hown6.out, HR6.out, HOK5.out, by rw [HSZ5.out]; exact HSZr.out, HY1.out, by have := HY2.out; simpa using this, HMV5.out.then HB6.out⟩
                        case measure => have := HJL.out; have := HXL.out; simp [intOf]; omega
                      · have HKD := Lib.hid (show kindE nb da k = 1 from by unfold kindE; rw [if_neg (fun hh => hev hh.2)])
                        have hdv : ((da k).tmod 2 == 0) = false := beq_eq_false_iff_ne.2 hev
                        have hdw : (wrap64 ((da k).tmod 2) == 0) = false := by rw [IntWalk.wrap64_in _ (tmod2_bd _)]; exact hdv
                        clear hev hkb
                        have HRA := Lib.hid (show replyAll (loE nl dl) (kindE nb da) t rj (k :: r.opens.drop (j + 1)) = ((replyAll (loE nl dl) (kindE nb da) t (rj.reply k 1).1 (r.opens.drop (j + 1))).1, (rj.reply k 1).2 ++ (replyAll (loE nl dl) (kindE nb da) t (rj.reply k 1).1 (r.opens.drop (j + 1))).2) by rw [replyAll, if_neg HLO.out, HKD.out])
                        rw [HRA.out] at HY1 HY2
                        go_wp2_with (go_quiet (fail))
                        have HRq := Lib.hid (HRr.out.drewN (n := nq))
                        have HMq := Lib.hid (HM.out.drewN (n := nq))
                        have HMVq := Lib.hid (HMV.out.drewN (m := nq))
                        generalize wr.drewN nq = wq at *
                        refine (reply_any wq k 1 HRq.out HOKr.out).mono ?_
                        intro e w5 hg
                        have hsz5 := reply_sizes rj k 1
                        have hln5 := reply_length HOKr.out k 1
                        obtain ⟨r5, M5, hx⟩ : ∃ r5 M5, rj.reply k 1 = (r5, M5) := ⟨_, _, rfl⟩
                        rw [hx] at hg hsz5 hln5 HY1 HY2
                        simp only at hsz5 hln5 HY1 HY2
                        obtain ⟨A5, c5, rfl, hrd, hAn, hr, hok, hm, ho⟩ := gives_slice hg
                        simp only at hr hok ho hrd ⊢
                        have HR5 := Lib.hid hr
                        have HOK5 := Lib.hid hok
                        have HMV5 := Lib.hid (HMVq.out.trans hm)
                        have HM5 := Lib.hid (HMq.out.low HR4.out.1 HR4.out.2 hm)
                        have HRD5 := Lib.hid hrd
                        have HAN5 := Lib.hid hAn
                        have HSZ5 := Lib.hid hsz5
                        have HLN5 := Lib.hid hln5
                        clear hg hrd hAn hr hok hm ho hx hsz5 hln5 q0 hcell hmelt
                        go_wp2_with (at_builtin; refine appendS rfl (.tmp 146) (.tmp 151) rfl w4.heap.size _ M rfl ?hown A5 M5.length c5 M5 rfl rfl ?hA HAN5.out ?hmax ?hbase ?_)
                        case hown => exact HM5.out
                        case hA => exact HRD5.out
                        case hmax => have := HML.out; have := HLN5.out; have := HJL.out; have := HXL.out; omega
                        case hbase => exact HMV5.out.size
                        intro A6 c6 w6 hown6 hb6 hg6
                        have HB6 := Lib.hid (hb6 w5 (Below.refl _ _))
                        have HR6 := Lib.hid (HR5.out.below (HRj.out.low.eq (show r5.sizes = r.sizes from by rw [HSZ5.out, HSZr.out, HRS.out])) HB6.out)
                        clear hb6 hg6
                        go_wp2_with fail
                        go_roundw
                        case rel => exact ⟨j + 1, r5, M ++ M5, A6, c6, by go_num, by rw [List.length_append], HJL.out, by have := HML.out; have := HLN5.out; simp; omega, by rw [List.length_append]; exact hown6.out, HR6.out, HOK5.out, by rw [HSZ5.out]; exact HSZr.out, HY1.out, by have := HY2.out; simpa using this, HMV5.out.then HB6.out⟩
                        case measure => have := HJL.out; have := HXL.out; simp [intOf]; omega
                    · have HKD := Lib.hid (show kindE nb da k = 1 from by unfold kindE; rw [if_neg (fun hh => hkb hh.1)])
                      have hdb : decide (k < nb) = false := decide_eq_false hkb
                      clear hkb
                      have HRA := Lib.hid (show replyAll (loE nl dl) (kindE nb da) t rj (k :: r.opens.drop (j + 1)) = ((replyAll (loE nl dl) (kindE nb da) t (rj.reply k 1).1 (r.opens.drop (j + 1))).1, (rj.reply k 1).2 ++ (replyAll (loE nl dl) (kindE nb da) t (rj.reply k 1).1 (r.opens.drop (j + 1))).2) by rw [replyAll, if_neg HLO.out, HKD.out])
                      rw [HRA.out] at HY1 HY2
                      go_wp2_with (go_quiet (fail))
                      have HRq := Lib.hid (HRr.out.drewN (n := nq))
                      have HMq := Lib.hid (HM.out.drewN (n := nq))
                      have HMVq := Lib.hid (HMV.out.drewN (m := nq))
                      generalize wr.drewN nq = wq at *
                      refine (reply_any wq k 1 HRq.out HOKr.out).mono ?_
                      intro e w5 hg
                      have hsz5 := reply_sizes rj k 1
                      have hln5 := reply_length HOKr.out k 1
                      obtain ⟨r5, M5, hx⟩ : ∃ r5 M5, rj.reply k 1 = (r5, M5) := ⟨_, _, rfl⟩
                      rw [hx] at hg hsz5 hln5 HY1 HY2
                      simp only at hsz5 hln5 HY1 HY2
                      obtain ⟨A5, c5, rfl, hrd, hAn, hr, hok, hm, ho⟩ := gives_slice hg
                      simp only at hr hok ho hrd ⊢
                      have HR5 := Lib.hid hr
                      have HOK5 := Lib.hid hok
                      have HMV5 := Lib.hid (HMVq.out.trans hm)
                      have HM5 := Lib.hid (HMq.out.low HR4.out.1 HR4.out.2 hm)
                      have HRD5 := Lib.hid hrd
                      have HAN5 := Lib.hid hAn
                      have HSZ5 := Lib.hid hsz5
                      have HLN5 := Lib.hid hln5
                      clear hg hrd hAn hr hok hm ho hx hsz5 hln5 q0 hcell hmelt
                      go_wp2_with (at_builtin; refine appendS rfl (.tmp 146) (.tmp 151) rfl w4.heap.size _ M rfl ?hown A5 M5.length c5 M5 rfl rfl ?hA HAN5.out ?hmax ?hbase ?_)
                      case hown => exact HM5.out
                      case hA => exact HRD5.out
                      case hmax => have := HML.out; have := HLN5.out; have := HJL.out; have := HXL.out; omega
                      case hbase => exact HMV5.out.size
                      intro A6 c6 w6 hown6 hb6 hg6
                      have HB6 := Lib.hid (hb6 w5 (Below.refl _ _))
                      have HR6 := Lib.hid (HR5.out.below (HRj.out.low.eq (show r5.sizes = r.sizes from by rw [HSZ5.out, HSZr.out, HRS.out])) HB6.out)
                      clear hb6 hg6
                      go_wp2_with fail
                      go_roundw
                      case rel => exact ⟨j + 1, r5, M ++ M5, A6, c6, by go_num, by rw [List.length_append], HJL.out, by have := HML.out; have := HLN5.out; simp; omega, by rw [List.length_append]; exact hown6.out, HR6.out, HOK5.out, by rw [HSZ5.out]; exact HSZr.out, HY1.out, by have := HY2.out; simpa using this, HMV5.out.then HB6.out⟩
                      case measure => have := HJL.out; have := HXL.out; simp [intOf]; omega
                · obtain rfl : j = (r.openL t).length := by omega
                  have hdj : decide ((r.openL t).length < (r.openL t).length) = false := decide_eq_false (by omega)
                  clear hjl hxl
                  have hde : (r.opens.drop (r.openL t).length) = [] := by rw [HXL.out, List.drop_length]
                  rw [hde] at HY1 HY2
                  have HZ1 := Lib.hid (show rj = (replyAll (loE nl dl) (kindE nb da) t r r.opens).1 from HY1.out)
                  have HZ2 := Lib.hid (show M = (replyAll (loE nl dl) (kindE nb da) t r r.opens).2 from by have := HY2.out; simpa [replyAll] using this)
                  have HRD := Lib.hid (HRO.out (loE nl dl) (kindE nb da) (kindE_or nb da))
                  rw [← HZ1.out, ← HZ2.out] at HRD
                  clear hde
                  by_cases hM : M.length = 0
                  · obtain rfl : M = [] := List.length_eq_zero_iff.1 hM
                    have HE9 := Lib.hid (show EInv L N (rj.tick 10).1 (rj.tick 10).2 (fun x => if x ∈ r.opens then t else T x) (i + 1) from by have := HRD.out; rwa [if_pos rfl] at this)
                    clear hM
                    go_wp2_with fail
                    refine (tick_any wr 10 HRr.out HOKr.out).mono ?_
                    intro e w9 hg
                    obtain ⟨r9, X9, hx⟩ : ∃ r9 X9, rj.tick 10 = (r9, X9) := ⟨_, _, rfl⟩
                    rw [hx] at hg HE9
                    simp only at HE9
                    obtain ⟨A9, c9, rfl, hrd, hAn, hr, hok, hm, ho⟩ := gives_slice hg
                    simp only at hr hok ho ⊢
                    have HR9 := Lib.hid hr
                    have HOK9 := Lib.hid hok
                    have HS9 := Lib.hid (Nat.le_trans HWj.out (Nat.le_trans HMV.out.size hm.size))
                    have HO9 := Lib.hid (ho.mono (Nat.le_trans HWj.out HMV.out.size))
                    have HAR9 := Lib.hid (HARr.out.moved hm (Ne.symm HG9.out.1) (Ne.symm HG9.out.2.1))
                    have HB9 := Lib.hid (HBr.out.trans (hm.below HBr.out.size HRG.out.1 HRG.out.2))
                    clear hg hrd hAn hr hok hm ho hx
                    go_wp2_with fail
                    go_roundw
                    case rel => exact ⟨r9, i + 1, X9, A9, c9, _, rfl, by go_num, by have := HIR.out; omega, HS9.out, HO9.out, HR9.out, HOK9.out, HE9.out, HAR9.out, HB9.out⟩
                    case measure => have := HIR.out; simp [intOf]; omega
                  · have hMb : ((M.length : Int) == 0) = false := beq_eq_false_iff_ne.2 (by omega)
                    have HE9 := Lib.hid (show EInv L N rj M (fun x => if x ∈ r.opens then t else T x) (i + 1) from by have := HRD.out; rwa [if_neg (fun h => hM (by rw [h]; rfl))] at this)
                    clear hM
                    go_wp2_with fail
                    go_roundw
                    case rel => exact ⟨rj, i + 1, M, Am, cm, _, rfl, by go_num, by have := HIR.out; omega, Nat.le_trans HWj.out HMV.out.size, HM.out.mono HWj.out, HRr.out, HOKr.out, HE9.out, HARr.out, HBr.out⟩
                    case measure => have := HIR.out; simp [intOf]; omega
        · have hdi : decide ((i : Int) < 4 * (L.length : Int) + 2) = false := decide_eq_false (by omega)
          have hdi' : decide (i < 4 * L.length + 2) = false := decide_eq_false hir
          obtain ⟨hdz, rfl, hT⟩ := einv_end HE.out (by omega)
          obtain ⟨hrs, hrn, _, _⟩ := HE.out
          have HDZ := Lib.hid hdz
          have HTT := Lib.hid hT
          have HRS := Lib.hid hrs
          have HRN := Lib.hid hrn
          have HDN := Lib.hid (show r.done = true by unfold Rn.done; rw [hdz.started, decide_eq_true (by have := hdz.stage; omega)]; rfl)
          clear hdz hT hrs hrn hir
          go_wp2_with fail
          obtain ⟨w5, rfl⟩ : ∃ w5, w5 = wr := ⟨_, rfl⟩
          go_loopw [20] (fun s20 wx => s20 = .int .i64 0 ∧ wx = w5) (fun _ _ => 0)
          case atStart => exact ⟨rfl, rfl⟩
          case round =>
            obtain ⟨rfl, hwx⟩ := hrel
            rw [hwx]
            clear hwx
            go_wp2_with fail
            refine (done_any w5 HR.out).mono ?_
            rintro e wd ⟨rfl, nd, rfl⟩
            rw [HDN.out]
            have HRd := Lib.hid (HR.out.drewN (n := nd))
            have HARd := Lib.hid (HAR.out.drewN (m := nd))
            have HBd := Lib.hid (below_drewNs (n := nd) HB.out)
            generalize w5.drewN nd = wd at *
            go_wp2_with fail
            go_loopw [22] (fun s22 wx => ∃ k : Nat, s22 = .int .i64 k ∧ k ≤ N ∧ wx = wd) (fun s22 _ => N - (intOf s22).toNat)
            case atStart => exact ⟨0, rfl, by omega, rfl⟩
            case round =>
              obtain ⟨k, rfl, hk, hwx⟩ := hrel
              rw [hwx]
              clear hwx
              by_cases hkN : k < N
              · have hdk : decide (k < N) = true := decide_eq_true hkN
                have hkN' : (k : Int) < (N : Int) := by omega
                have HKN := Lib.hid hkN
                have hcell := HARd.out.cell hkN
                have hmelt := HARd.out.melt
                have HOC := Lib.hid (outcome_nat (r := r) (k := k) (by rw [HRN.out]; exact hkN))
                have hne : (r.rq k).out ≠ 0 := HDZ.out.past k (by rw [HRN.out]; exact hkN)
                have HT4 := Lib.hid (HTT.out k hkN)
                obtain ⟨o, ho⟩ : ∃ o, (r.rq k).out = o := ⟨_, rfl⟩
                rw [ho] at hne HOC HT4
                have hn0 : (o == 0) = false := beq_eq_false_iff_ne.2 hne
                clear ho hne hkN
                go_wp2_with fail
                refine (outcome_any wd k HRd.out).mono ?_
                rintro e wx ⟨rfl, hwx⟩
                rw [hwx]
                clear hwx wx
                rw [HOC.out]
                by_cases hkl : k < nl
                · have hdl : decide (k < nl) = true := decide_eq_true hkl
                  have hkl' : (k : Int) < (nl : Int) := by omega
                  obtain ⟨b2, off2, hO2, hbl2, hc2⟩ := HAC.out.at hkl
                  subst hO2
                  have hcw2 := keep_cell (HB1.out.trans (HBd.out.mono HB1.out.size)) hc2
                  have hm6 := modN_eq6 (dl k)
                  by_cases hlo : (modN 6 (dl k) : Int) < 4
                  · have hdo : decide (wrap64 ((IntKind.u64.wrap (dl k)).tmod 6) < 4) = true := by rw [hm6]; exact decide_eq_true hlo
                    clear hm6 hlo hc2 hkl
                    by_cases h3 : o = 3
                    · subst h3
                      have hT := HT4.out rfl
                      rw [hT] at hcell
                      go_wp2_with fail
                      refine (outcome_any wd k HRd.out).mono ?_
                      rintro e wx ⟨rfl, hwx⟩
                      rw [hwx]
                      clear hwx wx
                      rw [HOC.out]
                      go_wp2_with fail
                      go_roundw
                      case rel => exact ⟨k + 1, by go_num, HKN.out, trivial⟩
                      case measure => have := HKN.out; simp [intOf]; omega
                    · have hn3 : (o == 3) = false := beq_eq_false_iff_ne.2 h3
                      clear h3
                      go_wp2_with fail
                      refine (outcome_any wd k HRd.out).mono ?_
                      rintro e wx ⟨rfl, hwx⟩
                      rw [hwx]
                      clear hwx wx
                      rw [HOC.out]
                      go_wp2_with fail
                      go_roundw
                      case rel => exact ⟨k + 1, by go_num, HKN.out, trivial⟩
                      case measure => have := HKN.out; simp [intOf]; omega
                  · have hdo : decide (wrap64 ((IntKind.u64.wrap (dl k)).tmod 6) < 4) = false := by rw [hm6]; exact decide_eq_false hlo
                    clear hm6 hlo hc2 hkl
                    go_wp2_with fail
                    go_roundw
                    case rel => exact ⟨k + 1, by go_num, HKN.out, trivial⟩
                    case measure => have := HKN.out; simp [intOf]; omega
                · have hdl : decide (k < nl) = false := decide_eq_false hkl
                  clear hkl
                  go_wp2_with fail
                  go_roundw
                  case rel => exact ⟨k + 1, by go_num, HKN.out, trivial⟩
                  case measure => have := HKN.out; simp [intOf]; omega
              · obtain rfl : k = N := by omega
                have hdk : decide (k < k) = false := decide_eq_false (by omega)
                clear hkN
                go_wp2_with fail
                refine (done_any wd HRd.out).mono ?_
                rintro e we ⟨rfl, ne, rfl⟩
                rw [HDN.out]
                have HRe := Lib.hid (HRd.out.drewN (n := ne))
                have HBe := Lib.hid (below_drewNs (n := ne) HBd.out)
                generalize wd.drewN ne = we at *
                go_wp2_with fail
                refine (stage_any we HRe.out).mono ?_
                rintro e wx ⟨rfl, hwx⟩
                rw [hwx]
                clear hwx wx
                have hsl : r.stage = L.length := by rw [HDZ.out.stage, HRS.out]
                rw [hsl]
                clear hsl
                go_wp2_with fail
                go_ret
                exact ⟨by simp, HB1.out.trans (HBe.out.mono HB1.out.size)⟩
end Go.Proofs.Ytpogiondpbfjkaa
