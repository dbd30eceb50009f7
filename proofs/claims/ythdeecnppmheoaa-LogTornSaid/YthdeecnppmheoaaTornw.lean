/- LogTorn walked. -/
import Derived.Test.YthdeecnppmheoaaGap
import Derived.Deep.CutBlock
import Derived.Deep.DeepCutAuto
import Derived.BigQuiet
import Derived.Deep.QuietTactic
namespace Go.Proofs.Ythdeecnppmheoaa
open Go.RowKit
theorem info3 : (Try.prog.info? 3).map (fun i => (i.zero, i.size, i.bytes)) = some (some (.int .i64 0), 1, 8) := by kernel_rfl
/-- A row of numbers of our own. -/
def OwnI (B : Nat) (w : World) (v : Value) (l : List Int) : Prop := w.ownsRow B 3 1 v l.length (l.map (Value.int .i64))
theorem OwnI.nil (B : Nat) (w : World) : OwnI B w (.slice none 0 0) [] := ⟨rfl, .inl ⟨rfl, rfl⟩⟩
theorem OwnI.keep {B : Nat} {X y : World} {v : Value} {l : List Int} (h : OwnI B X v l) (hb : Below X.heap.size X y) : OwnI B y v l := owns_keep h hb
theorem owns_apart {w w' : World} {B1 B2 e1 e2 s1 s2 n1 n2 : Nat} {v1 v2 : Value} {x1 x2 : List Value} (h1 : w.ownsRow B1 e1 s1 v1 n1 x1) (h2 : w.ownsRow B2 e2 s2 v2 n2 x2) (hne : e1 ≠ e2) (hg : w.grownBy w' v2.ownBlock) : w'.ownsRow B1 e1 s1 v1 n1 x1 := by
  refine h1.kept hg ?_
  cases h : v1.ownBlock with
  | none => exact .inl rfl
  | some g =>
    refine .inr (fun e => ?_)
    obtain ⟨_, c1, k1⟩ := owns_block h1 g h
    obtain ⟨_, c2, k2⟩ := owns_block h2 g e.symm
    rw [k1] at k2
    simp at k2
    exact hne k2.2
theorem OwnI.slice {B : Nat} {w : World} {v : Value} {l : List Int} (h : OwnI B w v l) : ∃ A c, v = .slice A l.length c ∧ ∀ i, i < l.length → ∃ g, A = some ⟨g, 0, none⟩ ∧ w.cell? ⟨g, i, none⟩ = some (.int .i64 (l.getD i 0)) := by
  obtain ⟨hx, hr⟩ := h
  rcases hr with ⟨rfl, hz⟩ | ⟨g, cap, cur, rfl, hg, hblk, hn, hcap, hcur, htake⟩
  · exact ⟨none, 0, by rw [hz], fun i hi => by omega⟩
  · refine ⟨_, _, rfl, fun i hi => ⟨g, rfl, ?_⟩⟩
    have h1 : (cur.toList.take (l.length * 1))[i]? = some (.int .i64 (l.getD i 0)) := by
      rw [htake, List.getElem?_map, List.getElem?_eq_getElem hi, List.getD_eq_getElem?_getD, List.getElem?_eq_getElem hi]; rfl
    rw [List.getElem?_take] at h1
    split at h1
    · simp only [World.cell?, hblk]; simpa using h1
    · cases h1
/-- append of one number to a row of our own. -/
theorem appendI {ops : Array Oper} {rest : List Oper} {o : Oper} {a : Act} {w : World} {Q : Exit → Act → World → Prop} (hgd : o.guard = none) (s x : Operand)
    (ho : o.op = .call { callee := .builtin .append, args := #[s, x], argTypes := #[39, 39] }) (B : Nat) (v : Value) (l : List Int) (hs : a.eval s = v) (hown : OwnI B w v l)
    (g : Nat) (y : Int) (hx : a.eval x = .slice (some ⟨g, 0, none⟩) 1 1) (hc : w.cell? ⟨g, 0, none⟩ = some (.int .i64 y)) (hmax : l.length ≤ 1000000) (hbase : B ≤ w.heap.size)
    (h : ∀ v' w', Hid (OwnI B w' v' (l ++ [y])) → (∀ w0, Below B w0 w → Below B w0 w') → w.grownBy w' v.ownBlock → wpList Try.prog ops Q rest (a.put o.dst v') w') : wpList Try.prog ops Q (o :: rest) a w := by
  obtain ⟨i0, hi, hz0, hz1, hz2⟩ := info_parts info3
  refine wpList_append_own w hgd s x 39 ho B 3 i0 (.int .i64 0) 1 8 Try.underlying39 hi hz0 hz1 hz2 rfl (by decide) v l.length _ hs hown ⟨g, 0, none⟩ 1 1 [.int .i64 y] hx (by simp) ?_ ?_ (by simp only [maxLen]; omega) (by omega) hbase (fun v' w' ho' hg _ => ?_)
  · intro j u hj
    match j, hj with
    | 0, hj => simp at hj; subst hj; exact hc
    | j + 1, hj => simp at hj
  · intro u hu; simp at hu; subst hu; rfl
  · exact h v' w' (Lib.hid (by unfold OwnI; rw [List.length_append, List.map_append]; exact ho')) (fun w0 hb => hb.grown hg hbase (fun g e => (owns_block hown g e).1)) hg
theorem recs_at {a n c : Nat} {w : World} {A : Option Addr} {gs : List Rec} (h : Recs a w (.slice A n c) gs) (i : Nat) (r : Rec) (hi : gs[i]? = some r) : ∃ g, A = some ⟨g, 0, none⟩ ∧ ∃ D cD, w.cell? ⟨g, i * 3, none⟩ = some (.int .u32 r.1) ∧ w.cell? ⟨g, i * 3 + 1, none⟩ = some (.int .u8 r.2.1) ∧ w.cell? ⟨g, i * 3 + 2, none⟩ = some (.slice D r.2.2.length cD) ∧ Read8 w D r.2.2 := by
  obtain ⟨g, cap, e, _, _, _, hc⟩ := recs_cells h (fun e => by rw [e] at hi; simp at hi)
  simp only [Value.slice.injEq] at e
  obtain ⟨D, cD, k0, k1, k2, hf⟩ := hc i r hi
  exact ⟨g, e.1, D, cD, k0, k1, k2, hf.read⟩
theorem recsG_get (S : Int) (ds : Nat → List Int) (W i : Nat) (h : i < W) : (recsG S ds W)[i]? = some (S + (i : Int), (i : Int), ds i) := by simp [recsG, h]
theorem eq_bytes (A B : Option Addr) (c d : Nat) (xs : List Int) (hx : Bytes8 xs) (w : World) (hr : Read8 w A xs) (hs : Read8 w B xs) : Calls Try.prog 13 #[.slice A xs.length c, .slice B xs.length d] w fun e w' => e = .returned (.bool true) ∧ w' = w := by
  have := bytes_any A B xs.length xs.length c d xs xs rfl rfl hx hx w hr hs
  simpa using this
theorem read8_drewN {w : World} {A : Option Addr} {l : List Int} {n : Nat} (h : Read8 w A l) : Read8 (w.drewN n) A l := h
/-- Where each ends. -/
def endsL (ds : Nat → List Int) (n : Nat) : List Int := (List.range n).map fun (i : Nat) => (endG ds (i + 1) : Int)
theorem endsL_succ (ds : Nat → List Int) (n : Nat) : endsL ds (n + 1) = endsL ds n ++ [(endG ds (n + 1) : Int)] := by simp [endsL, List.range_succ]
theorem endsL_length (ds : Nat → List Int) (n : Nat) : (endsL ds n).length = n := by simp [endsL]
theorem endsL_get (ds : Nat → List Int) (n i : Nat) (h : i < n) : (endsL ds n).getD i 0 = (endG ds (i + 1) : Int) := by
  simp [endsL, List.getD_eq_getElem?_getD, h]
theorem endG_bd {ds : Nat → List Int} {n : Nat} (h : GoodTo ds 300 n) (hn : n ≤ 8) : endG ds n ≤ 64000 := by
  rw [← endG_eq 0]; exact joinG_bd 0 ds 300 8 n h hn (by decide)
theorem u64_mod' (x : Int) (m : Nat) (hm : 0 < m) (hmm : m < 4294967296) : ∃ r : Nat, r < m ∧ wrap64 ((IntKind.u64.wrap x).tmod (m : Int)) = (r : Int) := by
  have h0 : 0 ≤ IntKind.u64.wrap x := by unfold IntKind.wrap; simp [IntKind.signed, IntKind.bits]; omega
  rw [Int.tmod_eq_emod_of_nonneg h0]
  have h1 := Int.emod_nonneg (IntKind.u64.wrap x) (b := (m : Int)) (by omega)
  have h2 := Int.emod_lt_of_pos (IntKind.u64.wrap x) (b := (m : Int)) (by omega)
  generalize IntKind.u64.wrap x % (m : Int) = y at *
  exact ⟨y.toNat, by omega, by rw [IntWalk.wrap64_in _ (by omega)]; omega⟩
set_option maxHeartbeats 2000000 in
set_option maxRecDepth 100000 in
theorem torn_any (O : Option Addr) (na ca : Nat) (ds : Nat → List Int) (sq cut gap : Int) (hs0 : 0 ≤ sq) (hs1 : sq ≤ 4294967295) (hna : na ≤ 9223372036854775807) (w : World) (ha : RowsIn w O na ds) :
    Calls Try.prog 4 #[.slice O na ca, .int .u32 sq, .int .i64 cut, .int .i64 gap] w fun e w' => e = .returned (.bool true) ∧ Below w.heap.size w w' := by
  have HRA := Lib.hid ha
  have HA := Lib.hid (fun wx => awake_any wx)
  clear ha
  go_enter Try.func4, Try.ntmps4
  go_upto_block 0 with fail
  have hS : 1 ≤ 1 + sq % 1000000 ∧ 1 + sq % 1000000 ≤ 1000000 := by omega
  generalize 1 + sq % 1000000 = S at *
  obtain ⟨hS0, hS1⟩ := hS
  go_cut [9, 10] (fun s9 s10 wx => ∃ (n : Nat) (v u : Value), s9 = v ∧ s10 = u ∧ n ≤ 8 ∧ n ≤ na ∧ GoodTo ds 300 n ∧ Own8 w.heap.size wx v (joinF (recsG S ds n)) ∧ OwnI w.heap.size wx u (endsL ds n) ∧ Below w.heap.size w wx)
  case first =>
    go_wp2_with fail
    go_loopw [9, 10, 11] (fun s9 s10 s11 wr => ∃ (k : Nat) (v u : Value), s11 = .int .i64 k ∧ s9 = v ∧ s10 = u ∧ k ≤ 8 ∧ k ≤ na ∧ GoodTo ds 300 k ∧ Own8 w.heap.size wr v (joinF (recsG S ds k)) ∧ OwnI w.heap.size wr u (endsL ds k) ∧ Below w.heap.size w wr) (fun _ _ s11 _ => 8 - (intOf s11).toNat)
    case atStart => exact ⟨0, _, _, rfl, rfl, rfl, by omega, by omega, fun i hi => absurd hi (Nat.not_lt_zero _), Own8.nil _ _, OwnI.nil _ _, Below.refl _ _⟩
    case round =>
      obtain ⟨k, v, u, rfl, rfl, rfl, hk5, hka, hgood, hown, howni, hbel⟩ := hrel
      have HG := Lib.hid hgood
      have HO := Lib.hid hown
      have HOI := Lib.hid howni
      have HB := Lib.hid hbel
      clear hgood hown hbel howni
      by_cases hlt : k < na
      · by_cases hl5 : k < 8
        · obtain ⟨b, off, rfl, hbl, A, c, hc, hdc, hdm, hAc, hd8, hdr⟩ := HRA.out.at hlt
          have HD8 := Lib.hid hd8
          have HDR := Lib.hid (hdr.keep HB.out)
          have hcw := keep_cell HB.out hc
          clear hc hd8 hdr
          obtain ⟨d, hd⟩ : ∃ d, ds k = d := ⟨_, rfl⟩
          have HGS := Lib.hid (fun h8 hl => goodTo_succ HG.out hd h8 hl)
          have HJ := Lib.hid (show joinF (recsG S ds (k + 1)) = joinF (recsG S ds k) ++ packF (S + k) k d by rw [recsG_succ, joinF_append, joinF_one, hd])
          have HJL := Lib.hid (endG_eq S ds k)
          have HJL2 := Lib.hid (endG_eq S ds (k + 1))
          have HEB := Lib.hid (endG_bd HG.out hk5)
          have HES := Lib.hid (endsL_succ ds k)
          have HEL := Lib.hid (endsL_length ds k)
          rw [hd] at HD8 HDR hcw hdc hdm
          have HPL := Lib.hid (packF_length (S + k) k d)
          rw [HJ.out] at HJL2
          generalize joinF (recsG S ds k) = J at *
          generalize endsL ds k = L at *
          clear hd
          by_cases hbig : (d.length : Int) ≤ 300
          · have HP := Lib.hid (fun wx hx => pack_any (S + k) k (by omega) (by omega) (by omega) (by omega) A d.length c d rfl (by omega) HD8.out wx hx)
            generalize packF (S + k) k d = P at *
            have hw1 : (k : Int) % 4294967296 = (k : Int) := by omega
            have hw2 : (S + (k : Int)) % 4294967296 = S + (k : Int) := by omega
            have hw3 : IntKind.u8.wrap (k : Int) = (k : Int) := wraps_u8 _ (by omega) (by omega)
            have hw4 : (k : Int) % 256 = (k : Int) := by omega
            go_wp2_with fail
            refine (HP.out _ HDR.out).mono ?_
            rintro e w1 ⟨g, rfl, hr1, hg1, hb1⟩
            have HO1 := Lib.hid (HO.out.keep hb1)
            have HOI1 := Lib.hid (HOI.out.keep hb1)
            have HB1 := Lib.hid (below_call HB.out hb1)
            have HR1 := Lib.hid hr1
            clear hb1 hr1 hw1 hw2 hw3 hw4 hcw
            go_wp2_with (at_builtin; refine append8 rfl (.tmp 41) (.tmp 52) rfl w.heap.size _ J rfl HO1.out (some ⟨g, 0, none⟩) P.length P.length P rfl rfl ?hA (fun h => by cases h) ?hmax ?hbase ?_)
            case hA => exact .inr ⟨g, 0, rfl, HR1.out.lt, HR1.out.cells⟩
            case hmax => rw [HPL.out, HJL.out]; have := HEB.out; omega
            case hbase => exact HB1.out.size
            intro A2 c2 w2 hown2 hb2 hg2
            have HB2 := Lib.hid (hb2 _ HB1.out)
            have HOI2 := Lib.hid (show OwnI w.heap.size w2 _ L from owns_apart HOI1.out HO1.out (by decide) hg2)
            clear hb2 hg2
            go_wp2_with (at_builtin; refine appendI rfl (.tmp 54) (.tmp 57) rfl w.heap.size _ L rfl ?hown w2.heap.size ((J.length : Int) + (P.length : Int)) rfl ?hc ?hmax ?hbase ?_)
            case hown => exact HOI2.out.keep (below_new (Below.refl _ _) _)
            case hc => exact cell_top0 rfl
            case hmax => rw [HEL.out]; omega
            case hbase => exact (below_new HB2.out _).size
            intro u3 w3 hown3 hb3 hg3
            have HB3 := Lib.hid (hb3 _ (below_new HB2.out _))
            have HO3 := Lib.hid (show Own8 w.heap.size w3 _ (J ++ P) from owns_apart (hown2.out.keep (below_new (Below.refl _ _) _)) (HOI2.out.keep (below_new (Below.refl _ _) _)) (by decide) hg3)
            clear hb3 hg3
            go_wp2_with fail
            go_roundw
            case rel => exact ⟨k + 1, _, _, by go_num, rfl, rfl, by omega, by omega, HGS.out HD8.out (by omega), by rw [HJ.out]; exact HO3.out, by rw [HES.out, ← HJL2.out]; simpa using hown3.out, HB3.out⟩
            case measure => simp [intOf]; omega
          · have hbig' : (300 : Int) < (d.length : Int) := by omega
            go_wp2_with fail
            refine (HA.out _).mono ?_
            rintro e w1 ⟨rfl, hb1⟩
            have HB1 := Lib.hid (below_call HB.out hb1)
            clear hb1
            go_wp2_with fail
            go_ret
            exact ⟨rfl, HB1.out⟩
        · have hg : decide ((k : Int) < 8) = false := decide_eq_false (by omega)
          go_wp2_with fail
          go_meet
          exact ⟨k, _, _, rfl, rfl, by omega, by omega, HG.out, HO.out, HOI.out, HB.out⟩
      · have hg : decide ((k : Int) < (na : Int)) = false := decide_eq_false (by omega)
        go_wp2_with fail
        go_meet
        exact ⟨k, _, _, rfl, rfl, by omega, by omega, HG.out, HO.out, HOI.out, HB.out⟩
  case rest =>
    obtain ⟨n, v, u, rfl, rfl, hn8, hna', hgood, hown, howni, hbel⟩ := hcut
    have HG := Lib.hid hgood
    have HB := Lib.hid hbel
    have HOI := Lib.hid howni
    have HEN := Lib.hid (endG_eq S ds n)
    have hEB := endG_bd hgood hn8
    obtain ⟨Ax, cx, hv, hAc, hcx⟩ := hown.slice
    subst hv
    have HO := Lib.hid hown
    obtain ⟨Au, cu, hu, hcells⟩ := howni.slice
    rw [endsL_length] at hu hcells
    subst hu
    have HCE := Lib.hid hcells
    have HX8 := Lib.hid (joinG_8 (s := S) hgood (by decide) (by omega) (by omega) (by omega))
    have HJN := Lib.hid (show 0 < n → 0 < (joinF (recsG S ds n)).length from fun h0 => by
      rw [joinF_length]; have h3 := blocksF_le (recsG S ds n); rw [recsG_length] at h3; omega)
    have HJZ := Lib.hid (show n = 0 → (joinF (recsG S ds n)).length = 0 from fun h0 => by rw [h0]; simp [recsG, joinF])
    have HTORN := Lib.hid (fun W p (hW : W ≤ n) h1 h2 h3 => scan_tornG S ds n W p ((joinF (recsG S ds n)).length + 320 - p) hS0 (by omega) (by omega) hW h1 h2 h3)
    have HGAP := Lib.hid (fun q h0 h1 h2 => scan_gapG S q ds n 1 [] h0 hS0 (by omega) (by omega) h1 h2)
    have HBK := Lib.hid (show (joinF (recsG S ds n)).length = 64 * blocksF (recsG S ds n) from joinF_length _)
    clear hgood hown hbel howni hcells
    generalize joinF (recsG S ds n) = J at *
    by_cases h0 : n = 0
    · have hz : ((J.length : Int) == 0) = true := beq_iff_eq.2 (by have := HJZ.out h0; omega)
      clear h0
      go_wp2_with fail
      refine (HA.out _).mono ?_
      rintro e w1 ⟨rfl, hb1⟩
      have HB1 := Lib.hid (below_call HB.out hb1)
      clear hb1
      go_wp2_with fail
      refine (HA.out _).mono ?_
      rintro e w2 ⟨rfl, hb2⟩
      have HB2 := Lib.hid (below_call HB1.out hb2)
      clear hb2
      go_wp2_with fail
      go_ret
      exact ⟨rfl, HB2.out⟩
    · have hn0 : 0 < n := by omega
      have hJ0 := HJN.out hn0
      have hz : ((J.length : Int) == 0) = false := beq_eq_false_iff_ne.2 (by omega)
      have hJ1 : J.length ≤ 64000 := by rw [HEN.out]; exact hEB
      obtain ⟨p, hp, hpe⟩ := u64_mod' cut (J.length + 1) (by omega) (by omega)
      have hpe : wrap64 ((IntKind.u64.wrap cut).tmod ((J.length : Int) + 1)) = (p : Int) := by simpa using hpe
      go_wp2_with fail
      refine (HA.out _).mono ?_
      rintro e w1 ⟨rfl, hb1⟩
      have HB1 := Lib.hid (below_call HB.out hb1)
      have HO1 := Lib.hid (HO.out.keep hb1)
      have HCE1 := Lib.hid (fun i hi => by
        obtain ⟨g, hg1, hg2⟩ := HCE.out i hi
        exact (show ∃ g, Au = some ⟨g, 0, none⟩ ∧ w1.cell? ⟨g, i, none⟩ = some (.int .i64 ((endsL ds n).getD i 0)) from ⟨g, hg1, keep_cell hb1 hg2⟩))
      clear hb1
      go_wp2_with fail
      simp only [hpe]
      clear hpe
      go_loopw [12, 13, 14] (fun s12 s13 s14 wr => ∃ (j W : Nat), s14 = .int .i64 j ∧ s12 = .int .i64 W ∧ s13 = .int .i64 (endG ds W : Nat) ∧ j ≤ n ∧ W ≤ j ∧ endG ds W ≤ p ∧ (∀ i, W ≤ i → i < j → p < endG ds (i + 1)) ∧ Below w1.heap.size w1 wr) (fun _ _ s14 _ => n - (intOf s14).toNat)
      case atStart => exact ⟨0, 0, rfl, rfl, by simp [endG, recsG, blocksF], by omega, by omega, by simp [endG, recsG, blocksF], fun i _ hi => absurd hi (Nat.not_lt_zero _), Below.refl _ _⟩
      case round =>
        obtain ⟨j, W, rfl, rfl, rfl, hj, hWj, hWp, hbig, hbel⟩ := hrel
        have HBG := Lib.hid hbig
        have HBL := Lib.hid hbel
        clear hbig hbel
        by_cases hlt : j < n
        · obtain ⟨g, rfl, hc⟩ := HCE1.out j hlt
          rw [endsL_get ds n j hlt] at hc
          have hcw := keep_cell HBL.out hc
          clear hc
          obtain ⟨E1, hE1⟩ : ∃ E1, endG ds (j + 1) = E1 := ⟨_, rfl⟩
          rw [hE1] at hcw
          have HE1 := Lib.hid hE1
          clear hE1
          by_cases hle : E1 ≤ p
          · have hle' : (E1 : Int) ≤ (p : Int) := by omega
            go_wp2_with fail
            go_quiet (fail)
            go_wp2_with fail
            go_roundw
            case rel => exact ⟨j + 1, j + 1, by go_num, by go_num, by rw [HE1.out], by omega, by omega, by rw [HE1.out]; exact hle, fun i h1 h2 => by omega, below_drewNs HBL.out⟩
            case measure => simp [intOf]; omega
          · have hle' : (p : Int) < (E1 : Int) := by omega
            go_wp2_with fail
            go_roundw
            case rel => exact ⟨j + 1, W, by go_num, rfl, rfl, by omega, by omega, hWp, fun i h1 h2 => by
              rcases Nat.lt_or_ge i j with h | h
              · exact HBG.out i h1 h
              · obtain rfl : i = j := by omega
                rw [HE1.out]; omega, HBL.out⟩
            case measure => simp [intOf]; omega
        · obtain rfl : n = j := by omega
          have hW3 : p ≤ endG ds n := by rw [← HEN.out]; omega
          have HTX := Lib.hid (HTORN.out W p hWj hWp (fun h => HBG.out W (Nat.le_refl _) h) hW3)
          have hNp : p ≤ J.length := by omega
          have HXN := Lib.hid (show (J.take p ++ z (J.length + 320 - p)).length = J.length + 320 by rw [List.length_append, List.length_take, show (z (J.length + 320 - p)).length = J.length + 320 - p by simp [z]]; omega)
          have HXB := Lib.hid (show Bytes8 (J.take p ++ z (J.length + 320 - p)) from bytes8_append (bytes8_take HX8.out _) (bytes8_z _))
          have HSP := Lib.hid (show spl (z (J.length + 320)) 0 (J.take p) = J.take p ++ z (J.length + 320 - p) by
            unfold spl z
            rw [List.take_zero, List.nil_append, List.drop_replicate, List.length_take, Nat.min_eq_left hNp, Nat.zero_add])
          have HTL := Lib.hid (show p = (J.take p).length by rw [List.length_take]; omega)
          have hJne : J ≠ [] := fun h => by rw [h] at hJ0; simp at hJ0
          obtain ⟨gx, rfl, _, hgx, hgl, _, hJC⟩ := HO1.out.row hJne
          have HJC := Lib.hid (Has8.keep hJC HBL.out)
          have hglr : gx < wr.heap.size := Nat.lt_of_lt_of_le hgl HBL.out.size
          clear hJC hJne hgl hlt
          obtain ⟨X, hX⟩ : ∃ X, J.take p ++ z (J.length + 320 - p) = X := ⟨_, rfl⟩
          rw [hX] at HTX HXN HXB HSP
          clear hX
          have hpc : (p : Int) ≤ (cx : Int) := by omega
          obtain ⟨i0, hi, hz0, hz1, hz2⟩ := info_parts info5
          have HI := Lib.hid hi
          have HZ0 := Lib.hid hz0
          have HZ1 := Lib.hid hz1
          have HZ2 := Lib.hid hz2
          clear hi hz0 hz1 hz2
          go_wp2_with (at_make; refine wpList_make_full _ rfl (.tmp 95) (.tmp 95) 23 rfl wr.heap.size 5 i0 (.int .u8 0) 1 Try.underlying23 HI.out HZ0.out HZ1.out .i64 .i64 ((J.length : Int) + 320) ((J.length : Int) + 320) (J.length + 320) rfl rfl (by omega) (by omega) ?b2 ?b3 ?b4 ?_)
          case b2 => rw [HZ2.out]; omega
          case b3 => simp only [maxLen]; omega
          intro w2 hown2 hgr2
          have R2 := Lib.hid (show RowAt w2 wr.heap.size (z (J.length + 320)) from row_made (B := wr.heap.size) (by simpa [Value.cells] using hown2))
          have b2 : Below wr.heap.size wr w2 := (Below.refl _ _).grown hgr2 (Nat.le_refl _) (fun g hg => by cases hg)
          have HB2 := Lib.hid b2
          have HJ2 := Lib.hid (Has8.keep HJC.out b2)
          have hgl2 : gx < w2.heap.size := Nat.lt_of_lt_of_le hglr b2.size
          clear hown2 hgr2 b2
          go_wp2_with (refine copy_row rfl (.tmp 97) (.tmp 100) rfl wr.heap.size 0 (J.length + 320) (J.length + 320) rfl (some ⟨gx, 0, none⟩) p cx rfl _ (J.take p) R2.out HTL.out ?hle ?hfit ?hA ?_)
          case hle => omega
          case hfit => rw [show (z (J.length + 320)).length = J.length + 320 by simp [z]]; omega
          case hA => exact read8_take hgl2 HJ2.out p
          intro w3 hr3 hb3
          rw [HSP.out] at hr3
          have HB3 := Lib.hid (hb3 _ _ HB2.out (Nat.le_refl _))
          have HSC := Lib.hid (scan_any wr.heap.size 0 (J.length + 320) (J.length + 320) X HXN.out.symm (by omega) (Nat.le_refl _) HXB.out w3 hr3.out.lt hr3.out.cells)
          clear hb3 hr3
          go_wp2_with fail
          refine HSC.out.mono ?_
          rintro e w4 ⟨v4, rfl, hv4, hb4⟩
          rw [HTX.out] at hv4 ⊢
          have HV4 := Lib.hid hv4
          obtain ⟨A4, c4, rfl⟩ := recs_shape hv4
          rw [recsG_length]
          have HB4 := Lib.hid (below_call HB3.out hb4)
          have HBW4 := Lib.hid (show Below w1.heap.size w1 w4 from below_call HBL.out HB4.out)
          have HBB4 := Lib.hid (show Below w.heap.size w w4 from below_call HB1.out HBW4.out)
          have HO4 := Lib.hid (HO1.out.keep HBW4.out)
          clear hv4 hb4 HSC
          go_wp2_with fail
          go_loopw [18] (fun s18 wq => ∃ i : Nat, s18 = .int .i64 i ∧ i ≤ W ∧ Below w4.heap.size w4 wq) (fun s18 _ => W - (intOf s18).toNat)
          case atStart => exact ⟨0, rfl, Nat.zero_le _, Below.refl _ _⟩
          case round =>
            obtain ⟨i, rfl, hi, hbq⟩ := hrel
            have HBQ := Lib.hid hbq
            clear hbq
            by_cases hlt : i < W
            · obtain ⟨g4, rfl, D, cD, k0, k1, k2, hfr⟩ := recs_at HV4.out i _ (recsG_get S ds W i hlt)
              simp only at k0 k1 k2 hfr
              obtain ⟨b, off, rfl, hbl, A, c, hc, hdc, hdm, hAc, hd8, hdr⟩ := HRA.out.at (show i < na by omega)
              have HBWr := Lib.hid (show Below w.heap.size w wr from below_call HBB4.out HBQ.out)
              obtain ⟨d, hd⟩ : ∃ d, ds i = d := ⟨_, rfl⟩
              rw [hd] at hc hdr hd8 k2 hfr
              have q0 := keep_cell HBQ.out k0
              have q1 := keep_cell HBQ.out k1
              have q2 := keep_cell HBQ.out k2
              have qc := keep_cell HBWr.out hc
              have HE := Lib.hid (fun wx hx hy => eq_bytes D A cD c d hd8 wx hx hy)
              have HR1 := Lib.hid (hfr.keep HBQ.out)
              have HR2 := Lib.hid (hdr.keep HBWr.out)
              clear k0 k1 k2 hc hfr hdr hd hd8
              have u1 : IntKind.u32.wrap (i : Int) = (i : Int) := wraps_u32 _ (by omega) (by omega)
              have u2 : IntKind.u32.wrap (S + (i : Int)) = S + (i : Int) := wraps_u32 _ (by omega) (by omega)
              have u3 : IntKind.u8.wrap (i : Int) = (i : Int) := wraps_u8 _ (by omega) (by omega)
              have u4 : decide (na ≤ i) = false := decide_eq_false (by omega)
              have u5 : (i : Int) < (na : Int) := by omega
              go_wp2_with fail
              go_quiet ((go_at_call 13; exact Calls.quiet_of_same (HE.out _ (read8_drewN HR1.out) (read8_drewN HR2.out))))
              clear u1 u2 u3 u4
              go_wp2_with fail
              go_roundw
              case rel => exact ⟨i + 1, by go_num, by omega, below_drewNs HBQ.out⟩
              case measure => simp [intOf]; omega
            · obtain rfl : W = i := by omega
              obtain ⟨y, hy, hye⟩ := u64_mod' gap 5 (by decide) (by decide)
              have hye : wrap64 ((IntKind.u64.wrap gap).tmod 5) = (y : Int) := hye
              have HBW := Lib.hid (show Below w.heap.size w wr from below_call HBB4.out HBQ.out)
              have HO5 := Lib.hid (HO4.out.keep HBQ.out)
              go_wp2_with (at_builtin; refine append8 rfl (.const (.slice none 0 0)) (.tmp 158) rfl wr.heap.size _ [] rfl (Own8.nil _ _) (some ⟨gx, 0, none⟩) J.length cx J rfl rfl ?hA (fun h => by cases h) ?hmax ?hbase ?_)
              case hA => exact HO5.out.read
              case hmax => simp; omega
              case hbase => exact Nat.le_refl _
              intro A6 c6 w6 hown6 hb6 hgr6
              have HB6 := Lib.hid (hb6 _ (Below.refl _ _))
              clear hb6 hgr6
              have HP7 := Lib.hid (fun wx => pack_any (S + ((n : Int) - 1) + (2 + (y : Int))) 1 (by omega) (by omega) (by decide) (by decide) none 0 0 [] rfl (by decide) (fun x hx => by simp at hx) wx (.inl rfl))
              have HL7 := Lib.hid (show (packF (S + ((n : Int) - 1) + (2 + (y : Int))) 1 []).length = 64 from packF_length _ 1 [])
              have HP78 := Lib.hid (packF_8 (q := S + ((n : Int) - 1) + (2 + (y : Int))) (k := 1) (d := []) (by omega) (by omega) (by decide) (by decide) (by decide) (fun x hx => by simp at hx))
              have HS7 := Lib.hid (HGAP.out (S + ((n : Int) - 1) + (2 + (y : Int))) hn0 (by omega) (by omega))
              generalize packF (S + ((n : Int) - 1) + (2 + (y : Int))) 1 [] = P7 at *
              have hBW : (endG ds W : Int) / 64 = (blocksF (recsG S ds W) : Int) := by rw [← endG_eq S ds W, joinF_length]; omega
              have hBN : (J.length : Int) / 64 = (blocksF (recsG S ds n) : Int) := by rw [HBK.out]; omega
              have HBW' := Lib.hid hBW
              have HBN := Lib.hid hBN
              clear hBW hBN
              go_wp2_with fail
              refine (HP7.out _).mono ?_
              rintro e w7 ⟨g7, rfl, hr7, hgg7, hb7⟩
              have HO7 := Lib.hid (show Own8 wr.heap.size w7 (.slice A6 J.length c6) J from Own8.keep (by simpa using hown6.out) hb7)
              have HB7 := Lib.hid (below_call HB6.out hb7)
              have HR7 := Lib.hid hr7
              clear hr7 hb7 hgg7 hown6
              go_wp2_with (at_builtin; refine append8 rfl (.tmp 159) (.tmp 169) rfl wr.heap.size _ J rfl ?hown (some ⟨g7, 0, none⟩) P7.length P7.length P7 rfl rfl ?hA (fun h => by cases h) ?hmax ?hbase ?_)
              case hown => exact HO7.out
              case hA => exact .inr ⟨g7, 0, rfl, HR7.out.lt, HR7.out.cells⟩
              case hmax => rw [HL7.out]; omega
              case hbase => exact HB7.out.size
              intro A8 c8 w8 hown8 hb8 hgr8
              have HB8 := Lib.hid (below_call HBW.out (hb8 _ HB7.out))
              clear hb8 hgr8
              have HY8 := Lib.hid (bytes8_append HX8.out HP78.out)
              have hYL : (J ++ P7).length ≤ 64064 := by rw [List.length_append, HL7.out]; omega
              have hYne : J ++ P7 ≠ [] := fun h => by have := congrArg List.length h; rw [List.length_append, List.length_nil] at this; omega
              generalize J ++ P7 = Y at *
              obtain ⟨g8, rfl, _, _, hg8, hc8, hY⟩ := hown8.out.row hYne
              have HSC8 := Lib.hid (scan_any g8 0 Y.length c8 Y rfl (by omega) hc8 HY8.out w8 hg8 hY)
              clear hY hYne hc8 hown8 hg8
              go_wp2_with fail
              refine HSC8.out.mono ?_
              rintro e w9 ⟨v9, rfl, hv9, hb9⟩
              rw [HS7.out] at hv9 ⊢
              obtain ⟨A9, c9, rfl⟩ := recs_shape hv9
              rw [recsG_length]
              have HB9 := Lib.hid (below_call HB8.out hb9)
              clear hv9 hb9 HSC8 HS7
              have hBW := HBW'.out
              have hBN := HBN.out
              go_wp2_with fail
              go_ret
              exact ⟨rfl, HB9.out⟩
end Go.Proofs.Ythdeecnppmheoaa
