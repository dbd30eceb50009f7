/- begin: the stage that is under way is sent. -/
import Derived.Test.YtpogiondpbfjkaaSents
import Derived.BigQuiet
import Derived.Deep.QuietTactic
namespace Go.Proofs.Ytpogiondpbfjkaa
open Go.RowKit Go.Conc
/-- The stage that lies there. -/
def stageOf (w : World) (R : Nat) : Nat := match w.cell? ⟨R, 2, none⟩ with | some v => (intOf v).toNat | none => 0
theorem RunAt.stageOf {w : World} {R G : Nat} {A S : Option Addr} {c sc : Nat} {r : Rn} (h : RunAt w R G A c S sc r) : stageOf w R = r.stage := by
  obtain ⟨t, ht⟩ := h.top
  have := (blk_cells ht).1 2
  simp at this
  simp [Ytpogiondpbfjkaa.stageOf, this, intOf]
theorem Moved.high {a b c : World} {D G X Y : Nat} (h : Moved a b D G) (k : Moved b c X Y) (hX : a.heap.size ≤ X) (hY : a.heap.size ≤ Y) : Moved a c D G :=
  ⟨k.os.trans h.os, k.tape.trans h.tape, k.output.trans h.output, Nat.le_trans h.size k.size, fun i hi h1 h2 => (k.block i (Nat.lt_of_lt_of_le hi h.size) (by omega) (by omega)).trans (h.block i hi h1 h2)⟩
theorem Moved.second {a b : World} {D G : Nat} (h : Moved a b G G) : Moved a b D G := ⟨h.os, h.tape, h.output, h.size, fun k hk _ h2 => h.block k hk h2 h2⟩
/-- An own list grew. -/
theorem Moved.of_grown {a b : World} {B D G : Nat} {v : Value} {l : List (Int × Int)} (ho : OwnS B a v l) (hB : B ≤ D) (h : a.grownBy b v.ownBlock) (hD : v.ownBlock = none ∨ v.ownBlock = some D) : Moved a b D G :=
  ⟨h.os, h.tape, h.output, h.size, fun k hk h1 h2 => h.block k hk (by
    intro e; rcases hD with hD | hD
    · rw [hD] at e; cases e
    · rw [hD] at e; cases e; exact h1 rfl)⟩
theorem Low.eq {B R G : Nat} {S : Option Addr} {r r' : Rn} (h : Low B R G S r) (he : r'.sizes = r.sizes) : Low B R G S r' := ⟨h.1, h.2.1, by rw [he]; exact h.2.2⟩
theorem Low.mono {B B' R G : Nat} {S : Option Addr} {r : Rn} (h : Low B R G S r) (he : B ≤ B') : Low B' R G S r := ⟨by have := h.1; omega, by have := h.2.1; omega, by
  rcases h.2.2 with hh | hh
  · exact .inl hh
  · exact .inr fun a ha => by have := hh a ha; omega⟩
/-- ... and what is lower stays. -/
theorem Moved.then {a b c : World} {D G : Nat} (h : Moved a b D G) (k : Below a.heap.size b c) : Moved a c D G :=
  ⟨k.os.trans h.os, k.tape.trans h.tape, k.output.trans h.output, Nat.le_trans h.size k.size, fun i hi h1 h2 => (k.block i hi).trans (h.block i hi h1 h2)⟩
theorem ChanAt.moved {X y : World} {C cap D G : Nat} {L : List Nat} (h : ChanAt X C cap L) (hm : Moved X y D G) (h1 : C ≠ D) (h2 : C ≠ G) : ChanAt y C cap L := by
  obtain ⟨s, r, h⟩ := h
  exact ⟨s, r, by rw [hm.block C (blk_lt h) h1 h2]; exact h⟩
theorem ChanAt.grown {B : Nat} {X y : World} {C cap : Nat} {L : List Nat} {v : Value} {l : List (Int × Int)} (h : ChanAt X C cap L) (ho : OwnS B X v l) (hg : X.grownBy y v.ownBlock) : ChanAt y C cap L := by
  obtain ⟨s, r, h⟩ := h
  refine ⟨s, r, by rw [hg.block C (blk_lt h)]; exact h; intro e; obtain ⟨_, cur, hc⟩ := owns_block ho C e.symm; rw [h] at hc; cases hc⟩
theorem readS_one {w : World} {a b : Int} {cs : Array Value} {t : TypeId} (h : cs = #[.int .i64 a, .int .i64 b]) : ReadS (w.alloc (.cells cs t)) (some ⟨w.heap.size, 0, none⟩) [(a, b)] := by
  subst h
  refine .inr ⟨_, rfl, by simp, fun j u hj => ?_⟩
  match j, hj with
  | 0, hj => exact cell_top0 (by simpa [sentCells] using hj)
  | 1, hj => exact cell_top0 (by simpa [sentCells] using hj)
  | j + 2, hj => simp [sentCells] at hj
/-- How long a slice is. -/
def lenOf : Value → Nat
  | .slice _ n _ => n
  | _ => 0
theorem Moved.same (w : World) (D G : Nat) : Moved w w D G := ⟨rfl, rfl, rfl, Nat.le_refl _, fun _ _ _ _ => rfl⟩
/-- What holds ahead of a round of begin's outer loop. -/
def BInv (w : World) (R G : Nat) (A : Option Addr) (c : Nat) (S : Option Addr) (sc : Nat) (r r' : Rn) (wr : World) : Prop :=
  RunAt wr R G A c S sc r' ∧ r'.Ok ∧ r'.sizes = r.sizes ∧ beginF (r.sizes.length - r'.stage) r' = r.begin ∧ Moved w wr R G
/-- ... of its inner loop: this is left in the channel, this was sent. -/
def SInv (w : World) (R G : Nat) (A : Option Addr) (c : Nat) (S : Option Addr) (sc : Nat) (x : Rn × List (Int × Int)) (C : Nat) (N : Nat) (r' : Rn) (L : List Nat) (l : List (Int × Int)) (v : Value) (wr : World) : Prop :=
  RunAt wr R G A c S sc r' ∧ r'.Ok ∧ (∃ cap, ChanAt wr C cap L.tail) ∧ w.heap.size ≤ C ∧ (∀ no ∈ L, no < r'.l.length) ∧ l.length + L.length = N ∧ (sendAll r' L).1 = x.1 ∧ l ++ (sendAll r' L).2 = x.2 ∧ OwnS w.heap.size wr v l ∧ Moved w wr R G
set_option maxHeartbeats 2000000 in
theorem begin_any {R G : Nat} {A S : Option Addr} {c sc : Nat} {r : Rn} (w : World) (h : RunAt w R G A c S sc r) (hok : r.Ok) :
    Calls Try.prog 25 #[.pointer (some ⟨R, 0, none⟩)] w (Gives w R G A c S sc r.begin) := by
  have HR := Lib.hid h
  have HOK := Lib.hid hok
  have HLOW := Lib.hid h.low
  clear h hok
  go_enter Try.func25, Try.ntmps25
  go_wp2_with fail
  go_loopw [3] (fun s3 wr => ∃ r' : Rn, s3 = .slice none 0 0 ∧ BInv w R G A c S sc r r' wr) (fun _ wr => r.sizes.length - stageOf wr R)
  case atStart => exact ⟨r, rfl, HR.out, HOK.out, rfl, rfl, Moved.of_below (Below.refl _ _)⟩
  case round =>
    obtain ⟨r', rfl, hr, hok, hsz, hbf, hm⟩ := hrel
    have HR1 := Lib.hid hr
    have HOK1 := Lib.hid hok
    have HM1 := Lib.hid hm
    have HST := Lib.hid hr.stageOf
    have HBF := Lib.hid hbf
    have HSZ := Lib.hid hsz
    obtain ⟨t, ht⟩ := hr.top
    obtain ⟨c1, z1⟩ := blk_cells ht
    clear hr hok hsz hbf hm ht
    by_cases hlt : r'.stage < r'.sizes.length
    · have HLT := Lib.hid hlt
      have hd : decide ((r'.stage : Int) < (r'.sizes.length : Int)) = true := decide_eq_true (by omega)
      have hd' : decide (r'.stage < r'.sizes.length) = true := decide_eq_true (by omega)
      clear hlt
      go_wp2_with (go_quiet (fail))
      clear c1 z1 hd hd'
      have HR2 := Lib.hid (HR1.out.drewN (n := nq))
      have HM2 := Lib.hid (HM1.out.drewN (m := nq))
      have HS2 := Lib.hid (show stageOf (wr.drewN nq) R = r'.stage from HST.out)
      have HSr := Lib.hid (show stageOf wr R = r'.stage from HST.out)
      generalize wr.drewN nq = w2 at *
      refine (queue_open _ HR2.out HOK1.out).mono ?_
      rintro e w3 ⟨C, cap, rfl, hC, hcap, hch, hb3⟩
      have HC3 := Lib.hid hch
      have HR3 := Lib.hid (HR2.out.keep hb3)
      have HM3 := Lib.hid (HM2.out.trans (Moved.of_below hb3))
      have HCB := Lib.hid (Nat.le_trans HM2.out.size hC)
      have HS3 := Lib.hid (show stageOf w3 R = r'.stage from HR3.out.stageOf)
      have HOP := Lib.hid (show r'.those (fun q => q.out == 0) r'.first = r'.opens from rfl)
      have HBD := Lib.hid (fun no hn => those_bd (fun q => q.out == 0) HOK1.out no hn)
      rw [HOP.out] at HC3 HBD
      clear hch hb3 hC hcap HOP
      obtain ⟨O, hO⟩ : ∃ O, r'.opens = O := ⟨_, rfl⟩
      have HO := Lib.hid hO
      have HOL := Lib.hid (show O.length ≤ 1000 by
        have h1 := those_le r' (fun q => q.out == 0) r'.first
        have h2 := HOK1.out.fin_le
        have h3 := HOK1.out.few
        rw [← hO]; unfold Rn.opens; omega)
      rw [hO] at HC3 HBD
      clear hO
      go_wp2_with fail
      refine (next_any _ _ _ _ HC3.out).mono ?_
      rintro e w4 ⟨hc4, hm4, rfl⟩
      have HC4 := Lib.hid hc4
      have HSZ3 := Lib.hid (show r'.sizes = r.sizes from HSZ.out)
      have HR4 := Lib.hid (show RunAt w4 R G A c S sc r' from HR3.out.below (HLOW.out.eq HSZ.out) (hm4.below HM3.out.size HCB.out HCB.out))
      have HM4 := Lib.hid (HM3.out.high hm4 HCB.out HCB.out)
      clear hm4 hc4
      go_wp2_with fail
      go_loopw [3, 5, 6] (fun s3 s5 s6 wr => ∃ (r2 : Rn) (L : List Nat) (l : List (Int × Int)) (v : Value), s3 = v ∧ s5 = .int .i64 (L.head?.getD 0 : Nat) ∧ s6 = .bool (!L.isEmpty) ∧ SInv w R G A c S sc (sendAll r' O) C O.length r2 L l v wr ∧ r2.sizes = r'.sizes ∧ (l = [] → v = .slice none 0 0)) (fun s3 _ _ _ => O.length - lenOf s3)
      case atStart => exact ⟨r', O, [], _, rfl, rfl, rfl, ⟨HR4.out, HOK1.out, ⟨_, HC4.out⟩, HCB.out, HBD.out, by simp, rfl, by simp, OwnS.nil _ _, HM4.out⟩, rfl, fun _ => rfl⟩
      case round =>
        obtain ⟨r2, L, l, v, rfl, rfl, rfl, ⟨hr, hok, ⟨cap2, hch⟩, hCB, hLb, hlen, hx1, hx2, hown, hm⟩, hsz2, hnil⟩ := hrel
        have HNIL := Lib.hid hnil
        clear hnil
        have HOK2 := Lib.hid hok
        have HX1 := Lib.hid hx1
        have HX2 := Lib.hid hx2
        have HRa := Lib.hid hr
        have HCa := Lib.hid hch
        have HMa := Lib.hid hm
        have HOa := Lib.hid hown
        have HSa := Lib.hid hsz2
        have HLN := Lib.hid hlen
        obtain ⟨Av, cv, rfl, hAv, hcv, hrd⟩ := hown.slice
        clear hx1 hx2 hr hch hm hown hok hsz2 hAv hcv hrd
        rcases L with _ | ⟨no, L⟩
        · simp only [List.isEmpty_nil, Bool.not_true, List.head?_nil, Option.getD_none]
          have hO2 : l.length = O.length := by simpa using hlen
          have hxa : (sendAll r' O).1 = r2 := HX1.out.symm
          have hxb : (sendAll r' O).2 = l := by have := HX2.out; simpa [sendAll] using this.symm
          have HXA := Lib.hid hxa
          have HXB := Lib.hid hxb
          clear hxa hxb hLb hlen
          by_cases hl0 : l.length = 0
          · have hle : l = [] := List.length_eq_zero_iff.1 hl0
            subst hle
            have hOe : O = [] := List.length_eq_zero_iff.1 (by rw [← hO2]; rfl)
            subst hOe
            have he2 : r2 = r' := HXA.out.symm
            subst he2
            clear hO2 hl0
            obtain ⟨t, ht⟩ := HRa.out.top
            have HT := Lib.hid ht
            obtain ⟨c1, z1⟩ := blk_cells ht
            clear ht
            go_wp2_with fail
            refine (end_any _ HRa.out HOK2.out).mono ?_; rintro e w8 ⟨rfl, n8, rfl⟩
            go_wp2_with fail
            have HNL := HNIL.out trivial
            simp only [Value.slice.injEq] at HNL
            obtain ⟨rfl, _, rfl⟩ := HNL
            have hst : r2.stage + 1 ≤ 1000 := by have := HOK2.out.stages; have := HLT.out; omega
            have hwr : wrap64 ((r2.stage : Int) + 1) = ((r2.stage + 1 : Nat) : Int) := by rw [IntWalk.wrap64_in _ (by omega)]; rfl
            have HRx : RunAt (((wr.drewN n8).setCell ⟨R, 3, none⟩ (.int .i64 r2.fin)).setCell ⟨R, 2, none⟩ (.int .i64 (wrap64 ((r2.stage : Int) + 1)))) R G A c S sc r2.adv := by
              refine HRa.out.top' rfl rfl (fun k hk hkR => ?_) (fun t ht => ?_)
              · rw [Below.heap_setCell _ ⟨R, _, none⟩ _ k hkR, Below.heap_setCell _ ⟨R, _, none⟩ _ k hkR]; rfl
              · rw [hwr]
                exact heap_setCell_same _ _ _ _ _ _ (heap_setCell_same _ _ _ _ _ _ (heap_drewN ht))
            refine ⟨⟨r2.adv, rfl, HRx, HOK2.out.adv HLT.out, HSZ3.out, ?_, (HMa.out.drewN.setD).setD⟩, ?_⟩
            · rw [← HBF.out]
              obtain ⟨f, hf⟩ : ∃ f, r.sizes.length - r2.stage = f + 1 := ⟨r.sizes.length - r2.stage - 1, by have := HLT.out; have := congrArg List.length HSZ3.out; omega⟩
              rw [hf, beginF, HO.out, if_pos rfl]
              show beginF (r.sizes.length - (r2.stage + 1)) _ = _
              rw [show r.sizes.length - (r2.stage + 1) = f by omega]
            · rw [HRx.stageOf, HST.out]
              have := HLT.out; have := congrArg List.length HSZ3.out
              show r.sizes.length - (r2.stage + 1) < _; omega
          · have hd : decide (0 < l.length) = true := decide_eq_true (by omega)
            have hOne : O ≠ [] := fun e => by rw [e] at hO2; exact hl0 hO2
            have HBG := Lib.hid (show r.begin = sendAll r' O by
              rw [← HBF.out]
              obtain ⟨f, hf⟩ : ∃ f, r.sizes.length - r'.stage = f + 1 := ⟨r.sizes.length - r'.stage - 1, by have := HLT.out; have := congrArg List.length HSZ3.out; omega⟩
              rw [hf, beginF, HO.out, if_neg hOne])
            clear hO2 hl0 hOne
            go_wp2_with fail
            go_ret
            refine ⟨_, rfl, ?_, ?_, ?_, HMa.out⟩
            · rw [HBG.out, HXA.out]; exact HRa.out
            · rw [HBG.out, HXA.out]; exact HOK2.out
            · rw [HBG.out, HXB.out]; exact HOa.out
        · have hno : no < r2.l.length := hLb no (by simp)
          have HLB := Lib.hid (fun x (hx : x ∈ L) => hLb x (by simp [hx]))
          simp only [List.isEmpty_cons, Bool.not_false, List.head?_cons, Option.getD_some, List.tail_cons] at *
          have HSALL := Lib.hid (show sendAll r2 (no :: L) = ((sendAll (r2.sent no) L).1, ((no : Int), wrap64 ((r2.rq no).tries + 1)) :: (sendAll (r2.sent no) L).2) from rfl)
          rw [HSALL.out] at HX1 HX2
          have hlen' : l.length + L.length + 1 = O.length := by simp at hlen; omega
          have HLN' := Lib.hid hlen'
          clear hLb hlen HLN hlen'
          go_wp2_with fail
          refine (send_any _ no HRa.out HOK2.out.few hno).mono ?_
          rintro e w5 ⟨rfl, hr5, hm5⟩
          have HR5 := Lib.hid hr5
          have HO5 := Lib.hid (HOa.out.low HLOW.out.2.1 HLOW.out.2.1 hm5)
          have HC5 := Lib.hid (HCa.out.moved hm5 (by have := HLOW.out.2.1; omega) (by have := HLOW.out.2.1; omega))
          have HM5 := Lib.hid (HMa.out.trans (Moved.second hm5))
          clear hr5 hm5
          generalize wrap64 ((r2.rq no).tries + 1) = ty at *
          go_wp2_with (at_builtin; refine appendS rfl (.tmp 30) (.tmp 34) rfl w.heap.size _ l rfl ?hown (some ⟨w5.heap.size, 0, none⟩) 1 1 [((no : Int), ty)] rfl rfl ?hA (fun h => by cases h) ?hmax ?hbase ?_)
          case hown => exact HO5.out.keep (below_new (Below.refl _ _) _)
          case hA => exact readS_one rfl
          case hmax => have := HOL.out; have := HLN'.out; omega
          case hbase => exact Nat.le_trans HM5.out.size (by simp)
          intro A6 c6 w6 hown6 hb6 hg6
          have HB6 := Lib.hid (hb6 w5 (Below.alloc (Below.refl _ _) HM5.out.size _))
          have HR6 := Lib.hid (HR5.out.below (HLOW.out.eq (show (r2.sent no).sizes = r.sizes from HSa.out.trans HSZ.out)) HB6.out)
          have HM6 := Lib.hid (HM5.out.then HB6.out)
          have HC6 := Lib.hid (ChanAt.grown (HC5.out.keep (below_new (Below.refl _ _) _)) (HO5.out.keep (below_new (Below.refl _ _) _)) hg6)
          clear hb6 hg6
          go_wp2_with fail
          refine (next_any _ _ _ _ HC6.out).mono ?_
          rintro e w7 ⟨hc7, hm7, rfl⟩
          have HC7 := Lib.hid hc7
          have HR7 := Lib.hid (HR6.out.below (HLOW.out.eq (show (r2.sent no).sizes = r.sizes from HSa.out.trans HSZ.out)) (hm7.below HM6.out.size HCB.out HCB.out))
          have HM7 := Lib.hid (HM6.out.high hm7 HCB.out HCB.out)
          have HO7 := Lib.hid (hown6.out.chan HC6.out hm7)
          clear hm7 hc7
          go_wp2_with fail
          go_roundw
          case rel => exact ⟨r2.sent no, L, l ++ [((no : Int), ty)], _, rfl, rfl, rfl, ⟨HR7.out, HOK2.out.sent no, ⟨_, HC7.out⟩, HCB.out, fun x hx => by rw [Rn.sent_len]; exact HLB.out x hx, by have := HLN'.out; simp; omega, HX1.out, by have := HX2.out; simpa using this, HO7.out, HM7.out⟩, HSa.out, fun h => by simp at h⟩
          case measure => have := HLN'.out; simp [lenOf]; omega
    · have HGE := Lib.hid (show r'.sizes.length ≤ r'.stage by omega)
      have hd : decide ((r'.stage : Int) < (r'.sizes.length : Int)) = false := decide_eq_false (by omega)
      have hd' : decide (r'.stage < r'.sizes.length) = false := decide_eq_false (by omega)
      clear hlt
      go_wp2_with (go_quiet (fail))
      go_ret
      have hz : beginF (r.sizes.length - r'.stage) r' = (r', []) := by
        rw [← HSZ.out, Nat.sub_eq_zero_of_le HGE.out]; rfl
      have hb := HBF.out
      rw [hz] at hb
      refine ⟨_, rfl, ?_, ?_, ?_, HM1.out.drewN⟩
      · rw [← hb]; exact HR1.out.drewN
      · rw [← hb]; exact HOK1.out
      · rw [← hb]; exact OwnS.nil _ _
end Go.Proofs.Ytpogiondpbfjkaa
