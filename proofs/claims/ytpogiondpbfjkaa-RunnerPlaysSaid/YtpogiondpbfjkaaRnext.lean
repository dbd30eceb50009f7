/- The reference's next. -/
import Derived.Test.YtpogiondpbfjkaaRnp
namespace Go.Proofs.Ytpogiondpbfjkaa
open Go.RowKit Go.Conc
theorem Arr.ne {w : World} {g n Q : Nat} {T : Nat → Int} {cs : Array Value} (h : Arr w g n T) (hQ : w.heap[Q]? = some (.cells cs 48)) : g ≠ Q := fun e => by
  subst e; obtain ⟨c, hb, _⟩ := h; rw [hb] at hQ; simp at hQ
theorem Arr.other {w : World} {g n g' i : Nat} {v : Value} {T : Nat → Int} (h : Arr w g n T) (hne : g ≠ g') : Arr (w.setCell ⟨g', i, none⟩ v) g n T := by
  obtain ⟨cs, hb, hc⟩ := h
  exact ⟨cs, by rw [Below.heap_setCell w ⟨g', i, none⟩ v g hne]; exact hb, hc⟩
theorem Arr.drew {w : World} {g n : Nat} {T : Nat → Int} (h : Arr w g n T) : Arr w.drew g n T := h
theorem Arr.belowB {X y : World} {g n b : Nat} {T : Nat → Int} (h : Arr X g n T) (hg : g < b) (hb : Below b X y) : Arr y g n T := by
  obtain ⟨cs, h1, h2⟩ := h; exact ⟨cs, by rw [hb.block g hg]; exact h1, h2⟩
/-- The reference's blocks lie lower than this. -/
def LowR (b : Nat) (B : RefB) (r : Rn) : Prop := B.Q < b ∧ B.gd < b ∧ B.go < b ∧ (r.l = [] ∨ B.tb < b) ∧ (r.sizes = [] ∨ B.sb < b)
theorem RefAt.low {w : World} {B : RefB} {r : Rn} (h : RefAt w B r) : LowR w.heap.size B r := by
  refine ⟨blk_lt h.top, h.drow.lt, h.orow.lt, ?_, ?_⟩
  · rcases h.trow with h | ⟨_, h⟩
    · exact .inl h
    · exact .inr h.lt
  · rcases h.srow with h | ⟨_, h⟩
    · exact .inl h
    · exact .inr h.lt
theorem LowR.eq {b : Nat} {B : RefB} {r r' : Rn} (h : LowR b B r) (hl : r'.l.length = r.l.length) (hs : r'.sizes = r.sizes) : LowR b B r' := by
  obtain ⟨h1, h2, h3, h4, h5⟩ := h
  refine ⟨h1, h2, h3, ?_, by rw [hs]; exact h5⟩
  rcases h4 with h | h
  · exact .inl (List.length_eq_zero_iff.1 (by rw [hl, h]; rfl))
  · exact .inr h
theorem RefAt.below {b : Nat} {X y : World} {B : RefB} {r : Rn} (h : RefAt X B r) (hl : LowR b B r) (hb : Below b X y) : RefAt y B r := by
  obtain ⟨l1, l2, l3, l4, l5⟩ := hl
  refine ⟨by rw [hb.block B.Q l1]; exact h.top, ?_, ?_, h.drow.belowB l2 hb, h.orow.belowB l3 hb⟩
  · rcases h.srow with h | ⟨h1, h2⟩
    · exact .inl h
    · rcases l5 with l | l
      · exact .inl l
      · exact .inr ⟨h1, h2.belowB l hb⟩
  · rcases h.trow with h | ⟨h1, h2⟩
    · exact .inl h
    · rcases l4 with l | l
      · exact .inl l
      · exact .inr ⟨h1, h2.belowB l hb⟩
/-- Its own block is written. -/
theorem RefAt.topset {w w' : World} {B : RefB} {r r' : Rn} (h : RefAt w B r) (hl : r'.l = r.l) (hs : r'.sizes = r.sizes) (hw : ∀ k, k ≠ B.Q → w'.heap[k]? = w.heap[k]?)
    (ht : w'.heap[B.Q]? = some (.cells #[.slice B.As r.sizes.length B.cs, .int .i64 r'.at, .int .i64 r'.now, .slice B.At r.l.length B.ct, .slice (some ⟨B.gd, 0, none⟩) r.l.length r.l.length, .slice (some ⟨B.go, 0, none⟩) r.l.length r.l.length] 48)) : RefAt w' B r' := by
  have hq : ∀ i, r'.rq i = r.rq i := fun i => by unfold Rn.rq; rw [hl]
  have ar : ∀ g n T, Arr w g n T → Arr w' g n T := fun g n T ha => by
    have hne := ha.ne h.top
    obtain ⟨cs, hb, hc⟩ := ha
    exact ⟨cs, by rw [hw g hne]; exact hb, hc⟩
  refine ⟨by rw [hl, hs]; exact ht, ?_, ?_, ?_, ?_⟩
  · rcases h.srow with h | ⟨h1, h2⟩
    · exact .inl (by rw [hs]; exact h)
    · exact .inr ⟨h1, by rw [hs]; exact ar _ _ _ h2⟩
  · rcases h.trow with h | ⟨h1, h2⟩
    · exact .inl (by rw [hl]; exact h)
    · exact .inr ⟨h1, by simp only [hl, hq]; exact ar _ _ _ h2⟩
  · simp only [hl, hq]; exact ar _ _ _ h.drow
  · simp only [hl, hq]; exact ar _ _ _ h.orow
/-- One request is written. -/
theorem RefAt.put {w w' : World} {B : RefB} {r : Rn} {i : Nat} {q : Rq} (h : RefAt w B r) (hi : i < r.l.length) (hQ : w'.heap[B.Q]? = w.heap[B.Q]?) (hs : r.sizes = [] ∨ w'.heap[B.sb]? = w.heap[B.sb]?)
    (ht : Arr w' B.tb r.l.length (fun j => if j = i then q.tries else (r.rq j).tries)) (hd : Arr w' B.gd r.l.length (fun j => if j = i then q.due else (r.rq j).due)) (ho : Arr w' B.go r.l.length (fun j => if j = i then q.out else (r.rq j).out)) : RefAt w' B (r.put i q) := by
  have hl : (r.put i q).l.length = r.l.length := by simp [Rn.put]
  have e : ∀ (f : Rq → Int) (j : Nat), (if j = i then f q else f (r.rq j)) = f ((r.put i q).rq j) := fun f j => by
    rw [put_rq r i j q hi]; split <;> rfl
  refine ⟨?_, ?_, ?_, ?_, ?_⟩
  · rw [hQ, h.top, hl]; rfl
  · rcases h.srow with h | ⟨h1, cs, h2, h3⟩
    · exact .inl h
    · rcases hs with hs | hs
      · exact .inl hs
      · exact .inr ⟨h1, cs, by rw [hs]; exact h2, h3⟩
  · rcases h.trow with h | ⟨h1, h2⟩
    · rw [h] at hi; simp at hi
    · exact .inr ⟨h1, by rw [hl]; exact ht.eq fun j _ => (e Rq.tries j).symm⟩
  · rw [hl]; exact hd.eq fun j _ => (e Rq.due j).symm
  · rw [hl]; exact ho.eq fun j _ => (e Rq.out j).symm
theorem RefAt.tries_at {w : World} {B : RefB} {r : Rn} (h : RefAt w B r) {i : Nat} (hi : i < r.l.length) : B.At = some ⟨B.tb, 0, none⟩ ∧ Arr w B.tb r.l.length (fun i => (r.rq i).tries) := by
  rcases h.trow with h | h
  · rw [h] at hi; simp at hi
  · exact h
/-- What a method of the reference that sends gives. -/
def RGives (w : World) (B : RefB) (x : Rn × List (Int × Int)) (e : Ending) (w' : World) : Prop :=
  ∃ v, e = .returned v ∧ RefAt w' B x.1 ∧ x.1.Fine ∧ OwnS w.heap.size w' v x.2 ∧ MovedR w w' B
def atOf (w : World) (Q : Nat) : Int := match w.cell? ⟨Q, 1, none⟩ with | some v => intOf v | none => 0
theorem RefAt.atOf {w : World} {B : RefB} {r : Rn} (h : RefAt w B r) : atOf w B.Q = r.at := by
  have := (blk_cells h.top).1 1
  simp at this
  simp [Ytpogiondpbfjkaa.atOf, this, intOf]
/-- What holds ahead of a round of next's outer loop. -/
def NInv (w : World) (B : RefB) (r r' : Rn) (l : List (Int × Int)) (v : Value) (wr : World) : Prop :=
  RefAt wr B r' ∧ r'.Fine ∧ r'.sizes = r.sizes ∧ r'.l.length = r.l.length ∧ r'.nx.1 = r.nx.1 ∧ l ++ r'.nx.2 = r.nx.2 ∧ OwnS w.heap.size wr v l ∧ l.length ≤ r'.rfin ∧ MovedR w wr B
theorem OwnS.movedR {b : Nat} {X y : World} {v : Value} {L : List (Int × Int)} {B : RefB} (h : OwnS b X v L) (hm : MovedR X y B) (hl : B.Q < b ∧ B.tb < b ∧ B.gd < b ∧ B.go < b) : OwnS b y v L := h.stays fun g o hB hg =>
  hm.block g (blk_lt hg) (by omega) (by omega) (by omega) (by omega)
set_option maxHeartbeats 4000000 in
set_option maxRecDepth 100000 in
theorem rnext_any {B : RefB} {r : Rn} (w : World) (h : RefAt w B r) (hap : B.Apart) (hf : r.Fine) (htb : B.tb < w.heap.size) :
    Calls Try.prog 36 #[.pointer (some ⟨B.Q, 0, none⟩)] w (RGives w B r.nx) := by
  have HR := Lib.hid h
  have HF := Lib.hid hf
  have HAP := Lib.hid hap
  have HL := Lib.hid h.low
  have HLB := Lib.hid (show B.Q < w.heap.size ∧ B.tb < w.heap.size ∧ B.gd < w.heap.size ∧ B.go < w.heap.size from ⟨blk_lt h.top, htb, h.drow.lt, h.orow.lt⟩)
  clear h hf hap
  go_enter Try.func36, Try.ntmps36
  go_wp2_with fail
  go_loopw [3] (fun s3 wr => ∃ (r' : Rn) (l : List (Int × Int)) (A : Option Addr) (c : Nat), s3 = .slice A l.length c ∧ NInv w B r r' l (.slice A l.length c) wr) (fun _ wr => (r.sizes.length + 1) - (atOf wr B.Q + 1).toNat)
  case atStart => exact ⟨r, [], none, 0, rfl, HR.out, HF.out, rfl, rfl, rfl, rfl, OwnS.nil _ _, Nat.zero_le _, MovedR.same _ _⟩
  case round =>
    obtain ⟨r', l, A, c, rfl, hr, hfine, hsz, hln, hn1, hn2, hown, hll, hmv⟩ := hrel
    have HR1 := Lib.hid hr
    have HF1 := Lib.hid hfine
    have HSZ := Lib.hid hsz
    have HLN := Lib.hid hln
    have HN1 := Lib.hid hn1
    have HN2 := Lib.hid hn2
    have HO1 := Lib.hid hown
    have HLL := Lib.hid hll
    have HM1 := Lib.hid hmv
    have HAT := Lib.hid hr.atOf
    obtain ⟨c1, z1⟩ := blk_cells hr.top
    clear hr hfine hsz hln hn1 hn2 hown hll hmv
    by_cases hend : r'.started = true ∧ r'.sizes.length ≤ r'.stage
    · have hat : r'.at = (r'.stage : Int) := by unfold Rn.at; rw [if_pos hend.1]
      rw [hat] at c1
      have hd : decide (r'.stage < r'.sizes.length) = false := decide_eq_false (by omega)
      have hd' : decide ((r'.stage : Int) < (r'.sizes.length : Int)) = false := decide_eq_false (by omega)
      have HX := Lib.hid (nx_stop hend.1 (.inl hend.2))
      clear hend hat
      go_wp2_with (go_quiet (fail))
      go_ret
      have h1 := HN1.out
      have h2 := HN2.out
      rw [HX.out] at h1 h2
      refine ⟨_, rfl, ?_, ?_, ?_, HM1.out.drewN⟩
      · rw [← h1]; exact HR1.out.drewN
      · rw [← h1]; exact HF1.out
      · rw [← h2, List.append_nil]; exact HO1.out.drewN
    · have hgo : r'.at < (r'.sizes.length : Int) := by
        unfold Rn.at
        split
        · rename_i hs; have : ¬ r'.sizes.length ≤ r'.stage := fun hh => hend ⟨hs, hh⟩; omega
        · omega
      have HGO := Lib.hid (show r'.started = true → r'.stage < r'.sizes.length from fun hs => by have : ¬ r'.sizes.length ≤ r'.stage := fun hh => hend ⟨hs, hh⟩; omega)
      have hd : decide (r'.at < (r'.sizes.length : Int)) = true := decide_eq_true hgo
      clear hend hgo
      go_wp2_with (go_quiet (fail))
      have HR2 := Lib.hid (HR1.out.drewN (n := nq))
      have HM2 := Lib.hid (HM1.out.drewN (n := nq))
      have HO2 := Lib.hid (HO1.out.drewN (n := nq))
      have HA2 := Lib.hid (show atOf (wr.drewN nq) B.Q = r'.at from HAT.out)
      have HA1 := Lib.hid (show atOf wr B.Q = r'.at from HAT.out)
      clear c1 z1 hd
      obtain ⟨w2, hw2⟩ : ∃ w2, wr.drewN nq = w2 := ⟨_, rfl⟩
      rw [hw2] at HR2 HM2 HO2 HA2 ⊢
      clear hw2
      refine (bounds_any w2 HR2.out HF1.out.ok HF1.out.ok0).mono ?_
      rintro e w3 ⟨rfl, n3, rfl⟩
      have HR3 := Lib.hid (HR2.out.drewN (n := n3))
      have HM3 := Lib.hid (HM2.out.drewN (n := n3))
      have HO3 := Lib.hid (HO2.out.drewN (n := n3))
      generalize w2.drewN n3 = w3 at *
      go_wp2_with fail
      have hrl : r'.first ≤ r'.rfin ∧ r'.rfin ≤ r'.l.length := by
        have := HF1.out.ok.fin_le
        unfold Rn.rfin
        split <;> omega
      have hrk : r'.l.length ≤ 1000 := HF1.out.ok.few
      have HRL := Lib.hid hrl
      obtain ⟨c3, z3⟩ := blk_cells HR3.out.top
      go_loopw [6, 7] (fun s6 s7 wx => ∃ (k : Nat) (b : Bool), s7 = .int .i64 k ∧ s6 = .bool b ∧ r'.first ≤ k ∧ k ≤ r'.rfin ∧ (b = true ↔ ∀ j, r'.first ≤ j → j < k → (r'.rq j).out ≠ 0) ∧ wx = w3) (fun _ s7 _ => r'.rfin - (intOf s7).toNat)
      case atStart => exact ⟨r'.first, true, rfl, rfl, Nat.le_refl _, hrl.1, ⟨fun _ j h1 h2 => by omega, fun _ => rfl⟩, rfl⟩
      case round =>
        obtain ⟨k, b, rfl, rfl, hk1, hk2, hbb, hwx⟩ := hrel
        rw [hwx]
        clear hwx
        have HBB := Lib.hid hbb
        clear hbb
        by_cases hlt : k < r'.rfin
        · have hdk : decide (k < r'.rfin) = true := decide_eq_true hlt
          have HLT := Lib.hid hlt
          have hkl : k < r'.l.length := by omega
          have hkl' : (k : Int) < (r'.l.length : Int) := by omega
          have hcell := HR3.out.orow.cell hkl
          rcases b with _ | _
          · clear hlt hkl hcell
            go_wp2_with fail
            go_roundw
            case rel => exact ⟨k + 1, false, by go_num, rfl, by omega, HLT.out, ⟨fun h => (by cases h), fun h => HBB.out.2 fun j h1 h2 => h j h1 (by omega)⟩, trivial⟩
            case measure => have := HLT.out; simp [intOf]; omega
          · by_cases ho : (r'.rq k).out = 0
            · have HOO := Lib.hid ho
              rw [ho] at hcell
              clear hlt hkl ho
              go_wp2_with fail
              go_roundw
              case rel => exact ⟨k + 1, false, by go_num, rfl, by omega, HLT.out, ⟨fun h => (by cases h), fun h => absurd HOO.out (h k (by omega) (by omega))⟩, trivial⟩
              case measure => have := HLT.out; simp [intOf]; omega
            · have HOO := Lib.hid ho
              obtain ⟨o, hoo⟩ : ∃ o, (r'.rq k).out = o := ⟨_, rfl⟩
              rw [hoo] at hcell ho
              have hne : (o != 0) = true := bne_iff_ne.2 ho
              clear hlt hkl ho hoo
              go_wp2_with fail
              go_roundw
              case rel => exact ⟨k + 1, true, by go_num, rfl, by omega, HLT.out, ⟨fun _ j h1 h2 => by
                by_cases hj : j = k
                · rw [hj]; exact HOO.out
                · exact HBB.out.1 rfl j h1 (by omega), fun _ => rfl⟩, trivial⟩
              case measure => have := HLT.out; simp [intOf]; omega
        · obtain rfl : k = r'.rfin := by omega
          have hdk : decide (r'.rfin < r'.rfin) = false := decide_eq_false (by omega)
          have hop : r'.started = true → (b = true ↔ r'.opens = []) := fun hs => by
            rw [opens_empty, HBB.out]
            unfold Rn.rfin
            rw [if_pos hs]
          have HOP := Lib.hid hop
          clear hlt hop
          rcases hs : r'.started with _ | _
          · have hat : r'.at = -1 := by simp [Rn.at, hs]
            have HSS := Lib.hid hs
            have HOPE := Lib.hid (show r'.started = true → r'.opens = [] from fun e => by rw [HSS.out] at e; cases e)
            have hneg : decide ((0 : Int) ≤ r'.at) = false := decide_eq_false (by omega)
            clear hs hat
            have HST := Lib.hid (nx_step HF1.out (fun hs => ⟨HGO.out hs, HOPE.out hs⟩))
            have hst1 := HF1.out.ok.stages
            have hst2 := HF1.out.ok.stage
            go_wp2_with fail
            have hupa := up_at r' HF1.out.ok0
            have HUOK := Lib.hid (up_ok HF1.out.ok HGO.out)
            have huat : r'.up.at = r'.at + 1 := by
              unfold Rn.at
              rw [if_pos (up_started r'), hupa]; rfl
            have HUA := Lib.hid huat
            have hwr : wrap64 (r'.at + 1) = r'.up.at := by
              rw [huat]
              rw [IntWalk.wrap64_in _ (by unfold Rn.at; split <;> omega)]
            have HR4 := Lib.hid (show RefAt (w3.setCell ⟨B.Q, 1, none⟩ (.int .i64 (wrap64 (r'.at + 1)))) B r'.up from HR3.out.topset (up_l r') (up_sizes r') (fun k hk => Below.heap_setCell w3 ⟨B.Q, 1, none⟩ _ k hk) (by rw [hwr, up_now]; exact heap_set_same HR3.out.top))
            have HM4 := Lib.hid (show MovedR w (w3.setCell ⟨B.Q, 1, none⟩ (.int .i64 (wrap64 (r'.at + 1)))) B from HM3.out.set (.inl rfl))
            have HO4 := Lib.hid (show OwnS w.heap.size (w3.setCell ⟨B.Q, 1, none⟩ (.int .i64 (wrap64 (r'.at + 1)))) _ l from HO3.out.movedR ((MovedR.same _ _).set (.inl rfl)) HLB.out)
            clear hupa huat hwr c3 z3
            generalize w3.setCell ⟨B.Q, 1, none⟩ (.int .i64 (wrap64 (r'.at + 1))) = w4 at *
            refine (bounds_any w4 HR4.out HUOK.out (fun e => by rw [up_started] at e; cases e)).mono ?_
            rintro e w5 ⟨rfl, n5, rfl⟩
            have HR5 := Lib.hid (HR4.out.drewN (n := n5))
            have HM5 := Lib.hid (HM4.out.drewN (n := n5))
            have HO5 := Lib.hid (HO4.out.drewN (n := n5))
            generalize w4.drewN n5 = w5 at *
            have hurf : r'.up.rfin = r'.up.fin := by unfold Rn.rfin; rw [if_pos (up_started r')]
            rw [hurf]
            clear hurf
            have hufl := HUOK.out.fin_le
            have hufew := HUOK.out.few
            have HUFL := Lib.hid hufl
            go_wp2_with fail
            go_loopw [3, 8] (fun s3 s8 wx => ∃ (k : Nat) (rk : Rn) (lk : List (Int × Int)) (Ak : Option Addr) (ck : Nat), s8 = .int .i64 k ∧ s3 = .slice Ak lk.length ck ∧ r'.up.first ≤ k ∧ k ≤ r'.up.fin ∧ RefAt wx B rk ∧ rk.Ok ∧ Alike r'.up rk ∧ (∀ j, k ≤ j → rk.rq j = r'.up.rq j) ∧ (sendAll rk (List.range' k (r'.up.fin - k))).1 = r'.up.lot.1 ∧ lk ++ (sendAll rk (List.range' k (r'.up.fin - k))).2 = l ++ r'.up.lot.2 ∧ OwnS w.heap.size wx (.slice Ak lk.length ck) lk ∧ lk.length ≤ k ∧ MovedR w wx B) (fun _ s8 _ => r'.up.fin - (intOf s8).toNat)
            case atStart => exact ⟨r'.up.first, r'.up, l, A, c, rfl, rfl, Nat.le_refl _, hufl.1, HR5.out, HUOK.out, Alike.refl _, fun _ _ => rfl, rfl, rfl, HO5.out, by rw [up_first]; exact HLL.out, HM5.out⟩
            case round =>
              obtain ⟨k, rk, lk, Ak, ck, rfl, rfl, hk1, hk2, hrk, hokk, halk, hrqk, hs1, hs2, hownk, hlk, hmk⟩ := hrel
              have HRk := Lib.hid hrk
              have HOKk := Lib.hid hokk
              have HALk := Lib.hid halk
              have HRQk := Lib.hid hrqk
              have HS1 := Lib.hid hs1
              have HS2 := Lib.hid hs2
              have HOk := Lib.hid hownk
              have HLk := Lib.hid hlk
              have HMk := Lib.hid hmk
              clear hrk hokk halk hrqk hs1 hs2 hownk hlk hmk
              by_cases hku : k < r'.up.fin
              · have hdu : decide (k < r'.up.fin) = true := decide_eq_true hku
                have HKU := Lib.hid hku
                have hkN : k < rk.l.length := by rw [HALk.out.len]; omega
                have HKN := Lib.hid hkN
                have hkN' : (k : Int) < (rk.l.length : Int) := by omega
                obtain ⟨hBt, hta⟩ := HRk.out.tries_at hkN
                have HTA := Lib.hid hta
                have hct := hta.cell hkN
                have hcd := HRk.out.drow.cell hkN
                have hmt := hta.melt
                have hmd := HRk.out.drow.melt
                obtain ⟨ck', zk'⟩ := blk_cells HRk.out.top
                rw [hBt] at ck'
                have hnow : rk.now = r'.now := by rw [HALk.out.now, up_now]
                have HNOW := Lib.hid hnow
                have hrq0 : rk.rq k = ⟨0, 0, 0⟩ := by
                  rw [HRQk.out k (Nat.le_refl _), up_rq]
                  exact HF1.out.fresh k (by rw [← up_first]; exact hk1) (by have := up_l r'; rw [← this]; omega)
                have HRQ0 := Lib.hid hrq0
                have HLS := Lib.hid (lot_step hku)
                rw [HLS.out] at HS1 HS2
                have HSE := Lib.hid (show sendAll rk (k :: List.range' (k + 1) (r'.up.fin - (k + 1))) = ((sendAll (rk.sent k) (List.range' (k + 1) (r'.up.fin - (k + 1)))).1, ((k : Int), 1) :: (sendAll (rk.sent k) (List.range' (k + 1) (r'.up.fin - (k + 1)))).2) by
                  show (_, ((k : Int), wrap64 ((rk.rq k).tries + 1)) :: _) = _
                  rw [hrq0]
                  show (_, ((k : Int), wrap64 ((0 : Int) + 1)) :: _) = _
                  rw [wrap_one])
                rw [HSE.out] at HS1 HS2
                have hne1 : B.tb ≠ B.gd := HAP.out.td
                have hne2 : B.gd ≠ B.tb := Ne.symm hne1
                have hne3 : B.tb ≠ B.Q := hta.ne HRk.out.top
                have hne4 : B.gd ≠ B.Q := HRk.out.drow.ne HRk.out.top
                have hRB := blk_lt HRk.out.top
                clear hku hta hrq0 hnow
                go_upto_region 16 with fail
                go_region
                all_goals
                  have HRX := Lib.hid (show RefAt (((wr.setCell ⟨B.tb, k, none⟩ (.int .i64 1)).setCell ⟨B.gd, k, none⟩ (.int .i64 (wrap64 (rk.now + 10)))).drew) B (rk.sent k) from by
                    have he : rk.sent k = rk.put k ⟨1, wrap64 (rk.now + 10), 0⟩ := by
                      unfold Rn.sent
                      rw [HRQ0.out]
                      show rk.put k ⟨wrap64 ((0 : Int) + 1), _, _⟩ = _
                      rw [wrap_one]
                    rw [he]
                    refine HRk.out.put HKN.out ?_ ?_ ?_ ?_ ?_
                    · show ((wr.setCell ⟨B.tb, k, none⟩ (.int .i64 1)).setCell ⟨B.gd, k, none⟩ (.int .i64 (wrap64 (rk.now + 10)))).heap[B.Q]? = _
                      rw [Below.heap_setCell _ ⟨B.gd, k, none⟩ _ _ (Ne.symm hne4), Below.heap_setCell _ ⟨B.tb, k, none⟩ _ _ (Ne.symm hne3)]
                    · refine .inr ?_
                      show ((wr.setCell ⟨B.tb, k, none⟩ (.int .i64 1)).setCell ⟨B.gd, k, none⟩ (.int .i64 (wrap64 (rk.now + 10)))).heap[B.sb]? = _
                      rw [Below.heap_setCell _ ⟨B.gd, k, none⟩ _ _ HAP.out.sd, Below.heap_setCell _ ⟨B.tb, k, none⟩ _ _ HAP.out.st]
                    · exact ((HTA.out.set k HKN.out 1).other hne1).drew
                    · exact ((HRk.out.drow.other hne2).set k HKN.out (wrap64 (rk.now + 10))).drew
                    · exact (((HRk.out.orow.other (Ne.symm HAP.out.tgo)).other (Ne.symm HAP.out.gdo)).drew).eq fun j _ => by
                        show (if j = k then (0 : Int) else (rk.rq j).out) = (rk.rq j).out
                        by_cases hj : j = k
                        · rw [if_pos hj, hj, HRQ0.out]
                        · rw [if_neg hj])
                  have HMX := Lib.hid (show MovedR w (((wr.setCell ⟨B.tb, k, none⟩ (.int .i64 1)).setCell ⟨B.gd, k, none⟩ (.int .i64 (wrap64 (rk.now + 10)))).drew) B from ((HMk.out.set (.inr (.inl rfl))).set (.inr (.inr (.inl rfl)))).drew)
                  have HOX := Lib.hid (show OwnS w.heap.size (((wr.setCell ⟨B.tb, k, none⟩ (.int .i64 1)).setCell ⟨B.gd, k, none⟩ (.int .i64 (wrap64 (rk.now + 10)))).drew) _ lk from HOk.out.movedR ((((MovedR.same _ _).set (.inr (.inl rfl))).set (.inr (.inr (.inl rfl)))).drew) HLB.out)
                  clear hct hcd hmt hmd ck' zk' hne1 hne2 hne3 hne4 hRB
                  generalize (((wr.setCell ⟨B.tb, k, none⟩ (.int .i64 1)).setCell ⟨B.gd, k, none⟩ (.int .i64 (wrap64 (rk.now + 10)))).drew) = wX at *
                  go_wp2_with (at_builtin; refine appendS rfl (.tmp 86) (.tmp 89) rfl w.heap.size _ lk rfl ?hown (some ⟨wX.heap.size, 0, none⟩) 1 1 [((k : Int), 1)] rfl rfl ?hA (fun h => by cases h) ?hmax ?hbase ?_)
                  case hown => exact HOX.out.keep (below_new (Below.refl _ _) _)
                  case hA => exact readS_one rfl
                  case hmax => have := HLk.out; omega
                  case hbase => exact Nat.le_trans HMX.out.size (by simp)
                  intro A6 c6 w6 hown6 hb6 hg6
                  have HB6 := Lib.hid (hb6 wX (Below.alloc (Below.refl _ _) HMX.out.size _))
                  have HR6 := Lib.hid (HRX.out.below (HL.out.eq (show (rk.sent k).l.length = r.l.length by rw [Rn.sent_len, HALk.out.len, up_l, HLN.out]) (show (rk.sent k).sizes = r.sizes by show rk.sizes = _; rw [HALk.out.sizes, up_sizes, HSZ.out])) HB6.out)
                  have HM6 := Lib.hid (HMX.out.then HB6.out)
                  clear hb6 hg6
                  go_wp2_with fail
                  go_roundw
                  case rel => exact ⟨k + 1, rk.sent k, lk ++ [((k : Int), 1)], A6, c6, by go_num, by rw [List.length_append]; rfl, by omega, HKU.out, HR6.out, HOKk.out.sent k, HALk.out.trans (Alike.put _ _ _), fun j hj => by rw [sent_rq rk k j HKN.out, if_neg (by omega)]; exact HRQk.out j (by omega), HS1.out, by have := HS2.out; simpa using this, by rw [List.length_append]; exact hown6.out, by have := HLk.out; simp; omega, HM6.out⟩
                  case measure => have := HKU.out; simp [intOf]; omega
              · obtain rfl : k = r'.up.fin := by omega
                have hdu : decide (r'.up.fin < r'.up.fin) = false := decide_eq_false (by omega)
                rw [Nat.sub_self] at HS1 HS2
                have HK1 := Lib.hid (show rk = r'.up.lot.1 from HS1.out)
                have HK2 := Lib.hid (show lk = l ++ r'.up.lot.2 from by have := HS2.out; simpa [sendAll] using this)
                clear hku
                go_wp2_with fail
                go_roundw
                case rel =>
                  obtain ⟨t1, t2, t3, t4, t5, t6, t7⟩ := HST.out
                  refine ⟨rk, lk, Ak, ck, rfl, HRk.out, by rw [HK1.out]; exact t3, by rw [HK1.out, t6]; exact HSZ.out, by rw [HALk.out.len, up_l]; exact HLN.out, by rw [HK1.out, ← t1]; exact HN1.out, ?_, HOk.out, by rw [HK1.out, t7]; exact HLk.out, HMk.out⟩
                  have := HN2.out
                  rw [t2] at this
                  rw [HK1.out, HK2.out, List.append_assoc]; exact this
                case measure =>
                  obtain ⟨t1, t2, t3, t4, t5, t6, t7⟩ := HST.out
                  have h1 : atOf wr B.Q = r'.at + 1 := by
                    rw [HRk.out.atOf, HK1.out, ← HUA.out]
                    unfold Rn.at
                    rw [if_pos t4, if_pos (up_started r'), t5]
                  have h2 := HA1.out
                  have h3 := congrArg List.length HSZ.out
                  have h4 : r'.at + 1 ≤ (r.sizes.length : Int) ∧ -1 ≤ r'.at := by
                    unfold Rn.at
                    split
                    · rename_i hh; have := HGO.out hh; omega
                    · omega
                  rw [h1]
                  omega
          · have hat : r'.at = (r'.stage : Int) := by simp [Rn.at, hs]
            have HSS := Lib.hid hs
            have hneg : decide ((0 : Int) ≤ r'.at) = true := decide_eq_true (by omega)
            clear hs hat
            rcases b with _ | _
            · skip
              have HX := Lib.hid (nx_stop HSS.out (.inr (fun e => by have := (HOP.out HSS.out).2 e; cases this)))
              go_wp2_with fail
              go_ret
              have h1 := HN1.out
              have h2 := HN2.out
              rw [HX.out] at h1 h2
              refine ⟨_, rfl, ?_, ?_, ?_, HM3.out⟩
              · rw [← h1]; exact HR3.out
              · rw [← h1]; exact HF1.out
              · rw [← h2, List.append_nil]; exact HO3.out
            · have HOPE := Lib.hid (show r'.started = true → r'.opens = [] from fun e => (HOP.out e).1 rfl)
              have HST := Lib.hid (nx_step HF1.out (fun hs => ⟨HGO.out hs, HOPE.out hs⟩))
              have hst1 := HF1.out.ok.stages
              have hst2 := HF1.out.ok.stage
              go_wp2_with fail
              have hupa := up_at r' HF1.out.ok0
              have HUOK := Lib.hid (up_ok HF1.out.ok HGO.out)
              have huat : r'.up.at = r'.at + 1 := by
                unfold Rn.at
                rw [if_pos (up_started r'), hupa]; rfl
              have HUA := Lib.hid huat
              have hwr : wrap64 (r'.at + 1) = r'.up.at := by
                rw [huat]
                rw [IntWalk.wrap64_in _ (by unfold Rn.at; split <;> omega)]
              have HR4 := Lib.hid (show RefAt (w3.setCell ⟨B.Q, 1, none⟩ (.int .i64 (wrap64 (r'.at + 1)))) B r'.up from HR3.out.topset (up_l r') (up_sizes r') (fun k hk => Below.heap_setCell w3 ⟨B.Q, 1, none⟩ _ k hk) (by rw [hwr, up_now]; exact heap_set_same HR3.out.top))
              have HM4 := Lib.hid (show MovedR w (w3.setCell ⟨B.Q, 1, none⟩ (.int .i64 (wrap64 (r'.at + 1)))) B from HM3.out.set (.inl rfl))
              have HO4 := Lib.hid (show OwnS w.heap.size (w3.setCell ⟨B.Q, 1, none⟩ (.int .i64 (wrap64 (r'.at + 1)))) _ l from HO3.out.movedR ((MovedR.same _ _).set (.inl rfl)) HLB.out)
              clear hupa huat hwr c3 z3
              generalize w3.setCell ⟨B.Q, 1, none⟩ (.int .i64 (wrap64 (r'.at + 1))) = w4 at *
              refine (bounds_any w4 HR4.out HUOK.out (fun e => by rw [up_started] at e; cases e)).mono ?_
              rintro e w5 ⟨rfl, n5, rfl⟩
              have HR5 := Lib.hid (HR4.out.drewN (n := n5))
              have HM5 := Lib.hid (HM4.out.drewN (n := n5))
              have HO5 := Lib.hid (HO4.out.drewN (n := n5))
              generalize w4.drewN n5 = w5 at *
              have hurf : r'.up.rfin = r'.up.fin := by unfold Rn.rfin; rw [if_pos (up_started r')]
              rw [hurf]
              clear hurf
              have hufl := HUOK.out.fin_le
              have hufew := HUOK.out.few
              have HUFL := Lib.hid hufl
              go_wp2_with fail
              go_loopw [3, 8] (fun s3 s8 wx => ∃ (k : Nat) (rk : Rn) (lk : List (Int × Int)) (Ak : Option Addr) (ck : Nat), s8 = .int .i64 k ∧ s3 = .slice Ak lk.length ck ∧ r'.up.first ≤ k ∧ k ≤ r'.up.fin ∧ RefAt wx B rk ∧ rk.Ok ∧ Alike r'.up rk ∧ (∀ j, k ≤ j → rk.rq j = r'.up.rq j) ∧ (sendAll rk (List.range' k (r'.up.fin - k))).1 = r'.up.lot.1 ∧ lk ++ (sendAll rk (List.range' k (r'.up.fin - k))).2 = l ++ r'.up.lot.2 ∧ OwnS w.heap.size wx (.slice Ak lk.length ck) lk ∧ lk.length ≤ k ∧ MovedR w wx B) (fun _ s8 _ => r'.up.fin - (intOf s8).toNat)
              case atStart => exact ⟨r'.up.first, r'.up, l, A, c, rfl, rfl, Nat.le_refl _, hufl.1, HR5.out, HUOK.out, Alike.refl _, fun _ _ => rfl, rfl, rfl, HO5.out, by rw [up_first]; exact HLL.out, HM5.out⟩
              case round =>
                obtain ⟨k, rk, lk, Ak, ck, rfl, rfl, hk1, hk2, hrk, hokk, halk, hrqk, hs1, hs2, hownk, hlk, hmk⟩ := hrel
                have HRk := Lib.hid hrk
                have HOKk := Lib.hid hokk
                have HALk := Lib.hid halk
                have HRQk := Lib.hid hrqk
                have HS1 := Lib.hid hs1
                have HS2 := Lib.hid hs2
                have HOk := Lib.hid hownk
                have HLk := Lib.hid hlk
                have HMk := Lib.hid hmk
                clear hrk hokk halk hrqk hs1 hs2 hownk hlk hmk
                by_cases hku : k < r'.up.fin
                · have hdu : decide (k < r'.up.fin) = true := decide_eq_true hku
                  have HKU := Lib.hid hku
                  have hkN : k < rk.l.length := by rw [HALk.out.len]; omega
                  have HKN := Lib.hid hkN
                  have hkN' : (k : Int) < (rk.l.length : Int) := by omega
                  obtain ⟨hBt, hta⟩ := HRk.out.tries_at hkN
                  have HTA := Lib.hid hta
                  have hct := hta.cell hkN
                  have hcd := HRk.out.drow.cell hkN
                  have hmt := hta.melt
                  have hmd := HRk.out.drow.melt
                  obtain ⟨ck', zk'⟩ := blk_cells HRk.out.top
                  rw [hBt] at ck'
                  have hnow : rk.now = r'.now := by rw [HALk.out.now, up_now]
                  have HNOW := Lib.hid hnow
                  have hrq0 : rk.rq k = ⟨0, 0, 0⟩ := by
                    rw [HRQk.out k (Nat.le_refl _), up_rq]
                    exact HF1.out.fresh k (by rw [← up_first]; exact hk1) (by have := up_l r'; rw [← this]; omega)
                  have HRQ0 := Lib.hid hrq0
                  have HLS := Lib.hid (lot_step hku)
                  rw [HLS.out] at HS1 HS2
                  have HSE := Lib.hid (show sendAll rk (k :: List.range' (k + 1) (r'.up.fin - (k + 1))) = ((sendAll (rk.sent k) (List.range' (k + 1) (r'.up.fin - (k + 1)))).1, ((k : Int), 1) :: (sendAll (rk.sent k) (List.range' (k + 1) (r'.up.fin - (k + 1)))).2) by
                    show (_, ((k : Int), wrap64 ((rk.rq k).tries + 1)) :: _) = _
                    rw [hrq0]
                    show (_, ((k : Int), wrap64 ((0 : Int) + 1)) :: _) = _
                    rw [wrap_one])
                  rw [HSE.out] at HS1 HS2
                  have hne1 : B.tb ≠ B.gd := HAP.out.td
                  have hne2 : B.gd ≠ B.tb := Ne.symm hne1
                  have hne3 : B.tb ≠ B.Q := hta.ne HRk.out.top
                  have hne4 : B.gd ≠ B.Q := HRk.out.drow.ne HRk.out.top
                  have hRB := blk_lt HRk.out.top
                  clear hku hta hrq0 hnow
                  go_upto_region 16 with fail
                  go_region
                  all_goals
                    have HRX := Lib.hid (show RefAt (((wr.setCell ⟨B.tb, k, none⟩ (.int .i64 1)).setCell ⟨B.gd, k, none⟩ (.int .i64 (wrap64 (rk.now + 10)))).drew) B (rk.sent k) from by
                      have he : rk.sent k = rk.put k ⟨1, wrap64 (rk.now + 10), 0⟩ := by
                        unfold Rn.sent
                        rw [HRQ0.out]
                        show rk.put k ⟨wrap64 ((0 : Int) + 1), _, _⟩ = _
                        rw [wrap_one]
                      rw [he]
                      refine HRk.out.put HKN.out ?_ ?_ ?_ ?_ ?_
                      · show ((wr.setCell ⟨B.tb, k, none⟩ (.int .i64 1)).setCell ⟨B.gd, k, none⟩ (.int .i64 (wrap64 (rk.now + 10)))).heap[B.Q]? = _
                        rw [Below.heap_setCell _ ⟨B.gd, k, none⟩ _ _ (Ne.symm hne4), Below.heap_setCell _ ⟨B.tb, k, none⟩ _ _ (Ne.symm hne3)]
                      · refine .inr ?_
                        show ((wr.setCell ⟨B.tb, k, none⟩ (.int .i64 1)).setCell ⟨B.gd, k, none⟩ (.int .i64 (wrap64 (rk.now + 10)))).heap[B.sb]? = _
                        rw [Below.heap_setCell _ ⟨B.gd, k, none⟩ _ _ HAP.out.sd, Below.heap_setCell _ ⟨B.tb, k, none⟩ _ _ HAP.out.st]
                      · exact ((HTA.out.set k HKN.out 1).other hne1).drew
                      · exact ((HRk.out.drow.other hne2).set k HKN.out (wrap64 (rk.now + 10))).drew
                      · exact (((HRk.out.orow.other (Ne.symm HAP.out.tgo)).other (Ne.symm HAP.out.gdo)).drew).eq fun j _ => by
                          show (if j = k then (0 : Int) else (rk.rq j).out) = (rk.rq j).out
                          by_cases hj : j = k
                          · rw [if_pos hj, hj, HRQ0.out]
                          · rw [if_neg hj])
                    have HMX := Lib.hid (show MovedR w (((wr.setCell ⟨B.tb, k, none⟩ (.int .i64 1)).setCell ⟨B.gd, k, none⟩ (.int .i64 (wrap64 (rk.now + 10)))).drew) B from ((HMk.out.set (.inr (.inl rfl))).set (.inr (.inr (.inl rfl)))).drew)
                    have HOX := Lib.hid (show OwnS w.heap.size (((wr.setCell ⟨B.tb, k, none⟩ (.int .i64 1)).setCell ⟨B.gd, k, none⟩ (.int .i64 (wrap64 (rk.now + 10)))).drew) _ lk from HOk.out.movedR ((((MovedR.same _ _).set (.inr (.inl rfl))).set (.inr (.inr (.inl rfl)))).drew) HLB.out)
                    clear hct hcd hmt hmd ck' zk' hne1 hne2 hne3 hne4 hRB
                    generalize (((wr.setCell ⟨B.tb, k, none⟩ (.int .i64 1)).setCell ⟨B.gd, k, none⟩ (.int .i64 (wrap64 (rk.now + 10)))).drew) = wX at *
                    go_wp2_with (at_builtin; refine appendS rfl (.tmp 86) (.tmp 89) rfl w.heap.size _ lk rfl ?hown (some ⟨wX.heap.size, 0, none⟩) 1 1 [((k : Int), 1)] rfl rfl ?hA (fun h => by cases h) ?hmax ?hbase ?_)
                    case hown => exact HOX.out.keep (below_new (Below.refl _ _) _)
                    case hA => exact readS_one rfl
                    case hmax => have := HLk.out; omega
                    case hbase => exact Nat.le_trans HMX.out.size (by simp)
                    intro A6 c6 w6 hown6 hb6 hg6
                    have HB6 := Lib.hid (hb6 wX (Below.alloc (Below.refl _ _) HMX.out.size _))
                    have HR6 := Lib.hid (HRX.out.below (HL.out.eq (show (rk.sent k).l.length = r.l.length by rw [Rn.sent_len, HALk.out.len, up_l, HLN.out]) (show (rk.sent k).sizes = r.sizes by show rk.sizes = _; rw [HALk.out.sizes, up_sizes, HSZ.out])) HB6.out)
                    have HM6 := Lib.hid (HMX.out.then HB6.out)
                    clear hb6 hg6
                    go_wp2_with fail
                    go_roundw
                    case rel => exact ⟨k + 1, rk.sent k, lk ++ [((k : Int), 1)], A6, c6, by go_num, by rw [List.length_append]; rfl, by omega, HKU.out, HR6.out, HOKk.out.sent k, HALk.out.trans (Alike.put _ _ _), fun j hj => by rw [sent_rq rk k j HKN.out, if_neg (by omega)]; exact HRQk.out j (by omega), HS1.out, by have := HS2.out; simpa using this, by rw [List.length_append]; exact hown6.out, by have := HLk.out; simp; omega, HM6.out⟩
                    case measure => have := HKU.out; simp [intOf]; omega
                · obtain rfl : k = r'.up.fin := by omega
                  have hdu : decide (r'.up.fin < r'.up.fin) = false := decide_eq_false (by omega)
                  rw [Nat.sub_self] at HS1 HS2
                  have HK1 := Lib.hid (show rk = r'.up.lot.1 from HS1.out)
                  have HK2 := Lib.hid (show lk = l ++ r'.up.lot.2 from by have := HS2.out; simpa [sendAll] using this)
                  clear hku
                  go_wp2_with fail
                  go_roundw
                  case rel =>
                    obtain ⟨t1, t2, t3, t4, t5, t6, t7⟩ := HST.out
                    refine ⟨rk, lk, Ak, ck, rfl, HRk.out, by rw [HK1.out]; exact t3, by rw [HK1.out, t6]; exact HSZ.out, by rw [HALk.out.len, up_l]; exact HLN.out, by rw [HK1.out, ← t1]; exact HN1.out, ?_, HOk.out, by rw [HK1.out, t7]; exact HLk.out, HMk.out⟩
                    have := HN2.out
                    rw [t2] at this
                    rw [HK1.out, HK2.out, List.append_assoc]; exact this
                  case measure =>
                    obtain ⟨t1, t2, t3, t4, t5, t6, t7⟩ := HST.out
                    have h1 : atOf wr B.Q = r'.at + 1 := by
                      rw [HRk.out.atOf, HK1.out, ← HUA.out]
                      unfold Rn.at
                      rw [if_pos t4, if_pos (up_started r'), t5]
                    have h2 := HA1.out
                    have h3 := congrArg List.length HSZ.out
                    have h4 : r'.at + 1 ≤ (r.sizes.length : Int) ∧ -1 ≤ r'.at := by
                      unfold Rn.at
                      split
                      · rename_i hh; have := HGO.out hh; omega
                      · omega
                    rw [h1]
                    omega
end Go.Proofs.Ytpogiondpbfjkaa
