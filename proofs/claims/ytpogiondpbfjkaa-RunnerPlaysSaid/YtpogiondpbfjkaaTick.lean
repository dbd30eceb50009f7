/- Tick: time goes on. -/
import Derived.Test.YtpogiondpbfjkaaSmall
namespace Go.Proofs.Ytpogiondpbfjkaa
open Go.RowKit Go.Conc
/-- One is given up. -/
def Rn.lose (r : Rn) (no : Nat) : Rn := r.put no ⟨(r.rq no).tries, (r.rq no).due, 3⟩
/-- All that are due. -/
def tickAll (r : Rn) : List Nat → Rn × List (Int × Int)
  | [] => (r, [])
  | no :: t => if (r.rq no).tries < 4 then ((tickAll (r.sent no) t).1, ((no : Int), wrap64 ((r.rq no).tries + 1)) :: (tickAll (r.sent no) t).2) else tickAll (r.lose no) t
/-- Time goes on. -/
def Rn.later (r : Rn) (n : Int) : Rn := { r with now := wrap64 (r.now + n) }
def Rn.dues (r : Rn) : List Nat := r.those (dueF r.now) r.first
def Rn.ticked (r : Rn) : Rn × List (Int × Int) := tickAll r r.dues
/-- Tick. -/
def Rn.tick (r : Rn) (n : Int) : Rn × List (Int × Int) :=
  if r.started = false ∨ n < 0 ∨ 1073741824 < n then (r, [])
  else ((r.later n).ticked.1.after.1, (r.later n).ticked.2 ++ (r.later n).ticked.1.after.2)
theorem Rn.Ok.later {r : Rn} (h : r.Ok) (n : Int) : (r.later n).Ok := ⟨h.first, h.all, h.few, h.stages, h.stage⟩
theorem tickAll_ok (r : Rn) (L : List Nat) (h : r.Ok) : (tickAll r L).1.Ok := by
  induction L generalizing r with
  | nil => exact h
  | cons a t ih =>
    unfold tickAll
    split
    · exact ih _ (h.sent a)
    · exact ih _ (h.put _ _)
theorem tickAll_length (r : Rn) (L : List Nat) : (tickAll r L).2.length ≤ L.length := by
  induction L generalizing r with
  | nil => simp [tickAll]
  | cons a t ih =>
    unfold tickAll
    split
    · have := ih (r.sent a); simpa using this
    · have := ih (r.lose a); simp; omega
theorem Rn.lose_len (r : Rn) (no : Nat) : (r.lose no).l.length = r.l.length := by simp [Rn.lose, Rn.put]
theorem Rn.Ok.tick {r : Rn} (h : r.Ok) (n : Int) : (r.tick n).1.Ok := by
  unfold Rn.tick; split
  · exact h
  · exact (tickAll_ok _ _ (h.later n)).after
theorem sendAll_sizes (r : Rn) (L : List Nat) : (sendAll r L).1.sizes = r.sizes := by
  induction L generalizing r with
  | nil => rfl
  | cons a t ih => exact ih _
theorem beginF_sizes (f : Nat) (r : Rn) : (beginF f r).1.sizes = r.sizes := by
  induction f generalizing r with
  | zero => rfl
  | succ f ih =>
    unfold beginF; split
    · exact ih _
    · exact sendAll_sizes _ _
theorem after_sizes (r : Rn) : r.after.1.sizes = r.sizes := by
  unfold Rn.after; split
  · rfl
  · split
    · exact beginF_sizes _ _
    · rfl
theorem opens_length {r : Rn} (h : r.Ok) : r.opens.length ≤ 1000 := by
  have h1 := those_le r (fun q => q.out == 0) r.first
  have h2 := h.fin_le
  have h3 := h.few
  unfold Rn.opens; omega
theorem beginF_length (f : Nat) (r : Rn) (hf : f = r.sizes.length - r.stage) (h : r.Ok) : (beginF f r).2.length ≤ 1000 := by
  induction f generalizing r with
  | zero => simp [beginF]
  | succ f ih =>
    unfold beginF; split
    · exact ih _ (by simp [Rn.adv]; omega) (h.adv (by omega))
    · rw [sendAll_length]; exact opens_length h
theorem after_length {r : Rn} (h : r.Ok) : r.after.2.length ≤ 1000 := by
  unfold Rn.after; split
  · simp
  · split
    · exact beginF_length _ _ rfl (h.adv (by omega))
    · simp
/-- How many a channel holds. -/
def chanLen (w : World) (C : Nat) : Nat := match w.heap[C]? with | some (.chan _ b _ _ _ _) => b.size | _ => 0
theorem ChanAt.len {w : World} {C cap : Nat} {L : List Nat} (h : ChanAt w C cap L) : chanLen w C = L.length := by
  obtain ⟨s, r, h⟩ := h
  simp [chanLen, h]
def moreOf : Value → Nat
  | .bool true => 1
  | _ => 0
theorem cell_moved {X y : World} {D G : Nat} {a : Addr} {v : Value} (h : X.cell? a = some v) (hm : Moved X y D G) (h1 : a.block ≠ D) (h2 : a.block ≠ G) : y.cell? a = some v := by
  have hl : a.block < X.heap.size := by
    unfold World.cell? at h
    rcases hx : X.heap[a.block]? with _ | o
    · rw [hx] at h; simp at h
    · exact blk_lt hx
  rw [World.cell?_of_block (hm.block a.block hl h1 h2)]; exact h
theorem melt_moved {X y : World} {D G : Nat} {a : Addr} (hl : a.block < X.heap.size) (h : X.frozen? a = false) (hm : Moved X y D G) (h1 : a.block ≠ D) (h2 : a.block ≠ G) : y.frozen? a = false := by
  rw [World.frozen?_of_block (hm.block a.block hl h1 h2)]; exact h
/-- What holds ahead of a round of Tick's loop. -/
def TInv (w : World) (R G : Nat) (A : Option Addr) (c : Nat) (S : Option Addr) (sc : Nat) (x : Rn × List (Int × Int)) (C : Nat) (N : Nat) (r' : Rn) (L : List Nat) (l : List (Int × Int)) (v : Value) (wr : World) : Prop :=
  RunAt wr R G A c S sc r' ∧ r'.Ok ∧ (∃ cap, ChanAt wr C cap L.tail) ∧ w.heap.size ≤ C ∧ (∀ no ∈ L, no < r'.l.length) ∧ l.length + L.length ≤ N ∧ (tickAll r' L).1 = x.1 ∧ l ++ (tickAll r' L).2 = x.2 ∧ OwnS w.heap.size wr v l ∧ Moved w wr R G
set_option maxHeartbeats 2000000 in
theorem tick_any {R G : Nat} {A S : Option Addr} {c sc : Nat} {r : Rn} (w : World) (n : Int) (h : RunAt w R G A c S sc r) (hok : r.Ok) :
    Calls Try.prog 17 #[.pointer (some ⟨R, 0, none⟩), .int .i64 n] w (Gives w R G A c S sc (r.tick n)) := by
  have HR := Lib.hid h
  have HOK := Lib.hid hok
  have HLOW := Lib.hid h.low
  obtain ⟨t, ht⟩ := h.top
  have hRl := blk_lt ht
  obtain ⟨c0, z0⟩ := blk_cells ht
  clear h hok ht
  rcases hs : r.started with _ | _
  · have HS := Lib.hid (show r.tick n = (r, []) by unfold Rn.tick; rw [if_pos (.inl hs)])
    rw [hs] at c0
    clear hs
    go_enter Try.func17, Try.ntmps17
    go_wp2_with fail
    go_ret
    rw [HS.out]
    exact ⟨_, rfl, HR.out.keep (below_new (Below.refl _ _) _), HOK.out, OwnS.nil _ _, Moved.of_below (below_new (Below.refl _ _) _)⟩
  · rw [hs] at c0
    by_cases h0 : n < 0
    · have HS := Lib.hid (show r.tick n = (r, []) by unfold Rn.tick; rw [if_pos (.inr (.inl h0))])
      have hd : decide (n < 0) = true := decide_eq_true h0
      clear hs h0
      go_enter Try.func17, Try.ntmps17
      go_wp2_with fail
      go_ret
      rw [HS.out]
      exact ⟨_, rfl, HR.out.keep (below_new (Below.refl _ _) _), HOK.out, OwnS.nil _ _, Moved.of_below (below_new (Below.refl _ _) _)⟩
    · have hd : decide (n < 0) = false := decide_eq_false h0
      by_cases h1 : 1073741824 < n
      · have HS := Lib.hid (show r.tick n = (r, []) by unfold Rn.tick; rw [if_pos (.inr (.inr h1))])
        have hd1 : decide (1073741824 < n) = true := decide_eq_true h1
        clear hs h0 h1
        go_enter Try.func17, Try.ntmps17
        go_wp2_with fail
        go_ret
        rw [HS.out]
        exact ⟨_, rfl, HR.out.keep (below_new (Below.refl _ _) _), HOK.out, OwnS.nil _ _, Moved.of_below (below_new (Below.refl _ _) _)⟩
      · have hd1 : decide (1073741824 < n) = false := decide_eq_false h1
        have HS := Lib.hid (show r.tick n = ((r.later n).ticked.1.after.1, (r.later n).ticked.2 ++ (r.later n).ticked.1.after.2) by unfold Rn.tick; rw [if_neg (by rw [hs]; simp; omega)])
        clear hs h0 h1
        go_enter Try.func17, Try.ntmps17
        go_wp2_with fail
        have HRx : RunAt ((w.setCell ⟨R, 5, none⟩ (.int .i64 (wrap64 (r.now + n)))).alloc (.cells #[.pointer (some ⟨R, 0, none⟩)] 22)) R G A c S sc (r.later n) := by
          refine HR.out.top' rfl rfl (fun k hk hkR => ?_) (fun t ht => ?_)
          · rw [Below.heap_alloc _ _ k (by simpa using hk), Below.heap_setCell _ ⟨R, _, none⟩ _ k hkR]
          · rw [Below.heap_alloc _ _ R (by simpa using hRl)]
            exact heap_setCell_same _ _ _ _ _ _ ht
        have HMx := Lib.hid (show Moved w ((w.setCell ⟨R, 5, none⟩ (.int .i64 (wrap64 (r.now + n)))).alloc (.cells #[.pointer (some ⟨R, 0, none⟩)] 22)) R G from ((Moved.same _ _ _).setD).alloc)
        have HBX := Lib.hid (show ((w.setCell ⟨R, 5, none⟩ (.int .i64 (wrap64 (r.now + n)))).alloc (.cells #[.pointer (some ⟨R, 0, none⟩)] 22)).heap[w.heap.size]? = some (.cells #[.pointer (some ⟨R, 0, none⟩)] 22) from heap_top' (by simp))
        have HOK2 := Lib.hid (HOK.out.later n)
        have HLOW2 := Lib.hid (show Low w.heap.size R G S (r.later n) from HLOW.out.eq rfl)
        clear c0 z0 hd hd1
        generalize ((w.setCell ⟨R, 5, none⟩ (.int .i64 (wrap64 (r.now + n)))).alloc (.cells #[.pointer (some ⟨R, 0, none⟩)] 22)) = w2 at *
        generalize r.later n = r2 at *
        have HR2 := Lib.hid HRx
        obtain ⟨cb, zb⟩ := blk_cells HBX.out
        refine (queue_due _ HR2.out HOK2.out (cb 0)).mono ?_
        clear HRx
        rintro e w3 ⟨C, cap, rfl, hC, hcap, hch, hb3⟩
        have HC3 := Lib.hid hch
        have HR3 := Lib.hid (HR2.out.keep hb3)
        have HM3 := Lib.hid (show Moved w2 w3 R G from Moved.of_below hb3)
        have HCB := Lib.hid hC
        have HOP := Lib.hid (show r2.those (dueF r2.now) r2.first = r2.dues from rfl)
        have HBD := Lib.hid (fun no hn => those_bd (dueF r2.now) HOK2.out no hn)
        have HOL := Lib.hid (show (r2.those (dueF r2.now) r2.first).length ≤ 1000 by
          have h1 := those_le r2 (dueF r2.now) r2.first
          have h2 := HOK2.out.fin_le
          have h3 := HOK2.out.few
          omega)
        rw [HOP.out] at HC3 HBD HOL
        have HTK := Lib.hid (show r2.ticked = tickAll r2 r2.dues from rfl)
        have HL2 := Lib.hid (HLOW2.out.mono HMx.out.size)
        clear hch hb3 hC hcap HOP cb zb
        generalize r2.dues = O at *
        go_wp2_with fail
        refine (next_any _ _ _ _ HC3.out).mono ?_
        rintro e w4 ⟨hc4, hm4, rfl⟩
        have HC4 := Lib.hid hc4
        have HR4 := Lib.hid (HR3.out.below HL2.out (hm4.below HM3.out.size HCB.out HCB.out))
        have HM4 := Lib.hid (HM3.out.high hm4 HCB.out HCB.out)
        clear hm4 hc4
        go_wp2_with fail
        go_loopw [5, 7, 8] (fun s5 s7 s8 wr => ∃ (r3 : Rn) (L : List Nat) (l : List (Int × Int)) (v : Value), s5 = v ∧ s7 = .int .i64 (L.head?.getD 0 : Nat) ∧ s8 = .bool (!L.isEmpty) ∧ TInv w2 R G A c S sc (tickAll r2 O) C O.length r3 L l v wr ∧ r3.sizes = r2.sizes) (fun _ _ s8 wr => chanLen wr C + moreOf s8)
        case atStart => exact ⟨r2, O, [], _, rfl, rfl, rfl, ⟨HR4.out, HOK2.out, ⟨_, HC4.out⟩, HCB.out, HBD.out, by simp, rfl, by simp, OwnS.nil _ _, HM4.out⟩, rfl⟩
        case round =>
          obtain ⟨r3, L, l, v, rfl, rfl, rfl, ⟨hr, hok, ⟨cap2, hch⟩, hCB, hLb, hlen, hx1, hx2, hown, hm⟩, hsz2⟩ := hrel
          have HOK3 := Lib.hid hok
          have HX1 := Lib.hid hx1
          have HX2 := Lib.hid hx2
          have HRa := Lib.hid hr
          have HCa := Lib.hid hch
          have HMa := Lib.hid hm
          have HOa := Lib.hid hown
          have HSa := Lib.hid hsz2
          have HCL := Lib.hid hch.len
          have HBa := Lib.hid (cell_moved (a := ⟨w.heap.size, 0, none⟩) ((blk_cells HBX.out).1 0) hm (show w.heap.size ≠ R by omega) (show w.heap.size ≠ G by have := HLOW.out.2.1; omega))
          have hba := HBa.out
          have hza := melt_moved (a := ⟨w.heap.size, 0, none⟩) (blk_lt HBX.out) ((blk_cells HBX.out).2 0) hm (show w.heap.size ≠ R by omega) (show w.heap.size ≠ G by have := HLOW.out.2.1; omega)
          obtain ⟨Av, cv, rfl, hAv, hcv, hrd⟩ := hown.slice
          clear hx1 hx2 hr hch hm hown hok hsz2 hAv hcv hrd
          rcases L with _ | ⟨no, L⟩
          · simp only [List.isEmpty_nil, Bool.not_true, List.head?_nil, Option.getD_none]
            have hxa : r3 = (tickAll r2 O).1 := HX1.out
            have hxb : l = (tickAll r2 O).2 := by have := HX2.out; simpa [tickAll] using this
            have HXA := Lib.hid hxa
            have HXB := Lib.hid hxb
            clear hxa hxb hLb
            have hl1 : l.length ≤ 1000 := by have := HOL.out; simp at hlen; omega
            have HL1 := Lib.hid hl1
            clear hlen hl1
            go_wp2_with fail
            refine (after_any _ HRa.out HOK3.out).mono ?_
            rintro e w8 ⟨v8, rfl, hr8, hok8, hs8, hm8⟩
            have HR8 := Lib.hid hr8
            have HOK8 := Lib.hid hok8
            have HM8 := Lib.hid (HMa.out.trans hm8)
            have HO8 := Lib.hid (HOa.out.low HL2.out.1 HL2.out.2.1 hm8)
            have HSB := Lib.hid (hs8.mono HMa.out.size)
            have HLB := Lib.hid (show r3.after.2.length ≤ 1000 from after_length HOK3.out)
            have HTF := Lib.hid (show r.tick n = (r3.after.1, l ++ r3.after.2) by rw [HS.out, HTK.out, ← HXA.out, ← HXB.out])
            obtain ⟨A8, c8, rfl, hA8, hc8, hrd8⟩ := hs8.slice
            have HRD := Lib.hid hrd8
            have HAN := Lib.hid hA8
            generalize r3.after.2 = M at *
            clear hr8 hok8 hs8 hm8 hrd8 hA8 hc8 hba hza
            go_wp2_with (at_builtin; refine appendS rfl (.tmp 70) (.tmp 72) rfl w2.heap.size _ l rfl ?hown A8 M.length c8 M rfl rfl ?hA HAN.out ?hmax ?hbase ?_)
            case hown => exact HO8.out
            case hA => exact HRD.out
            case hmax => have := HL1.out; have := HLB.out; omega
            case hbase => exact HM8.out.size
            intro A6 c6 w6 hown6 hb6 hg6
            have HB6 := Lib.hid (hb6 w8 (Below.refl _ _))
            clear hb6 hg6
            go_wp2_with fail
            go_ret
            rw [HTF.out]
            exact ⟨_, rfl, HR8.out.below (HL2.out.eq (show r3.after.1.sizes = r2.sizes from (after_sizes r3).trans HSa.out)) HB6.out, HOK8.out, hown6.out.mono HMx.out.size, HMx.out.trans (HM8.out.then HB6.out)⟩
          · have hno : no < r3.l.length := hLb no (by simp)
            have HLB := Lib.hid (fun x (hx : x ∈ L) => hLb x (by simp [hx]))
            simp only [List.isEmpty_cons, Bool.not_false, List.head?_cons, Option.getD_some, List.tail_cons] at *
            have hlen' : l.length + L.length + 1 ≤ O.length := by simp at hlen; omega
            have HLN' := Lib.hid hlen'
            obtain ⟨hG, hA, q0, q1, q2, qz⟩ := HRa.out.req_at hno
            subst hA
            obtain ⟨ta, hta⟩ := HRa.out.top
            obtain ⟨ca, za⟩ := blk_cells hta
            have hnl : (no : Int) < (r3.l.length : Int) := by omega
            have HNO := Lib.hid hno
            clear hLb hlen hlen' hta
            by_cases h4 : (r3.rq no).tries < 4
            · have HT1 := Lib.hid (show tickAll r3 (no :: L) = ((tickAll (r3.sent no) L).1, ((no : Int), wrap64 ((r3.rq no).tries + 1)) :: (tickAll (r3.sent no) L).2) by rw [tickAll, if_pos h4])
              rw [HT1.out] at HX1 HX2
              have hd4 : decide ((r3.rq no).tries < 4) = true := decide_eq_true h4
              clear h4
              go_wp2_with fail
              refine (send_any _ no HRa.out HOK3.out.few hno).mono ?_
              clear q0 q1 q2 qz ca za hba hza
              rintro e w5 ⟨rfl, hr5, hm5⟩
              have HR5 := Lib.hid hr5
              have HO5 := Lib.hid (HOa.out.low HL2.out.2.1 HL2.out.2.1 hm5)
              have HC5 := Lib.hid (HCa.out.moved hm5 (by have := HL2.out.2.1; omega) (by have := HL2.out.2.1; omega))
              have HM5 := Lib.hid (HMa.out.trans (Moved.second hm5))
              clear hr5 hm5
              generalize wrap64 ((r3.rq no).tries + 1) = ty at *
              go_wp2_with (at_builtin; refine appendS rfl (.tmp 57) (.tmp 61) rfl w2.heap.size _ l rfl ?hown (some ⟨w5.heap.size, 0, none⟩) 1 1 [((no : Int), ty)] rfl rfl ?hA (fun h => by cases h) ?hmax ?hbase ?_)
              case hown => exact HO5.out.keep (below_new (Below.refl _ _) _)
              case hA => exact readS_one rfl
              case hmax => have := HOL.out; have := HLN'.out; omega
              case hbase => exact Nat.le_trans HM5.out.size (by simp)
              intro A6 c6 w6 hown6 hb6 hg6
              have HB6 := Lib.hid (hb6 w5 (Below.alloc (Below.refl _ _) HM5.out.size _))
              have HR6 := Lib.hid (HR5.out.below (HL2.out.eq (show (r3.sent no).sizes = r2.sizes from HSa.out)) HB6.out)
              have HM6 := Lib.hid (HM5.out.then HB6.out)
              have HC6 := Lib.hid (ChanAt.grown (HC5.out.keep (below_new (Below.refl _ _) _)) (HO5.out.keep (below_new (Below.refl _ _) _)) hg6)
              clear hb6 hg6
              go_wp2_with fail
              refine (next_any _ _ _ _ HC6.out).mono ?_
              rintro e w7 ⟨hc7, hm7, rfl⟩
              have HC7 := Lib.hid hc7
              have HR7 := Lib.hid (HR6.out.below (HL2.out.eq (show (r3.sent no).sizes = r2.sizes from HSa.out)) (hm7.below HM6.out.size HCB.out HCB.out))
              have HM7 := Lib.hid (HM6.out.high hm7 HCB.out HCB.out)
              have HO7 := Lib.hid (hown6.out.chan HC6.out hm7)
              clear hm7 hc7
              go_wp2_with fail
              go_roundw
              case rel => exact ⟨r3.sent no, L, l ++ [((no : Int), ty)], _, rfl, rfl, rfl, ⟨HR7.out, HOK3.out.sent no, ⟨_, HC7.out⟩, HCB.out, fun x hx => by rw [Rn.sent_len]; exact HLB.out x hx, by have := HLN'.out; simp; omega, HX1.out, by have := HX2.out; simpa using this, HO7.out, HM7.out⟩, HSa.out⟩
              case measure =>
                rw [HC7.out.len, HCL.out]
                rcases L with _ | ⟨a, L⟩
                · simp [moreOf]
                · simp [moreOf]
            · have HT1 := Lib.hid (show tickAll r3 (no :: L) = tickAll (r3.lose no) L by rw [tickAll, if_neg h4])
              rw [HT1.out] at HX1 HX2
              have hd4 : decide ((r3.rq no).tries < 4) = false := decide_eq_false h4
              clear h4
              go_wp2_with fail
              clear q0 q1 qz ca za hba hza
              have HR5 := Lib.hid (show RunAt (wr.setCell ⟨G, no * 3 + 2, none⟩ (.int .i64 3)) R G (some ⟨G, 0, none⟩) c S sc (r3.lose no) from by
                refine HRa.out.put HNO.out (fun k hk hkG => ?_) (fun cs t2 hcs => ?_)
                · rw [Below.heap_setCell _ ⟨G, _, none⟩ _ k hkG]
                · refine ⟨_, heap_setCell_same _ _ _ _ _ _ hcs, fun j h1 h2 h3 => ?_, fun h1 h2 h3 => ?_⟩
                  · rw [Array.getElem?_setIfInBounds_ne (by omega)]
                  · have l3 := (Array.getElem?_eq_some_iff.1 h3).1
                    refine ⟨?_, ?_, ?_⟩
                    · rw [Array.getElem?_setIfInBounds_ne (by omega), h1]
                    · rw [Array.getElem?_setIfInBounds_ne (by omega), h2]
                    · rw [Array.getElem?_setIfInBounds_self_of_lt l3])
              have HG5 := Lib.hid (show Moved wr (wr.setCell ⟨G, no * 3 + 2, none⟩ (.int .i64 3)) G G from (Moved.same _ _ _).setG)
              generalize wr.setCell ⟨G, no * 3 + 2, none⟩ (.int .i64 3) = w5 at *
              have HO5 := Lib.hid (HOa.out.low HL2.out.2.1 HL2.out.2.1 HG5.out)
              have HC5 := Lib.hid (HCa.out.moved HG5.out (by have := HL2.out.2.1; omega) (by have := HL2.out.2.1; omega))
              have HM5 := Lib.hid (HMa.out.trans (Moved.second HG5.out))
              refine (next_any _ _ _ _ HC5.out).mono ?_
              rintro e w7 ⟨hc7, hm7, rfl⟩
              have HC7 := Lib.hid hc7
              have HR7 := Lib.hid (HR5.out.below (HL2.out.eq (show (r3.lose no).sizes = r2.sizes from HSa.out)) (hm7.below HM5.out.size HCB.out HCB.out))
              have HM7 := Lib.hid (HM5.out.high hm7 HCB.out HCB.out)
              have HO7 := Lib.hid (HO5.out.chan HC5.out hm7)
              clear hm7 hc7
              go_wp2_with fail
              go_roundw
              case rel => exact ⟨r3.lose no, L, l, _, rfl, rfl, rfl, ⟨HR7.out, HOK3.out.put _ _, ⟨_, HC7.out⟩, HCB.out, fun x hx => by rw [Rn.lose_len]; exact HLB.out x hx, by have := HLN'.out; omega, HX1.out, HX2.out, HO7.out, HM7.out⟩, HSa.out⟩
              case measure =>
                rw [HC7.out.len, HCL.out]
                rcases L with _ | ⟨a, L⟩
                · simp [moreOf]
                · simp [moreOf]
end Go.Proofs.Ytpogiondpbfjkaa
