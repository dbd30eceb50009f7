/- after: the next stage, if all is settled. -/
import Derived.Test.YtpogiondpbfjkaaBegin
namespace Go.Proofs.Ytpogiondpbfjkaa
open Go.RowKit Go.Conc
theorem len_chan {w : World} {c cap : Nat} {L : List Nat} (h : ChanAt w c cap L) : (Builtin.len_ #[63] 3 #[.chan (some c)]).run Try.prog w = .ok (.int .i64 (L.length : Nat)) w := by
  obtain ⟨s, r, h⟩ := h
  have := run_len_chan (P := Try.prog) 63 3 Try.underlying63 h
  simpa [goInt] using this
set_option maxHeartbeats 2000000 in
theorem after_any {R G : Nat} {A S : Option Addr} {c sc : Nat} {r : Rn} (w : World) (h : RunAt w R G A c S sc r) (hok : r.Ok) :
    Calls Try.prog 28 #[.pointer (some ⟨R, 0, none⟩)] w (Gives w R G A c S sc r.after) := by
  have HR := Lib.hid h
  have HOK := Lib.hid hok
  have HLOW := Lib.hid h.low
  obtain ⟨t, ht⟩ := h.top
  obtain ⟨c0, z0⟩ := blk_cells ht
  have hok' := hok
  clear h hok
  by_cases hge : r.sizes.length ≤ r.stage
  · have hd : decide ((r.sizes.length : Int) ≤ (r.stage : Int)) = true := decide_eq_true (by omega)
    have hd' : decide (r.sizes.length ≤ r.stage) = true := decide_eq_true (by omega)
    have HA := Lib.hid (show r.after = (r, []) by unfold Rn.after; rw [if_pos hge])
    clear hge
    go_enter Try.func28, Try.ntmps28
    go_wp2_with (go_quiet (fail))
    go_ret
    rw [HA.out]
    exact ⟨_, rfl, HR.out.drewN, HOK.out, OwnS.nil _ _, (Moved.same _ _ _).drewN⟩
  · have hlt : r.stage < r.sizes.length := by omega
    have HLT := Lib.hid hlt
    have hd : decide ((r.sizes.length : Int) ≤ (r.stage : Int)) = false := decide_eq_false (by omega)
    have hd' : decide (r.sizes.length ≤ r.stage) = false := decide_eq_false (by omega)
    have CQ := Lib.hid (fun wx (hx : RunAt wx R G A c S sc r) => show Calls Try.prog 31 #[.pointer (some ⟨R, 0, none⟩), .func (.func 27) #[] #[]] wx (QueueIs wx r.opens) from queue_open wx hx hok')
    have HAF := Lib.hid (show r.after = if r.opens = [] then r.adv.begin else (r, []) by unfold Rn.after; rw [if_neg hge])
    generalize r.opens = O at *
    clear hge hlt hok'
    have k2 := c0 2
    have k1 := c0 1
    simp only [List.getElem?_toArray, List.getElem?_cons_succ, List.getElem?_cons_zero] at k1 k2
    go_enter Try.func28, Try.ntmps28
    go_upto_region 1 with fail
    first | go_region_with (first | (go_at_call 31; refine (CQ.out _ (HR.out.drew)).mono ?_; rintro e w1 ⟨C, cap, rfl, hC, hcap, hch, hb1⟩; have hln := len_chan hch; have HB1 := Lib.hid (below_call (Below.drew (Below.refl w.heap.size w)) hb1); have m2 := keep_cell hb1 (cell_drew k2); have m1 := keep_cell hb1 (cell_drew k1))) | fail
    all_goals
      have HR1 := Lib.hid (HR.out.keep HB1.out)
      clear c0 z0 k1 k2 m1 m2 hln hcap hch hC hb1 hd hd' CQ
      rcases O with _ | ⟨o, O⟩
      · obtain ⟨t1, ht1⟩ := HR1.out.top
        obtain ⟨c1, z1⟩ := blk_cells ht1
        clear ht1
        simp only [List.length_nil, Nat.lt_irrefl, decide_false]
        go_wp2_with fail
        refine (end_any _ HR1.out HOK.out).mono ?_; rintro e w8 ⟨rfl, n8, rfl⟩
        have HR8 := Lib.hid (HR1.out.drewN (n := n8))
        have HM8 := Lib.hid (show Moved w (w1.drewN n8) R G from (Moved.of_below HB1.out).drewN)
        go_wp2_with fail
        clear c1 z1
        have hst : r.stage + 1 ≤ 1000 := by have := HOK.out.stages; have := HLT.out; omega
        have hwr : wrap64 ((r.stage : Int) + 1) = ((r.stage + 1 : Nat) : Int) := by rw [IntWalk.wrap64_in _ (by omega)]; rfl
        have HRx : RunAt (((w1.drewN n8).setCell ⟨R, 3, none⟩ (.int .i64 r.fin)).setCell ⟨R, 2, none⟩ (.int .i64 (wrap64 ((r.stage : Int) + 1)))) R G A c S sc r.adv := by
          refine HR8.out.top' rfl rfl (fun k hk hkR => ?_) (fun t ht => ?_)
          · rw [Below.heap_setCell _ ⟨R, _, none⟩ _ k hkR, Below.heap_setCell _ ⟨R, _, none⟩ _ k hkR]
          · rw [hwr]
            exact heap_setCell_same _ _ _ _ _ _ (heap_setCell_same _ _ _ _ _ _ ht)
        have HMx := Lib.hid (show Moved w (((w1.drewN n8).setCell ⟨R, 3, none⟩ (.int .i64 r.fin)).setCell ⟨R, 2, none⟩ (.int .i64 (wrap64 ((r.stage : Int) + 1)))) R G from (HM8.out.setD).setD)
        generalize (((w1.drewN n8).setCell ⟨R, 3, none⟩ (.int .i64 r.fin)).setCell ⟨R, 2, none⟩ (.int .i64 (wrap64 ((r.stage : Int) + 1)))) = wx at *
        refine (begin_any wx HRx (HOK.out.adv HLT.out)).mono ?_
        rintro e w9 ⟨v, rfl, hr9, ho9, hs9, hm9⟩
        have HG9 := Lib.hid (And.intro hr9 (And.intro ho9 (And.intro hs9 hm9)))
        clear hr9 ho9 hs9 hm9
        go_wp2_with fail
        go_ret
        have he : r.after = r.adv.begin := by rw [HAF.out]; simp
        obtain ⟨h1, h2, h3, h4⟩ := HG9.out
        exact ⟨v, rfl, by rw [he]; exact h1, by rw [he]; exact h2, by rw [he]; exact h3.mono HMx.out.size, HMx.out.trans h4⟩
      · have hd : decide (0 < (o :: O).length) = true := by simp
        simp only [hd]
        go_wp2_with fail
        go_ret
        have he : r.after = (r, []) := by rw [HAF.out, if_neg (by simp)]
        rw [he]
        exact ⟨_, rfl, HR1.out, HOK.out, OwnS.nil _ _, Moved.of_below HB1.out⟩
end Go.Proofs.Ytpogiondpbfjkaa
