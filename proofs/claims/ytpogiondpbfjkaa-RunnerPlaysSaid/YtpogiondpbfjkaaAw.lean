/- awake. -/
import Derived.Test.YtpogiondpbfjkaaPlain
import Derived.Test.YtpogiondpbfjkaaReply
namespace Go.Proofs.Ytpogiondpbfjkaa
open Go.RowKit Go.Conc
theorem ints_new {w : World} {cs : Array Value} {t n : Nat} {ds : Nat → Int} (h : ∀ i, i < n → cs[i]? = some (.int .i64 (ds i))) : IntsIn (w.alloc (.cells cs t)) (some ⟨w.heap.size, 0, none⟩) n ds :=
  .inr ⟨_, _, rfl, by simp, fun i hi => cell_top0 (by simpa using h i hi)⟩
theorem ints_one {w : World} {x : Int} {t : TypeId} : IntsIn (w.alloc (.cells #[.int .i64 x] t)) (some ⟨w.heap.size, 0, none⟩) 1 (fun _ => x) :=
  ints_new (n := 1) (ds := fun _ => x) fun i hi => by
    match i, hi with
    | 0, _ => rfl
theorem ints_two {w : World} {x y : Int} {t : TypeId} : IntsIn (w.alloc (.cells #[.int .i64 x, .int .i64 y] t)) (some ⟨w.heap.size, 0, none⟩) 2 (fun i => if i = 0 then x else y) :=
  ints_new (n := 2) (ds := fun i => if i = 0 then x else y) fun i hi => by
    match i, hi with
    | 0, _ => rfl
    | 1, _ => rfl
theorem gives_slice {w : World} {R G : Nat} {A : Option Addr} {c : Nat} {S : Option Addr} {sc : Nat} {x : Rn × List (Int × Int)} {e : Ending} {w' : World} (h : Gives w R G A c S sc x e w') :
    ∃ A' c', e = .returned (.slice A' x.2.length c') ∧ ReadS w' A' x.2 ∧ (A' = none → c' = 0) ∧ RunAt w' R G A c S sc x.1 ∧ x.1.Ok ∧ Moved w w' R G ∧ OwnS w.heap.size w' (.slice A' x.2.length c') x.2 := by
  obtain ⟨v, he, h1, h2, h3, h4⟩ := h
  obtain ⟨A', c', rfl, e1, e2, e3⟩ := h3.slice
  exact ⟨A', c', he, e3, e1, h1, h2, h4, h3⟩
def aw1 : Rn := ⟨[⟨1, 10, 0⟩], [1], 0, 0, true, 0⟩
def aw2 : Rn := ⟨[⟨1, 10, 1⟩], [1], 1, 1, true, 0⟩
theorem aw_start : (Rn.new [1]).start = (aw1, [(0, 1)]) := by kernel_rfl
theorem aw_reply : aw1.reply 0 1 = (aw2, []) := by kernel_rfl
theorem aw_sizes : sizesL (fun _ => 1) 1 = [1] := by rfl
set_option maxHeartbeats 1000000 in
theorem awake_any (w : World) : Calls Try.prog 10 #[] w (TestIs w true) := by
  go_enter Try.func10, Try.ntmps10
  go_wp2_with fail
  refine (stages_any _ 1 1 (fun _ => 1) (by decide) _ ints_one).mono ?_
  rw [aw_sizes]
  rintro e w1 ⟨v1, rfl, ho1, hb1⟩
  obtain ⟨A1, c1, rfl⟩ := ho1.slice
  have HB1 := Lib.hid (below_call (below_new (Below.refl w.heap.size w) _) hb1)
  have HR1 := Lib.hid ho1.rows.2
  clear ho1 hb1
  go_wp2_with fail
  refine (new_any A1 c1 [1] (by decide) (by decide) w1 HR1.out).mono ?_
  rintro e w2 ⟨R, G, A, c, S, sc, rfl, hR, hG, hr2, hb2⟩
  have HR2 := Lib.hid hr2
  have HB2 := Lib.hid (below_call HB1.out hb2)
  have HRG := Lib.hid (And.intro hR hG)
  clear hr2 hb2 hR hG
  go_wp2_with fail
  refine (start_any w2 HR2.out (Rn.Ok.new (by decide) (by decide))).mono ?_
  rw [aw_start]
  intro e w3 hg
  obtain ⟨A3, c3, rfl, hrd3, _, hr3, hok3, hm3, ho3⟩ := gives_slice hg
  have HR3 := Lib.hid hr3
  have HOK3 := Lib.hid hok3
  have HB3 := Lib.hid (HB2.out.trans (hm3.below HB2.out.size (by have := HRG.out.1; have := HB1.out.size; omega) (by have := HRG.out.2; have := HB1.out.size; omega)))
  have HD3 := Lib.hid hrd3
  clear hg hrd3 hr3 hok3 hm3 ho3
  go_wp2_with fail
  refine (plain_any A3 _ c3 1 [(0, 1)] (by decide) _ (HD3.out.keep (below_new (Below.refl _ _) _)) (readS_one rfl)).mono ?_
  rintro e w4 ⟨rfl, hb4⟩
  have HB4 := Lib.hid (HB3.out.trans (((below_call (below_new (Below.refl w3.heap.size w3) _) hb4)).mono HB3.out.size))
  have HR4 := Lib.hid (HR3.out.keep (below_call (below_new (Below.refl _ _) _) hb4))
  clear hb4
  go_wp2_with fail
  refine (reply_any w4 0 1 HR4.out HOK3.out).mono ?_
  rw [aw_reply]
  intro e w5 hg
  obtain ⟨A5, c5, rfl, hrd5, _, hr5, hok5, hm5, ho5⟩ := gives_slice hg
  have HR5 := Lib.hid hr5
  have HOK5 := Lib.hid hok5
  have HB5 := Lib.hid (HB4.out.trans (hm5.below HB4.out.size (by have := HRG.out.1; have := HB1.out.size; omega) (by have := HRG.out.2; have := HB1.out.size; omega)))
  clear hg hrd5 hr5 hok5 hm5 ho5
  go_wp2_with fail
  refine (done_any w5 HR5.out).mono ?_
  rintro e w6 ⟨rfl, n6, rfl⟩
  have hd : aw2.done = true := by rfl
  rw [hd]
  clear hd
  have HR6 := Lib.hid (HR5.out.drewN (n := n6))
  have HB6 := Lib.hid (below_drewNs (n := n6) HB5.out)
  generalize w5.drewN n6 = w6 at *
  go_wp2_with fail
  refine (outcome_any w6 0 HR6.out).mono ?_
  rintro e w7 ⟨rfl, rfl⟩
  have hd : aw2.outcome 0 = 1 := by rfl
  rw [hd]
  clear hd
  go_wp2_with fail
  go_ret
  exact ⟨rfl, HB6.out⟩
end Go.Proofs.Ytpogiondpbfjkaa
