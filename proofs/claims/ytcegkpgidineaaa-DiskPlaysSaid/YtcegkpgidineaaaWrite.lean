/- Write. -/
import Derived.Test.YtcegkpgidineaaaDisk
namespace Go.Proofs.Ytcegkpgidineaaa
open Go.RowKit
section copies
open Go.Lib
theorem copy_only {ops : Array Oper} {rest : List Oper} {o : Oper} {a : Act} {w : World} {Q : Exit → Act → World → Prop} (hgd : o.guard = none) (d s : Operand)
    (ho : o.op = .call { callee := .builtin .copy, args := #[d, s], argTypes := #[32, 32] }) (g off dLen dCap : Nat) (hd : a.eval d = .slice (some ⟨g, off, none⟩) dLen dCap) (A : Option Addr) (n c : Nat) (hs : a.eval s = .slice A n c) (l data : List Int)
    (hr : RowAt w g l) (hn : n = data.length) (hle : n ≤ dLen) (hfit : off + n ≤ l.length) (hA : Read8 w A data)
    (h : ∀ w', Hid (RowAt w' g (spl l off data)) → Moved w w' g g → wpList Try.prog ops Q rest (a.put o.dst (goInt n)) w') : wpList Try.prog ops Q (o :: rest) a w := by
  rcases hA with rfl | ⟨b, off', rfl, hlt, hc⟩
  · obtain rfl : n = 0 := hn
    refine wpList_copy_nothing hgd d s 32 32 ho 5 Try.underlying32 (by kernel_rfl) _ _ dLen dCap 0 c hd hs (by simp) (h w (Lib.hid ?_) ⟨rfl, rfl, rfl, Nat.le_refl _, fun _ _ _ _ => rfl⟩)
    simpa [spl] using hr
  · subst hn
    refine wpList_copy_own hgd d s 32 32 ho 5 Try.underlying32 (by kernel_rfl) g off dLen dCap ⟨b, off', none⟩ data.length c hd hs _ 5 hr (data.map (Value.int .u8)) (by simp [Nat.min_eq_left hle]) ?_ (by simpa using hfit) ?_ ?_
    · intro j v hj
      rw [List.getElem?_map] at hj
      rcases hd' : data[j]? with _ | x
      · rw [hd'] at hj; cases hj
      · rw [hd'] at hj
        have hjl := (List.getElem?_eq_some_iff.1 hd').1
        simp at hj; subst hj
        rw [addr_add, hc j hjl, List.getD_eq_getElem?_getD, hd']; rfl
    · intro v hv
      obtain ⟨x, _, rfl⟩ := List.mem_map.1 hv
      rfl
    · rw [List.length_map]
      refine h _ (Lib.hid ?_) ⟨rfl, rfl, rfl, by simp [World.setRow], fun k _ hk _ => setRow_other w g k _ hk⟩
      unfold RowAt
      rw [setRow_heap w g _ _ 5 _ hr]
      simp [spl, List.map_take, List.map_drop]
end copies
theorem Moved.wider {w w' : World} {D G : Nat} (h : Moved w w' G G) : Moved w w' D G := ⟨h.os, h.tape, h.output, h.size, fun k hk _ h2 => h.block k hk h2 h2⟩
theorem spl_len {l cs : List Int} {off : Nat} (h : off + cs.length ≤ l.length) : (spl l off cs).length = l.length := spl_length l off cs h
theorem spl_nil (l : List Int) (off : Nat) : spl l off [] = l := by simp [spl]
/-- How many bytes are written. -/
def cntF (left : Int) (cut : Bool) (m : Nat) : Nat := if cut then min m left.toNat else m
/-- What becomes of a disk that is written: the answer, the bytes, how many are left, and whether it is torn. -/
def wrF (N : Nat) (l : List Int) (left : Int) (cut torn : Bool) (a : Int) (bl : List Int) : Int × List Int × Int × Bool :=
  if there N a ((bl.length : Int) / 64) = false ∨ bl.length % 64 ≠ 0 then (1, l, left, torn)
  else if torn = true then (25, l, left, torn)
  else (if cntF left cut bl.length < bl.length then 25 else 0, spl l (a.toNat * 64) (bl.take (cntF left cut bl.length)), if cut then left - cntF left cut bl.length else left, decide (cntF left cut bl.length < bl.length))
/-- Write's answer. -/
def WriteIs (w : World) (D G N : Nat) (cut : Bool) (r : Int × List Int × Int × Bool) (e : Ending) (w' : World) : Prop :=
  e = .returned (.int .i64 r.1) ∧ DiskAt w' D G N r.2.1 r.2.2.1 cut r.2.2.2 ∧ Moved w w' D G
theorem DiskAt.lay {w w' : World} {D G N : Nat} {l l' : List Int} {left left' : Int} {cut torn torn' : Bool} (h : DiskAt w D G N l left cut torn) (ht : w'.heap[D]? = some (.cells #[.slice (some ⟨G, 0, none⟩) (N * 64) (N * 64), .int .i64 left', .bool cut, .bool torn'] 52)) (hr : RowAt w' G l') (hl : l'.length = l.length) : DiskAt w' D G N l' left' cut torn' :=
  ⟨ht, hr, by rw [hl, h.len], h.max, h.ne⟩
set_option maxHeartbeats 2000000 in
theorem write_any {D G N : Nat} {l : List Int} {left : Int} {cut torn : Bool} (w : World) (h : DiskAt w D G N l left cut torn) (h0 : 0 ≤ left) (h1 : left ≤ 9223372036854775807) (a : Int) (A : Option Addr) (c : Nat) (bl : List Int) (hc : bl.length ≤ c) (hmax : bl.length ≤ 4294967295) (hA : Read8 w A bl) (hAD : ∀ b off, A = some ⟨b, off, none⟩ → b ≠ D ∧ b ≠ G) :
    Calls Try.prog 10 #[.pointer (some ⟨D, 0, none⟩), .int .i64 a, .slice A bl.length c] w (WriteIs w D G N cut (wrF N l left cut torn a bl)) := by
  have HP := Lib.hid (part_any w h a ((bl.length : Int) / 64))
  have HD := Lib.hid h
  have HA := Lib.hid hA
  have HW1 := Lib.hid (fun h => show wrF N l left cut torn a bl = (1, l, left, torn) from if_pos h)
  have HW2 := Lib.hid (fun h h2 => show wrF N l left cut torn a bl = (25, l, left, torn) from (if_neg h).trans (if_pos h2))
  have HW3 := Lib.hid (fun h h2 => show wrF N l left cut torn a bl = (if cntF left cut bl.length < bl.length then 25 else 0, spl l (a.toNat * 64) (bl.take (cntF left cut bl.length)), if cut then left - cntF left cut bl.length else left, decide (cntF left cut bl.length < bl.length)) from (if_neg h).trans (if_neg h2))
  clear h hA
  generalize wrF N l left cut torn a bl = R at *
  go_enter Try.func10, Try.ntmps10
  go_wp2_with fail
  refine HP.out.mono ?_
  rintro e w1 ⟨hb, hh⟩
  have HB := Lib.hid hb
  have HD1 := Lib.hid (HD.out.keep hb)
  clear hb
  rcases ht : there N a ((bl.length : Int) / 64) with _ | _
  · rw [ht] at hh
    simp only [Bool.false_eq_true, if_false] at hh
    subst hh
    have HWR := Lib.hid (HW1.out (.inl ht))
    clear ht
    go_wp2_with fail
    go_ret
    exact ⟨by rw [HWR.out]; rfl, by rw [HWR.out]; exact HD1.out, Moved.of_below HB.out⟩
  · rw [ht] at hh
    simp only [if_true] at hh
    obtain ⟨off, rfl, hoff, hob⟩ := hh
    obtain ⟨t1, t2, t3⟩ := there_bd ht
    by_cases hm : bl.length % 64 = 0
    · have hno : ¬ (there N a ((bl.length : Int) / 64) = false ∨ bl.length % 64 ≠ 0) := by rw [ht]; simp; exact hm
      have HNO := Lib.hid hno
      clear hno
      have hm1 : ((bl.length : Int) % 64 == 0) = true := beq_iff_eq.2 (by omega)
      have hm2 : ((bl.length : Int) % 64 != 0) = false := by rw [bne, hm1]; rfl
      obtain ⟨c0, z0⟩ := blk_cells HD1.out.top
      have l0 := blk_lt HD1.out.top
      have hdl : (((bl.length : Int) / 64).toNat * 64) = bl.length := by omega
      rw [hdl]
      have hNl := HD.out.len
      have HNL := Lib.hid hNl
      have hoff' : 0 < bl.length → off = a.toNat * 64 := fun hp => hoff (by omega)
      have HOFF := Lib.hid hoff'
      have hab : a.toNat * 64 + bl.length ≤ N * 64 := by omega
      have hfitb : off + bl.length ≤ N * 64 := by
        rcases Nat.eq_zero_or_pos bl.length with hz | hz
        · omega
        · rw [hoff' hz]; exact hab
      clear hm hdl hoff hoff' hNl
      have HT := Lib.hid ht
      clear ht
      rcases torn with _ | _
      · have HWR := Lib.hid (HW3.out HNO.out (by decide))
        rcases cut with _ | _
        · have hcl : (bl.length : Int) ≤ (c : Int) := by omega
          have hcf : cntF left false bl.length = bl.length := rfl
          rw [hcf, if_neg (Nat.lt_irrefl _), if_neg (by decide), decide_eq_false (Nat.lt_irrefl _), List.take_of_length_le (Nat.le_refl _)] at HWR
          clear hcf
          go_wp2_with (refine copy_only rfl (.tmp 55) (.tmp 58) rfl G off bl.length ((N - a.toNat) * 64) rfl A bl.length c rfl l bl HD1.out.row rfl ?hle ?hfit ?hA ?_)
          case hle => exact Nat.le_refl _
          case hfit => rw [HNL.out]; exact hfitb
          case hA => exact HA.out.keep HB.out
          intro w2 hr2 hm2
          have HR2 := Lib.hid (show RowAt w2 G (spl l (a.toNat * 64) bl) from by
            rcases Nat.eq_zero_or_pos bl.length with hz | hz
            · have h1 := hr2.out
              rw [List.length_eq_zero_iff.1 hz, spl_nil] at h1 ⊢
              exact h1
            · rw [← HOFF.out hz]; exact hr2.out)
          have HM2 := Lib.hid hm2
          clear hm2 hr2
          go_wp2_with fail
          go_ret
          refine ⟨by rw [HWR.out]; rfl, ?_, ?_⟩
          · rw [HWR.out]
            exact HD1.out.lay ((HM2.out.block _ l0 HD.out.ne HD.out.ne).trans HD1.out.top) HR2.out (spl_len (by rw [HNL.out]; exact hab))
          · exact (Moved.of_below HB.out).trans HM2.out.wider
        · obtain ⟨L, rfl⟩ := Int.eq_ofNat_of_zero_le h0
          have hcf : cntF (L : Int) true bl.length = min bl.length L := by simp [cntF]
          rw [hcf, if_pos rfl] at HWR
          clear hcf
          by_cases hL : bl.length ≤ L
          · have hmin : min (bl.length : Int) (L : Int) = (bl.length : Int) := by omega
            have hle : (bl.length : Int) ≤ (L : Int) := by omega
            have hcl : (bl.length : Int) ≤ (c : Int) := by omega
            rw [Nat.min_eq_left hL, if_neg (Nat.lt_irrefl _), decide_eq_false (Nat.lt_irrefl _), List.take_of_length_le (Nat.le_refl _)] at HWR
            have HL := Lib.hid hL
            clear hL
            have hsub : IntKind.i64.wrap ((L : Int) - (bl.length : Int)) = (L : Int) - (bl.length : Int) := IntWalk.i64_in _ (by omega)
            go_wp2_with (refine copy_only rfl (.tmp 55) (.tmp 58) rfl G off bl.length ((N - a.toNat) * 64) rfl A bl.length c rfl l bl ?hr rfl ?hle ?hfit ?hA ?_)
            case hr => exact heap_far HD.out.ne HD1.out.row
            case hle => exact Nat.le_refl _
            case hfit => rw [HNL.out]; exact hfitb
            case hA => exact (Moved.set (G := G) (i := 1) (Moved.of_below (Below.refl _ w1))).read (HA.out.keep HB.out) hAD
            intro w2 hr2 hm2
            have HR2 := Lib.hid (show RowAt w2 G (spl l (a.toNat * 64) bl) from by
              rcases Nat.eq_zero_or_pos bl.length with hz | hz
              · have h1 := hr2.out
                rw [List.length_eq_zero_iff.1 hz, spl_nil] at h1 ⊢
                exact h1
              · rw [← HOFF.out hz]; exact hr2.out)
            have HM2 := Lib.hid hm2
            clear hm2 hr2
            go_wp2_with fail
            go_ret
            refine ⟨by rw [HWR.out]; rfl, ?_, ?_⟩
            · rw [HWR.out]
              refine HD1.out.lay ((HM2.out.block _ (by simpa using l0) HD.out.ne HD.out.ne).trans ?_) HR2.out (spl_len (by rw [HNL.out]; exact hab))
              have := heap_set_same (i := 1) (v := .int .i64 ((L : Int) - (bl.length : Int))) HD1.out.top
              simpa using this
            · exact ((Moved.of_below HB.out).set).trans HM2.out.wider
          · have hmin : min (bl.length : Int) (L : Int) = (L : Int) := by omega
            have hle : (L : Int) < (bl.length : Int) := by omega
            have hcl : (L : Int) ≤ (c : Int) := by omega
            rw [Nat.min_eq_right (by omega), if_pos (by omega), decide_eq_true (show L < bl.length by omega)] at HWR
            have HTL := Lib.hid (show L = (bl.take L).length by rw [List.length_take]; omega)
            clear hL
            have hsub : IntKind.i64.wrap ((L : Int) - (L : Int)) = 0 := by rw [Int.sub_self]; rfl
            go_wp2_with (refine copy_only rfl (.tmp 55) (.tmp 58) rfl G off bl.length ((N - a.toNat) * 64) rfl A L c rfl l (bl.take L) ?hr HTL.out ?hle ?hfit ?hA ?_)
            case hr => exact heap_far HD.out.ne HD1.out.row
            case hle => omega
            case hfit => rw [HNL.out]; omega
            case hA =>
              have := (Moved.set (G := G) (i := 1) (v := .int .i64 0) (Moved.of_below (Below.refl _ w1))).read (HA.out.keep HB.out) hAD
              rcases this with h | ⟨b, o, h, hb, hc⟩
              · exact .inl (by rw [h]; simp)
              · rw [h]; exact read8_take hb hc L
            intro w2 hr2 hm2
            have HR2 := Lib.hid (show RowAt w2 G (spl l (a.toNat * 64) (bl.take L)) from by
              rw [← HOFF.out (by omega)]; exact hr2.out)
            have HM2 := Lib.hid hm2
            have htop : w2.heap[D]? = some (.cells #[.slice (some ⟨G, 0, none⟩) (N * 64) (N * 64), .int .i64 0, .bool true, .bool false] 52) := (hm2.block _ (by simpa using l0) HD.out.ne HD.out.ne).trans (by
              have := heap_set_same (i := 1) (v := .int .i64 0) HD1.out.top
              simpa using this)
            clear hm2 hr2 c0 z0 l0
            obtain ⟨c0, z0⟩ := blk_cells htop
            have l0 := blk_lt htop
            have HTOP := Lib.hid htop
            clear htop
            go_wp2_with fail
            go_ret
            refine ⟨by rw [HWR.out]; rfl, ?_, ?_⟩
            · rw [HWR.out]
              refine HD1.out.lay ?_ (heap_far HD.out.ne HR2.out) (spl_len (by rw [HNL.out, List.length_take]; omega))
              have := heap_set_same (i := 3) (v := .bool true) HTOP.out
              simpa using this
            · exact (((Moved.of_below HB.out).set).trans HM2.out.wider).set
      · have HWR := Lib.hid (HW2.out HNO.out rfl)
        go_wp2_with fail
        go_ret
        exact ⟨by rw [HWR.out]; rfl, by rw [HWR.out]; exact HD1.out, Moved.of_below HB.out⟩
    · have HWR := Lib.hid (HW1.out (.inr hm))
      have hm1 : ((bl.length : Int) % 64 == 0) = false := beq_eq_false_iff_ne.2 (by omega)
      have hm2 : ((bl.length : Int) % 64 != 0) = true := by rw [bne, hm1]; rfl
      clear hm ht
      go_wp2_with fail
      go_ret
      exact ⟨by rw [HWR.out]; rfl, by rw [HWR.out]; exact HD1.out, Moved.of_below HB.out⟩
end Go.Proofs.Ytcegkpgidineaaa
