/- Scan walked. -/
import Derived.Test.YthdeecnppmheoaaScan
import Derived.OwnWalk
namespace Go.Proofs.Ythdeecnppmheoaa
open Go.RowKit
theorem info34 : (Try.prog.info? 34).map (fun i => (i.zero, i.size, i.bytes)) = some (some (.agg #[.int .u32 0, .int .u8 0, .slice none 0 0]), 3, 32) := by kernel_rfl
/-- Scan's answer. -/
def ScanIs (w : World) (l : List Int) (e : Ending) (w' : World) : Prop :=
  ∃ v, e = .returned (.tuple #[v, .int .i64 ((scanA l).2 : Int)]) ∧ Recs (w.heap.size + 1) w' v (scanA l).1 ∧ Below w.heap.size w w'
/-- What holds ahead of a round. -/
def ScanInv (w : World) (l : List Int) (at_ : Nat) (gs : List Rec) (v : Value) (wr : World) : Prop :=
  64 * at_ ≤ l.length ∧ gs.length ≤ at_ ∧ Below w.heap.size w wr ∧ wr.heap[w.heap.size]? = some (.cells #[v] 45) ∧ Recs (w.heap.size + 1) wr v gs ∧
  ∃ f, l.length < f + 64 * at_ ∧ scanA l = (gs ++ (scanF f (l.drop (64 * at_)) (wasOf gs)).1, at_ + (scanF f (l.drop (64 * at_)) (wasOf gs)).2)
set_option maxHeartbeats 2000000 in
theorem scan_any (b off n c : Nat) (l : List Int) (hn : n = l.length) (hmax : n ≤ 140737488351232) (hc : n ≤ c) (h8 : Bytes8 l) (w : World) (hlt : b < w.heap.size) (hcell : Has8 w b off l) :
    Calls Try.prog 9 #[.slice (some ⟨b, off, none⟩) n c] w (ScanIs w l) := by
  subst hn
  have H8 := Lib.hid h8
  have HC := Lib.hid hcell
  clear h8 hcell
  obtain ⟨i0, hi, hz0, hz1, hz2⟩ := info_parts info34
  have HI := Lib.hid hi
  have HZ0 := Lib.hid hz0
  have HZ1 := Lib.hid hz1
  have HZ2 := Lib.hid hz2
  clear hi hz0 hz1 hz2
  go_enter Try.func9, Try.ntmps9
  go_wp2_with fail
  go_loopw [5] (fun s5 wr => ∃ (at_ : Nat) (gs : List Rec) (v : Value), s5 = .int .i64 at_ ∧ ScanInv w l at_ gs v wr) (fun s5 _ => l.length - (intOf s5).toNat)
  case atStart =>
    refine ⟨0, [], .slice none 0 0, rfl, by omega, by simp, ?_, ?_, Recs.nil _ _, l.length + 1, by omega, ?_⟩
    · exact below_new (Below.refl _ _) _
    · exact heap_top0
    · simp [scanA, wasOf]
  case round =>
    obtain ⟨k, gs, v, rfl, hk, hgk, hbel, hblk, hrec, f, hf, hsc⟩ := hrel
    obtain ⟨f, rfl⟩ : ∃ f', f = f' + 1 := ⟨f - 1, by omega⟩
    have HSC := Lib.hid hsc
    have HRC := Lib.hid hrec
    have HBL := Lib.hid hbel
    have BK := Lib.hid hblk
    obtain ⟨c0, z0⟩ := blk_cells hblk
    have l0 := blk_lt hblk
    clear hsc hrec hbel hblk
    have hw1 : IntKind.i64.wrap ((k : Int) * 64) = (k : Int) * 64 := IntWalk.i64_in _ (by omega)
    have hw2 : ((k : Int) * 64).toNat = k * 64 := by omega
    have hp0 : (0 : Int) ≤ (k : Int) * 64 := by omega
    have hp1 : (k : Int) * 64 ≤ (l.length : Int) := by omega
    have hp2 : (k : Int) * 64 ≤ (c : Int) := by omega
    have hdl : (l.drop (64 * k)).length = l.length - k * 64 := by simp; omega
    have HN := Lib.hid (fun A' cap' (hA : l.drop (64 * k) ≠ [] → A' = some ⟨b, off + k * 64, none⟩) (hcp : l.length - k * 64 ≤ cap') => show Calls Try.prog 19 #[.slice A' (l.length - k * 64) cap'] wr (fun e w' => NextIs wr (l.drop (64 * k)) e w') from next_any A' (l.length - k * 64) cap' (l.drop (64 * k)) hdl.symm (by omega) hcp (bytes8_drop H8.out _) wr (by
      by_cases he : l.drop (64 * k) = []
      · exact .inl he
      · refine .inr ⟨b, off + k * 64, hA he, by have := HBL.out.size; omega, fun i hi => ?_⟩
        rw [hdl] at hi
        rw [Nat.add_assoc, keep_cell HBL.out (HC.out (k * 64 + i) (by omega)), List.getD_eq_getElem?_getD, List.getD_eq_getElem?_getD, List.getElem?_drop, Nat.mul_comm k 64]))
    have HL := Lib.hid (fun wx (hx : Recs (w.heap.size + 1) wx v gs) => last_any (w.heap.size + 1) v gs wx (by omega) hx)
    rcases ho : recAt (l.drop (64 * k)) with _ | ⟨⟨q, kd, d⟩, K⟩
    · simp only [NextIs, ho] at HN
      have HS := Lib.hid (show scanA l = (gs, k) from by have := HSC.out; rw [scanF, ho] at this; simpa using this)
      clear hdl ho
      go_wp2_with fail
      all_goals
        refine (HN.out _ _ (by first | exact fun _ => rfl | exact fun h => absurd (List.drop_eq_nil_of_le (by omega)) h) (by omega)).mono ?_
        rintro e w1 ⟨rfl, hb1⟩
        have b1 := keep_blk hb1 BK.out
        have HR1 := Lib.hid (HRC.out.keep hb1)
        have HB1 := Lib.hid (below_call HBL.out hb1)
        clear hb1 c0 z0 l0
        obtain ⟨c1, z1⟩ := blk_cells b1
        have l1 := blk_lt b1
        have B1 := Lib.hid b1
        have ne1 : w1.heap.size ≠ w.heap.size := by omega
        clear b1
        go_wp2_with fail
        refine (HL.out _ (HR1.out.keep (by (repeat (first | (with_reducible exact Below.refl _ _) | (with_reducible refine below_new ?_ _) | (with_reducible refine Below.drew ?_) | (with_reducible refine below_drewNs ?_) | (with_reducible refine below_set ?_ (Nat.le_refl _))))))).mono ?_
        rintro e w2 ⟨q2, k2, D2, m2, d2, rfl, hq2, hb2⟩
        have b2 : w2.heap[w.heap.size]? = some (.cells #[v] 45) := keep_blk hb2 (by (repeat (first | (with_reducible exact B1.out) | (with_reducible refine heap_old ?_) | (with_reducible refine heap_far ne1 ?_))))
        have HR2 := Lib.hid ((HR1.out.keep (by (repeat (first | (with_reducible exact Below.refl _ _) | (with_reducible refine below_new ?_ _) | (with_reducible refine Below.drew ?_) | (with_reducible refine below_drewNs ?_) | (with_reducible refine below_set ?_ (Nat.le_refl _)))))).keep hb2)
        have HB2 := Lib.hid (show Below w.heap.size w w2 from below_call (by (repeat (first | (with_reducible exact HB1.out) | (with_reducible refine below_new ?_ _) | (with_reducible refine Below.drew ?_) | (with_reducible refine below_drewNs ?_) | (with_reducible refine below_set ?_ (by omega))))) hb2)
        clear c1 z1 l1
        obtain ⟨c2, z2⟩ := blk_cells b2
        have l2 := blk_lt b2
        have ne2 : w2.heap.size ≠ w.heap.size := by omega
        clear b2 hb2
        generalize (wasOf gs).isSome = is
        go_wp2_with fail
        refine bodyPost_ret (v := .tuple #[v, .int .i64 k]) ?_ rfl ⟨v, by rw [HS.out], ?_, ?_⟩
        · simp [results, Try.results9, go_sem]
        · rw [HS.out]; exact HR2.out.keep (by (repeat (first | (with_reducible exact Below.refl _ _) | (with_reducible refine below_new ?_ _) | (with_reducible refine Below.drew ?_) | (with_reducible refine below_drewNs ?_) | (with_reducible refine below_set ?_ (Nat.le_refl _)))))
        · (repeat (first | (with_reducible exact HB2.out) | (with_reducible refine below_new ?_ _) | (with_reducible refine Below.drew ?_) | (with_reducible refine below_drewNs ?_) | (with_reducible refine below_set ?_ (by omega))))
    · obtain ⟨hq0, hq1, hK1, hKl, _⟩ := recAt_bd (bytes8_drop H8.out _) ho
      simp only [NextIs, ho] at HN
      have HS := Lib.hid (show scanA l = if stopF q (wasOf gs) then (gs, k) else (gs ++ ((q, kd, d) :: (scanF f (l.drop (64 * (k + K))) (some q)).1), k + (K + (scanF f (l.drop (64 * (k + K))) (some q)).2)) from by
        have := HSC.out
        rw [scanF, ho] at this
        simp only [List.drop_drop, ← Nat.mul_add] at this
        rw [this]
        split <;> simp)
      rw [hdl] at hKl
      clear hdl ho
      have hK0 : ((K : Int) == 0) = false := by simp; omega
      go_wp2_with fail
      all_goals
        refine (HN.out _ _ (by first | exact fun _ => rfl | exact fun h => absurd (List.drop_eq_nil_of_le (by omega)) h) (by omega)).mono ?_
        rintro e w1 ⟨A1, cc, rfl, hf1, hb1⟩
        have b1 := keep_blk hb1 BK.out
        have HR1 := Lib.hid (HRC.out.keep hb1)
        have HB1 := Lib.hid (below_call HBL.out hb1)
        have HF1 := Lib.hid (hf1.mono (a' := w.heap.size + 1) (by omega))
        clear hb1 c0 z0 l0 hf1
        obtain ⟨c1, z1⟩ := blk_cells b1
        have l1 := blk_lt b1
        have B1 := Lib.hid b1
        have ne1 : w1.heap.size ≠ w.heap.size := by omega
        clear b1
        go_wp2_with fail
        refine (HL.out _ (HR1.out.keep (by (repeat (first | (with_reducible exact Below.refl _ _) | (with_reducible refine below_new ?_ _) | (with_reducible refine Below.drew ?_) | (with_reducible refine below_drewNs ?_) | (with_reducible refine below_set ?_ (Nat.le_refl _))))))).mono ?_
        rintro e w2 ⟨q2, k2, D2, m2, d2, rfl, hq2, hb2⟩
        have b2 : w2.heap[w.heap.size]? = some (.cells #[v] 45) := keep_blk hb2 (by (repeat (first | (with_reducible exact B1.out) | (with_reducible refine heap_old ?_) | (with_reducible refine heap_far ne1 ?_))))
        have b3 : w2.heap[w1.heap.size]? = some (.cells #[.int .u32 q, .int .u8 kd, .slice A1 d.length cc] 34) := keep_blk hb2 heap_top0
        have HR2 := Lib.hid ((HR1.out.keep (by (repeat (first | (with_reducible exact Below.refl _ _) | (with_reducible refine below_new ?_ _) | (with_reducible refine Below.drew ?_) | (with_reducible refine below_drewNs ?_) | (with_reducible refine below_set ?_ (Nat.le_refl _)))))).keep hb2)
        have HB2 := Lib.hid (show Below w.heap.size w w2 from below_call (by (repeat (first | (with_reducible exact HB1.out) | (with_reducible refine below_new ?_ _) | (with_reducible refine Below.drew ?_) | (with_reducible refine below_drewNs ?_) | (with_reducible refine below_set ?_ (by omega))))) hb2)
        have HF2 := Lib.hid ((HF1.out.keep (by (repeat (first | (with_reducible exact Below.refl _ _) | (with_reducible refine below_new ?_ _) | (with_reducible refine Below.drew ?_) | (with_reducible refine below_drewNs ?_) | (with_reducible refine below_set ?_ (Nat.le_refl _)))))).keep hb2)
        clear c1 z1 l1
        obtain ⟨c2, z2⟩ := blk_cells b2
        have l2 := blk_lt b2
        have ne2 : w2.heap.size ≠ w.heap.size := by omega
        obtain ⟨c3, z3⟩ := blk_cells b3
        have l3 := blk_lt b3
        have ne3 : w2.heap.size ≠ w1.heap.size := by omega
        have B2 := Lib.hid b2
        have B3 := Lib.hid b3
        clear b2 b3 hb2
        rw [stopF_eq hq2] at HS
        clear hq2
        obtain ⟨xs, hown, hvals⟩ := HR2.out
        have HO := Lib.hid hown
        have HV := Lib.hid hvals
        clear hown hvals
        have HW := Lib.hid (wasOf_add gs (q, kd, d))
        generalize wasOf gs = was at *
        generalize was.isSome = is at *
        rcases hbq : (q == (0 : Int)) with _ | _
        · rcases is with _ | _
          · have HS2 := Lib.hid (by simpa [hbq] using HS.out)
            clear HS
            go_wp2_with (at_builtin; refine wpList_append_own _ rfl (.tmp 45) (.tmp 47) 26 rfl (w.heap.size + 1) 34 i0 (.agg #[.int .u32 0, .int .u8 0, .slice none 0 0]) 3 32 Try.underlying26 HI.out HZ0.out HZ1.out HZ2.out rfl (by decide) v gs.length xs rfl ?hown _ 1 1 [.int .u32 q, .int .u8 kd, .slice A1 d.length cc] rfl rfl ?hnews ?h1 ?h63 ?hbytes ?hbase ?_)
            case hown => exact owns_keep HO.out (by (repeat (first | (with_reducible exact Below.refl _ _) | (with_reducible refine below_new ?_ _) | (with_reducible refine Below.drew ?_) | (with_reducible refine below_drewNs ?_) | (with_reducible refine below_set ?_ (Nat.le_refl _)))))
            case hnews =>
              intro j u hj
              match j, hj with
              | 0, hj => simp at hj; subst hj; simp [Addr.add]
              | 1, hj => simp at hj; subst hj; simp [Addr.add]
              | 2, hj => simp at hj; subst hj; simp [Addr.add]
              | j + 3, hj => simp at hj
            case h1 => intro u hu; simp at hu; rcases hu with rfl | rfl | rfl <;> rfl
            case h63 => simp only [maxLen]; omega
            case hbytes => omega
            case hbase => simp; omega
            intro v' w4 hown4 hg4 _
            obtain ⟨A4, n4, c4', rfl⟩ := owns_slice hown4
            have HV4 := Lib.hid ((HV.out.keep (by (repeat (first | (with_reducible exact Below.refl _ _) | (with_reducible refine below_new ?_ _) | (with_reducible refine Below.drew ?_) | (with_reducible refine below_drewNs ?_) | (with_reducible refine below_set ?_ (Nat.le_refl _)))))).grown hg4 (fun g hg => by
              exact ⟨_, 34, (0, 0), (owns_block (owns_keep HO.out (by (repeat (first | (with_reducible exact Below.refl _ _) | (with_reducible refine below_new ?_ _) | (with_reducible refine Below.drew ?_) | (with_reducible refine below_drewNs ?_) | (with_reducible refine below_set ?_ (Nat.le_refl _)))))) g hg).2.choose_spec, by decide⟩))
            have HF4 := Lib.hid ((HF2.out.keep (by (repeat (first | (with_reducible exact Below.refl _ _) | (with_reducible refine below_new ?_ _) | (with_reducible refine Below.drew ?_) | (with_reducible refine below_drewNs ?_) | (with_reducible refine below_set ?_ (Nat.le_refl _)))))).grown hg4 (fun g hg => by
              exact ⟨_, 34, (0, 0), (owns_block (owns_keep HO.out (by (repeat (first | (with_reducible exact Below.refl _ _) | (with_reducible refine below_new ?_ _) | (with_reducible refine Below.drew ?_) | (with_reducible refine below_drewNs ?_) | (with_reducible refine below_set ?_ (Nat.le_refl _)))))) g hg).2.choose_spec, by decide⟩))
            have b4 : w4.heap[w.heap.size]? = some (.cells #[v] 45) := (hg4.block w.heap.size (by simp; omega) (fun e => by have := (owns_block HO.out _ e.symm).1; omega)).trans (by (repeat (first | (with_reducible exact B2.out) | (with_reducible refine heap_old ?_))))
            have HB4 := Lib.hid (show Below w.heap.size w w4 from (below_new (below_new HB2.out _) _).grown hg4 (by simp; omega) (fun g hg => by have := (owns_block HO.out g hg).1; omega))
            have HO4 := Lib.hid hown4
            clear hg4 hown4 c2 z2 l2 c3 z3 l3
            obtain ⟨c4, z4⟩ := blk_cells b4
            have l4 := blk_lt b4
            have B4 := Lib.hid b4
            clear b4
            have hwk : IntKind.i64.wrap ((k : Int) + (K : Int)) = (k : Int) + (K : Int) := IntWalk.i64_in _ (by omega)
            go_wp2_with fail
            go_roundw
            case rel =>
              refine ⟨k + K, gs ++ [(q, kd, d)], .slice A4 n4 c4', by go_num, by omega, by simp; omega, ?_, ?_, ?_, f, by omega, ?_⟩
              · (repeat (first | (with_reducible exact HB4.out) | (with_reducible refine below_new ?_ _) | (with_reducible refine Below.drew ?_) | (with_reducible refine below_drewNs ?_) | (with_reducible refine below_set ?_ (by omega))))
              · exact heap_set_same B4.out
              · refine ⟨_, owns_set (by simpa using HO4.out) (by simp), (HV4.out.add (D := A1) (c := cc) HO.out.1 HF4.out).set (by simp)⟩
              · rw [HW.out, HS2.out]; simp [Nat.add_assoc]
            case measure => simp [intOf]; omega
          · rcases hbn : (q != (q2 + 1) % 4294967296) with _ | _
            · have HS2 := Lib.hid (by simpa [hbq, hbn] using HS.out)
              clear HS
              go_wp2_with (at_builtin; refine wpList_append_own _ rfl (.tmp 45) (.tmp 47) 26 rfl (w.heap.size + 1) 34 i0 (.agg #[.int .u32 0, .int .u8 0, .slice none 0 0]) 3 32 Try.underlying26 HI.out HZ0.out HZ1.out HZ2.out rfl (by decide) v gs.length xs rfl ?hown _ 1 1 [.int .u32 q, .int .u8 kd, .slice A1 d.length cc] rfl rfl ?hnews ?h1 ?h63 ?hbytes ?hbase ?_)
              case hown => exact owns_keep HO.out (by (repeat (first | (with_reducible exact Below.refl _ _) | (with_reducible refine below_new ?_ _) | (with_reducible refine Below.drew ?_) | (with_reducible refine below_drewNs ?_) | (with_reducible refine below_set ?_ (Nat.le_refl _)))))
              case hnews =>
                intro j u hj
                match j, hj with
                | 0, hj => simp at hj; subst hj; simp [Addr.add]
                | 1, hj => simp at hj; subst hj; simp [Addr.add]
                | 2, hj => simp at hj; subst hj; simp [Addr.add]
                | j + 3, hj => simp at hj
              case h1 => intro u hu; simp at hu; rcases hu with rfl | rfl | rfl <;> rfl
              case h63 => simp only [maxLen]; omega
              case hbytes => omega
              case hbase => simp; omega
              intro v' w4 hown4 hg4 _
              obtain ⟨A4, n4, c4', rfl⟩ := owns_slice hown4
              have HV4 := Lib.hid ((HV.out.keep (by (repeat (first | (with_reducible exact Below.refl _ _) | (with_reducible refine below_new ?_ _) | (with_reducible refine Below.drew ?_) | (with_reducible refine below_drewNs ?_) | (with_reducible refine below_set ?_ (Nat.le_refl _)))))).grown hg4 (fun g hg => by
                exact ⟨_, 34, (0, 0), (owns_block (owns_keep HO.out (by (repeat (first | (with_reducible exact Below.refl _ _) | (with_reducible refine below_new ?_ _) | (with_reducible refine Below.drew ?_) | (with_reducible refine below_drewNs ?_) | (with_reducible refine below_set ?_ (Nat.le_refl _)))))) g hg).2.choose_spec, by decide⟩))
              have HF4 := Lib.hid ((HF2.out.keep (by (repeat (first | (with_reducible exact Below.refl _ _) | (with_reducible refine below_new ?_ _) | (with_reducible refine Below.drew ?_) | (with_reducible refine below_drewNs ?_) | (with_reducible refine below_set ?_ (Nat.le_refl _)))))).grown hg4 (fun g hg => by
                exact ⟨_, 34, (0, 0), (owns_block (owns_keep HO.out (by (repeat (first | (with_reducible exact Below.refl _ _) | (with_reducible refine below_new ?_ _) | (with_reducible refine Below.drew ?_) | (with_reducible refine below_drewNs ?_) | (with_reducible refine below_set ?_ (Nat.le_refl _)))))) g hg).2.choose_spec, by decide⟩))
              have b4 : w4.heap[w.heap.size]? = some (.cells #[v] 45) := (hg4.block w.heap.size (by simp; omega) (fun e => by have := (owns_block HO.out _ e.symm).1; omega)).trans (by (repeat (first | (with_reducible exact B2.out) | (with_reducible refine heap_old ?_))))
              have HB4 := Lib.hid (show Below w.heap.size w w4 from (below_new (below_new HB2.out _) _).grown hg4 (by simp; omega) (fun g hg => by have := (owns_block HO.out g hg).1; omega))
              have HO4 := Lib.hid hown4
              clear hg4 hown4 c2 z2 l2 c3 z3 l3
              obtain ⟨c4, z4⟩ := blk_cells b4
              have l4 := blk_lt b4
              have B4 := Lib.hid b4
              clear b4
              have hwk : IntKind.i64.wrap ((k : Int) + (K : Int)) = (k : Int) + (K : Int) := IntWalk.i64_in _ (by omega)
              go_wp2_with fail
              go_roundw
              case rel =>
                refine ⟨k + K, gs ++ [(q, kd, d)], .slice A4 n4 c4', by go_num, by omega, by simp; omega, ?_, ?_, ?_, f, by omega, ?_⟩
                · (repeat (first | (with_reducible exact HB4.out) | (with_reducible refine below_new ?_ _) | (with_reducible refine Below.drew ?_) | (with_reducible refine below_drewNs ?_) | (with_reducible refine below_set ?_ (by omega))))
                · exact heap_set_same B4.out
                · refine ⟨_, owns_set (by simpa using HO4.out) (by simp), (HV4.out.add (D := A1) (c := cc) HO.out.1 HF4.out).set (by simp)⟩
                · rw [HW.out, HS2.out]; simp [Nat.add_assoc]
              case measure => simp [intOf]; omega
            · have HS2 := Lib.hid (by simpa [hbq, hbn] using HS.out)
              clear HS
              go_wp2_with fail
              refine bodyPost_ret (v := .tuple #[v, .int .i64 k]) ?_ rfl ⟨v, by rw [HS2.out], ?_, ?_⟩
              · simp [results, Try.results9, go_sem]
              · rw [HS2.out]; exact HR2.out.keep (by (repeat (first | (with_reducible exact Below.refl _ _) | (with_reducible refine below_new ?_ _) | (with_reducible refine Below.drew ?_) | (with_reducible refine below_drewNs ?_) | (with_reducible refine below_set ?_ (Nat.le_refl _)))))
              · (repeat (first | (with_reducible exact HB2.out) | (with_reducible refine below_new ?_ _) | (with_reducible refine Below.drew ?_) | (with_reducible refine below_drewNs ?_) | (with_reducible refine below_set ?_ (by omega))))
        · have HS2 := Lib.hid (by simpa [hbq] using HS.out)
          clear HS
          go_wp2_with fail
          refine bodyPost_ret (v := .tuple #[v, .int .i64 k]) ?_ rfl ⟨v, by rw [HS2.out], ?_, ?_⟩
          · simp [results, Try.results9, go_sem]
          · rw [HS2.out]; exact HR2.out.keep (by (repeat (first | (with_reducible exact Below.refl _ _) | (with_reducible refine below_new ?_ _) | (with_reducible refine Below.drew ?_) | (with_reducible refine below_drewNs ?_) | (with_reducible refine below_set ?_ (Nat.le_refl _)))))
          · (repeat (first | (with_reducible exact HB2.out) | (with_reducible refine below_new ?_ _) | (with_reducible refine Below.drew ?_) | (with_reducible refine below_drewNs ?_) | (with_reducible refine below_set ?_ (by omega))))
end Go.Proofs.Ythdeecnppmheoaa
