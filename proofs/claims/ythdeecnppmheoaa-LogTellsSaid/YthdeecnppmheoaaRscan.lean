/- Scan of the reference. -/
import Derived.Test.YthdeecnppmheoaaRrec
namespace Go.Proofs.Ythdeecnppmheoaa
open Go.RowKit
/-- Scan's answer (the reference's). -/
def RScanIs (w : World) (l : List Int) (e : Ending) (w' : World) : Prop :=
  ∃ v, e = .returned (.tuple #[v, .int .i64 ((scanA l).2 : Int)]) ∧ Recs w.heap.size w' v (scanA l).1 ∧ Below w.heap.size w w'
/-- What holds ahead of a round. -/
def RInv (w : World) (l : List Int) (at_ : Nat) (gs : List Rec) (v : Value) (wr : World) : Prop :=
  64 * at_ ≤ l.length ∧ gs.length ≤ at_ ∧ Below w.heap.size w wr ∧ Recs w.heap.size wr v gs ∧ (∀ r ∈ gs, 0 ≤ r.1 ∧ r.1 ≤ 4294967295) ∧
  ∃ f, l.length < f + 64 * at_ ∧ scanA l = (gs ++ (scanF f (l.drop (64 * at_)) (wasOf gs)).1, at_ + (scanF f (l.drop (64 * at_)) (wasOf gs)).2)
/-- What is left of a slice of bytes. -/
theorem rest_read {w : World} {b off k : Nat} {l : List Int} (hc : Has8 w b off l) (hb : b < w.heap.size) (hk : k ≤ l.length) (A' : Option Addr) (hA : l.drop k ≠ [] → A' = some ⟨b, off + k, none⟩) : Read8 w A' (l.drop k) := by
  by_cases he : l.drop k = []
  · exact .inl he
  · refine .inr ⟨b, off + k, hA he, hb, fun i hi => ?_⟩
    rw [List.length_drop] at hi
    rw [Nat.add_assoc, hc (k + i) (by omega), List.getD_eq_getElem?_getD, List.getD_eq_getElem?_getD, List.getElem?_drop]
theorem bd_add {gs : List Rec} {q k : Int} {d : List Int} (h : ∀ r ∈ gs, 0 ≤ r.1 ∧ r.1 ≤ 4294967295) (h0 : 0 ≤ q) (h1 : q ≤ 4294967295) : ∀ r ∈ gs ++ [(q, k, d)], 0 ≤ r.1 ∧ r.1 ≤ 4294967295 := fun r hr => by
  rcases List.mem_append.1 hr with hr | hr
  · exact h r hr
  · simp at hr; subst hr; exact ⟨h0, h1⟩
theorem recs_at' {a n c : Nat} {w : World} {A : Option Addr} {gs : List Rec} (h : Recs a w (.slice A n c) gs) (i : Nat) (r : Rec) (hi : gs[i]? = some r) : ∃ g, A = some ⟨g, 0, none⟩ ∧ ∃ D cD, w.cell? ⟨g, i * 3, none⟩ = some (.int .u32 r.1) ∧ w.cell? ⟨g, i * 3 + 1, none⟩ = some (.int .u8 r.2.1) ∧ w.cell? ⟨g, i * 3 + 2, none⟩ = some (.slice D r.2.2.length cD) ∧ Read8 w D r.2.2 := by
  obtain ⟨g, cap, e, _, _, _, hc⟩ := recs_cells h (fun e => by rw [e] at hi; simp at hi)
  simp only [Value.slice.injEq] at e
  obtain ⟨D, cD, k0, k1, k2, hf⟩ := hc i r hi
  exact ⟨g, e.1, D, cD, k0, k1, k2, hf.read⟩
theorem recs_val {a e s n : Nat} {w : World} {v : Value} {xs : List Value} (h : w.ownsRow a e s v n xs) : ∃ A c, v = .slice A n c := by
  obtain ⟨hx, hr⟩ := h
  rcases hr with ⟨rfl, hz⟩ | ⟨g, cap, cur, rfl, _⟩
  · exact ⟨none, 0, by rw [hz]⟩
  · exact ⟨_, _, rfl⟩
set_option maxHeartbeats 4000000 in
theorem rscan_any (b off n c : Nat) (l : List Int) (hn : n = l.length) (hmax : n ≤ 140737488351232) (hc : n ≤ c) (h8 : Bytes8 l) (w : World) (hlt : b < w.heap.size) (hcell : Has8 w b off l) :
    Calls Try.prog 10 #[.slice (some ⟨b, off, none⟩) n c] w (RScanIs w l) := by
  subst hn
  have H8 := Lib.hid h8
  have HC := Lib.hid hcell
  clear h8 hcell
  obtain ⟨i0, hi, hz0, hz1, hz2⟩ := info_parts info34
  have HI := Lib.hid hi
  have HZ0 := Lib.hid hz0
  have HZ1 := Lib.hid hz1
  have HZ2 := Lib.hid hz2
  clear hi hz0 hz1 hz2
  go_enter Try.func10, Try.ntmps10
  go_wp2_with fail
  go_loopw [4, 5] (fun s4 s5 wr => ∃ (k : Nat) (gs : List Rec) (A : Option Addr) (cv : Nat), s5 = .int .i64 ((64 * k : Nat) : Int) ∧ s4 = .slice A gs.length cv ∧ RInv w l k gs (.slice A gs.length cv) wr) (fun _ s5 _ => l.length - (intOf s5).toNat)
  case atStart =>
    refine ⟨0, [], none, 0, rfl, rfl, by omega, by simp, Below.refl _ _, Recs.nil _ _, fun r hr => by simp at hr, l.length + 1, by omega, ?_⟩
    simp [scanA, wasOf]
  case round =>
    obtain ⟨k, gs, Av, cv, rfl, rfl, hk, hgk, hbel, hrec, hbd, f, hf, hsc⟩ := hrel
    have HBD := Lib.hid hbd
    clear hbd
    obtain ⟨f, rfl⟩ : ∃ f', f = f' + 1 := ⟨f - 1, by omega⟩
    have HSC := Lib.hid hsc
    have HRC := Lib.hid hrec
    have HBL := Lib.hid hbel
    clear hsc hrec hbel
    have hw2 : (64 * (k : Int)).toNat = 64 * k := by omega
    have hp0 : (0 : Int) ≤ 64 * (k : Int) := by omega
    have hp1 : 64 * (k : Int) ≤ (l.length : Int) := by omega
    have hp2 : 64 * (k : Int) ≤ (c : Int) := by omega
    have hdl : (l.drop (64 * k)).length = l.length - 64 * k := by simp
    have HN := Lib.hid (fun A' cap' (hA : l.drop (64 * k) ≠ [] → A' = some ⟨b, off + 64 * k, none⟩) (hcp : l.length - 64 * k ≤ cap') => show Calls Try.prog 21 #[.slice A' (l.length - 64 * k) cap'] wr (fun e w' => RecIs wr (l.drop (64 * k)) e w') from rec_any A' (l.length - 64 * k) cap' (l.drop (64 * k)) hdl.symm (by omega) hcp (bytes8_drop H8.out _) wr (rest_read (Has8.keep HC.out HBL.out) (by have := HBL.out.size; omega) hk A' hA))
    have hqk : 64 * (k : Int) / 64 = (k : Int) := by omega
    rcases ho : recAt (l.drop (64 * k)) with _ | ⟨⟨q, kd, d⟩, K⟩
    · simp only [RecIs, ho] at HN
      have HS := Lib.hid (show scanA l = (gs, k) from by have := HSC.out; rw [scanF, ho] at this; simpa using this)
      clear hdl ho
      go_wp2_with fail
      all_goals
        refine (HN.out _ _ (by first | exact fun _ => rfl | exact fun h => absurd (List.drop_eq_nil_of_le (by omega)) h) (by omega)).mono ?_
        rintro e w1 ⟨rfl, hb1⟩
        have HR1 := Lib.hid (HRC.out.keep hb1)
        have HB1 := Lib.hid (below_call HBL.out hb1)
        clear hb1
        go_wp2_with fail
        go_quiet (fail)
        go_wp2_with fail
        go_ret2
        refine ⟨.slice Av gs.length cv, by rw [HS.out]; rfl, ?_, ?_⟩
        · rw [HS.out]; exact HR1.out.keep (by (repeat (first | (with_reducible exact Below.refl _ _) | (with_reducible refine below_new ?_ _) | (with_reducible refine Below.drew ?_) | (with_reducible refine below_drewNs ?_) | (with_reducible refine below_set ?_ (Nat.le_refl _)))))
        · (repeat (first | (with_reducible exact HB1.out) | (with_reducible refine below_new ?_ _) | (with_reducible refine Below.drew ?_) | (with_reducible refine below_drewNs ?_) | (with_reducible refine below_set ?_ (by omega))))
    · obtain ⟨hq0, hq1, hK1, hKl, _⟩ := recAt_bd (bytes8_drop H8.out _) ho
      simp only [RecIs, ho] at HN
      have HS := Lib.hid (show scanA l = if stopF q (wasOf gs) then (gs, k) else (gs ++ ((q, kd, d) :: (scanF f (l.drop (64 * (k + K))) (some q)).1), k + (K + (scanF f (l.drop (64 * (k + K))) (some q)).2)) from by
        have := HSC.out
        rw [scanF, ho] at this
        simp only [List.drop_drop, ← Nat.mul_add] at this
        rw [this]
        split <;> simp)
      rw [hdl] at hKl
      clear hdl ho
      have hK0 : (64 * (K : Int) == 0) = false := beq_eq_false_iff_ne.2 (by omega)
      have HW := Lib.hid (wasOf_add gs (q, kd, d))
      go_wp2_with fail
      all_goals
        refine (HN.out _ _ (by first | exact fun _ => rfl | exact fun h => absurd (List.drop_eq_nil_of_le (by omega)) h) (by omega)).mono ?_
        rintro e w1 ⟨A1, cc, rfl, hf1, hb1⟩
        have HR1 := Lib.hid (HRC.out.keep hb1)
        have HB1 := Lib.hid (below_call HBL.out hb1)
        have HF1 := Lib.hid (hf1.mono (a' := w.heap.size) HBL.out.size)
        clear hb1 hf1
        go_wp2_with fail
        rcases Nat.eq_zero_or_pos gs.length with h0 | h0
        · have hwas : wasOf gs = none := by rw [List.length_eq_zero_iff.1 h0]; rfl
          have y1 : ((gs.length : Int) == 0) = true := beq_iff_eq.2 (by omega)
          have y2 : decide (0 < gs.length) = false := decide_eq_false (by omega)
          rw [hwas] at HS
          clear hwas h0
          rcases hbq : (q == (0 : Int)) with _ | _
          · have HS2 := Lib.hid (by simpa [hbq, stopF] using HS.out)
            clear HS
            go_quiet (fail)
            clear y1 y2 hbq
            have hx2 : (((w1.alloc (.cells #[.int .u32 q, .int .u8 kd, .slice A1 d.length cc] 34)).drewN nq)).heap[w1.heap.size]? = some (.cells #[.int .u32 q, .int .u8 kd, .slice A1 d.length cc] 34) := heap_drewN heap_top0
            have BW := Lib.hid (show Below w1.heap.size w1 ((w1.alloc (.cells #[.int .u32 q, .int .u8 kd, .slice A1 d.length cc] 34)).drewN nq) from below_drewNs (below_new (Below.refl _ _) _))
            have HB2 := Lib.hid (below_call HB1.out BW.out)
            have HR2 := Lib.hid (HR1.out.keep BW.out)
            have HF2 := Lib.hid (HF1.out.keep BW.out)
            have hsz : ((w1.alloc (.cells #[.int .u32 q, .int .u8 kd, .slice A1 d.length cc] 34)).drewN nq).heap.size = w1.heap.size + 1 := by simp
            obtain ⟨w2, hw2e⟩ : ∃ w2, (w1.alloc (.cells #[.int .u32 q, .int .u8 kd, .slice A1 d.length cc] 34)).drewN nq = w2 := ⟨_, rfl⟩
            rw [hw2e] at hx2 HB2 HR2 HF2 hsz ⊢
            clear hw2e BW
            obtain ⟨c3, z3⟩ := blk_cells hx2
            have l3 := blk_lt hx2
            clear hx2
            obtain ⟨xs, hown, hvals⟩ := HR2.out
            have HO := Lib.hid hown
            have HV := Lib.hid hvals
            clear hown hvals
            go_wp2_with (at_builtin; refine wpList_append_own _ rfl (.tmp 58) (.tmp 60) 26 rfl w.heap.size 34 i0 (.agg #[.int .u32 0, .int .u8 0, .slice none 0 0]) 3 32 Try.underlying26 HI.out HZ0.out HZ1.out HZ2.out rfl (by decide) _ gs.length xs rfl ?hown _ 1 1 [.int .u32 q, .int .u8 kd, .slice A1 d.length cc] rfl rfl ?hnews ?h1 ?h63 ?hbytes ?hbase ?_)
            case hown => exact owns_keep HO.out (by (repeat (first | (with_reducible exact Below.refl _ _) | (with_reducible refine below_new ?_ _) | (with_reducible refine Below.drew ?_) | (with_reducible refine below_drewNs ?_) | (with_reducible refine below_set ?_ (Nat.le_refl _)))))
            case hnews =>
              intro j u hj
              match j, hj with
              | 0, hj => simp at hj; subst hj; rw [addr_add]; exact cell_top hsz.symm rfl
              | 1, hj => simp at hj; subst hj; rw [addr_add]; exact cell_top hsz.symm rfl
              | 2, hj => simp at hj; subst hj; rw [addr_add]; exact cell_top hsz.symm rfl
              | j + 3, hj => simp at hj
            case h1 => intro u hu; simp at hu; rcases hu with rfl | rfl | rfl <;> rfl
            case h63 => simp only [maxLen]; omega
            case hbytes => omega
            case hbase => exact (below_new HB2.out _).size
            intro v' w4 hown4 hg4 _
            obtain ⟨A4, c4', hv4⟩ := recs_val hown4
            subst hv4
            have hty : ∀ g, Value.ownBlock (.slice Av gs.length cv) = some g → ∃ cs t sp, (w2.alloc (.cells #[.int .u32 q, .int .u8 kd, .slice A1 d.length cc] 34)).heap[g]? = some (.cells cs t sp) ∧ t ≠ 5 := fun g hg => ⟨_, 34, (0, 0), (owns_block (owns_keep HO.out (below_new (Below.refl _ _) _)) g hg).2.choose_spec, by decide⟩
            have HV4 := Lib.hid ((HV.out.keep (below_new (Below.refl _ _) _)).grown hg4 hty)
            have HF4 := Lib.hid ((HF2.out.keep (below_new (Below.refl _ _) _)).grown hg4 hty)
            have HB4 := Lib.hid (show Below w.heap.size w w4 from (below_new HB2.out _).grown hg4 (below_new HB2.out _).size (fun g hg => (owns_block HO.out g hg).1))
            have HO4 := Lib.hid hown4
            clear hg4 hown4 c3 z3 l3 hty
            have hwk : IntKind.i64.wrap (64 * (k : Int) + 64 * (K : Int)) = 64 * (k : Int) + 64 * (K : Int) := IntWalk.i64_in _ (by omega)
            go_wp2_with fail
            go_roundw
            case rel =>
              refine ⟨k + K, gs ++ [(q, kd, d)], A4, c4', by go_num, by simp, by omega, by simp; omega, HB4.out, ?_, bd_add HBD.out hq0 hq1, f, by omega, ?_⟩
              · exact ⟨_, by simpa using HO4.out, HV4.out.add HO.out.1 HF4.out⟩
              · rw [HW.out, HS2.out]; simp [Nat.add_assoc]
            case measure => simp [intOf]; omega
          · have HS2 := Lib.hid (by simpa [hbq, stopF] using HS.out)
            clear HS
            go_quiet (fail)
            go_wp2_with fail
            go_ret2
            refine ⟨.slice Av gs.length cv, by rw [HS2.out]; rfl, ?_, ?_⟩
            · rw [HS2.out]; exact HR1.out.keep (by (repeat (first | (with_reducible exact Below.refl _ _) | (with_reducible refine below_new ?_ _) | (with_reducible refine Below.drew ?_) | (with_reducible refine below_drewNs ?_) | (with_reducible refine below_set ?_ (Nat.le_refl _)))))
            · (repeat (first | (with_reducible exact HB1.out) | (with_reducible refine below_new ?_ _) | (with_reducible refine Below.drew ?_) | (with_reducible refine below_drewNs ?_) | (with_reducible refine below_set ?_ (Nat.le_refl _))))
        · obtain ⟨r, hr⟩ : ∃ r, gs[gs.length - 1]? = some r := ⟨_, List.getElem?_eq_getElem (by omega)⟩
          obtain ⟨gb, rfl, D, cD, k0, _, _, _⟩ := recs_at' HR1.out _ r hr
          have hwas : wasOf gs = some r.1 := by simp [wasOf, List.getLast?_eq_getElem?, hr]
          obtain ⟨hp0', hp1'⟩ := HBD.out r (List.mem_of_getElem? hr)
          rw [hwas] at HS
          clear hr hwas
          generalize r.1 = p at *
          have kc2 := cell_old (o := .cells #[.int .u32 q, .int .u8 kd, .slice A1 d.length cc] 34) k0
          clear k0
          have y1 : ((gs.length : Int) == 0) = false := beq_eq_false_iff_ne.2 (by omega)
          have y2 : decide (0 < gs.length) = true := decide_eq_true h0
          have y3 : IntKind.i64.wrap ((gs.length : Int) - 1) = (gs.length : Int) - 1 := IntWalk.i64_in _ (by omega)
          have y4 : ((gs.length : Int) - 1).toNat = gs.length - 1 := by omega
          have y5 : (0 : Int) ≤ (gs.length : Int) - 1 := by omega
          have y6 : (gs.length : Int) - 1 < (gs.length : Int) := by omega
          rcases hp : (p == (4294967295 : Int)) with _ | _
          · have hpn : p ≠ 4294967295 := beq_eq_false_iff_ne.1 hp
            have y7 : IntKind.u32.wrap (p + 1) = p + 1 := wraps_u32 _ (by omega) (by omega)
            rcases hqn : (q != p + 1) with _ | _
            · have hqe : q = p + 1 := by simpa [bne] using hqn
              have HS2 := Lib.hid (show scanA l = (gs ++ ((q, kd, d) :: (scanF f (l.drop (64 * (k + K))) (some q)).1), k + (K + (scanF f (l.drop (64 * (k + K))) (some q)).2)) from by
                have := HS.out
                rwa [if_neg (by simp [stopF]; omega)] at this)
              clear HS hpn hqe
              go_quiet (fail)
              clear y1 y2 y3 y4 y5 y6 y7 kc2 hp hqn
              have hx2 : (((w1.alloc (.cells #[.int .u32 q, .int .u8 kd, .slice A1 d.length cc] 34)).drewN nq)).heap[w1.heap.size]? = some (.cells #[.int .u32 q, .int .u8 kd, .slice A1 d.length cc] 34) := heap_drewN heap_top0
              have BW := Lib.hid (show Below w1.heap.size w1 ((w1.alloc (.cells #[.int .u32 q, .int .u8 kd, .slice A1 d.length cc] 34)).drewN nq) from below_drewNs (below_new (Below.refl _ _) _))
              have HB2 := Lib.hid (below_call HB1.out BW.out)
              have HR2 := Lib.hid (HR1.out.keep BW.out)
              have HF2 := Lib.hid (HF1.out.keep BW.out)
              have hsz : ((w1.alloc (.cells #[.int .u32 q, .int .u8 kd, .slice A1 d.length cc] 34)).drewN nq).heap.size = w1.heap.size + 1 := by simp
              obtain ⟨w2, hw2e⟩ : ∃ w2, (w1.alloc (.cells #[.int .u32 q, .int .u8 kd, .slice A1 d.length cc] 34)).drewN nq = w2 := ⟨_, rfl⟩
              rw [hw2e] at hx2 HB2 HR2 HF2 hsz ⊢
              clear hw2e BW
              obtain ⟨c3, z3⟩ := blk_cells hx2
              have l3 := blk_lt hx2
              clear hx2
              obtain ⟨xs, hown, hvals⟩ := HR2.out
              have HO := Lib.hid hown
              have HV := Lib.hid hvals
              clear hown hvals
              go_wp2_with (at_builtin; refine wpList_append_own _ rfl (.tmp 58) (.tmp 60) 26 rfl w.heap.size 34 i0 (.agg #[.int .u32 0, .int .u8 0, .slice none 0 0]) 3 32 Try.underlying26 HI.out HZ0.out HZ1.out HZ2.out rfl (by decide) _ gs.length xs rfl ?hown _ 1 1 [.int .u32 q, .int .u8 kd, .slice A1 d.length cc] rfl rfl ?hnews ?h1 ?h63 ?hbytes ?hbase ?_)
              case hown => exact owns_keep HO.out (by (repeat (first | (with_reducible exact Below.refl _ _) | (with_reducible refine below_new ?_ _) | (with_reducible refine Below.drew ?_) | (with_reducible refine below_drewNs ?_) | (with_reducible refine below_set ?_ (Nat.le_refl _)))))
              case hnews =>
                intro j u hj
                match j, hj with
                | 0, hj => simp at hj; subst hj; rw [addr_add]; exact cell_top hsz.symm rfl
                | 1, hj => simp at hj; subst hj; rw [addr_add]; exact cell_top hsz.symm rfl
                | 2, hj => simp at hj; subst hj; rw [addr_add]; exact cell_top hsz.symm rfl
                | j + 3, hj => simp at hj
              case h1 => intro u hu; simp at hu; rcases hu with rfl | rfl | rfl <;> rfl
              case h63 => simp only [maxLen]; omega
              case hbytes => omega
              case hbase => exact (below_new HB2.out _).size
              intro v' w4 hown4 hg4 _
              obtain ⟨A4, c4', hv4⟩ := recs_val hown4
              subst hv4
              have hty : ∀ g, Value.ownBlock (.slice (some ⟨gb, 0, none⟩) gs.length cv) = some g → ∃ cs t sp, (w2.alloc (.cells #[.int .u32 q, .int .u8 kd, .slice A1 d.length cc] 34)).heap[g]? = some (.cells cs t sp) ∧ t ≠ 5 := fun g hg => ⟨_, 34, (0, 0), (owns_block (owns_keep HO.out (below_new (Below.refl _ _) _)) g hg).2.choose_spec, by decide⟩
              have HV4 := Lib.hid ((HV.out.keep (below_new (Below.refl _ _) _)).grown hg4 hty)
              have HF4 := Lib.hid ((HF2.out.keep (below_new (Below.refl _ _) _)).grown hg4 hty)
              have HB4 := Lib.hid (show Below w.heap.size w w4 from (below_new HB2.out _).grown hg4 (below_new HB2.out _).size (fun g hg => (owns_block HO.out g hg).1))
              have HO4 := Lib.hid hown4
              clear hg4 hown4 c3 z3 l3 hty
              have hwk : IntKind.i64.wrap (64 * (k : Int) + 64 * (K : Int)) = 64 * (k : Int) + 64 * (K : Int) := IntWalk.i64_in _ (by omega)
              go_wp2_with fail
              go_roundw
              case rel =>
                refine ⟨k + K, gs ++ [(q, kd, d)], A4, c4', by go_num, by simp, by omega, by simp; omega, HB4.out, ?_, bd_add HBD.out hq0 hq1, f, by omega, ?_⟩
                · exact ⟨_, by simpa using HO4.out, HV4.out.add HO.out.1 HF4.out⟩
                · rw [HW.out, HS2.out]; simp [Nat.add_assoc]
              case measure => simp [intOf]; omega
            · have hqe : q ≠ p + 1 := by simpa [bne] using hqn
              have HS2 := Lib.hid (show scanA l = (gs, k) from by
                have := HS.out
                rwa [if_pos (by simp [stopF]; omega)] at this)
              clear HS hpn hqe
              go_quiet (fail)
              go_wp2_with fail
              go_ret2
              refine ⟨.slice _ gs.length cv, by rw [HS2.out]; rfl, ?_, ?_⟩
              · rw [HS2.out]; exact HR1.out.keep (by (repeat (first | (with_reducible exact Below.refl _ _) | (with_reducible refine below_new ?_ _) | (with_reducible refine Below.drew ?_) | (with_reducible refine below_drewNs ?_) | (with_reducible refine below_set ?_ (Nat.le_refl _)))))
              · (repeat (first | (with_reducible exact HB1.out) | (with_reducible refine below_new ?_ _) | (with_reducible refine Below.drew ?_) | (with_reducible refine below_drewNs ?_) | (with_reducible refine below_set ?_ (Nat.le_refl _))))
          · have hpe : p = 4294967295 := beq_iff_eq.1 hp
            have HS2 := Lib.hid (show scanA l = (gs, k) from by
              have := HS.out
              rwa [if_pos (by simp [stopF, hpe]; omega)] at this)
            clear HS hpe
            go_quiet (fail)
            go_wp2_with fail
            go_ret2
            refine ⟨.slice _ gs.length cv, by rw [HS2.out]; rfl, ?_, ?_⟩
            · rw [HS2.out]; exact HR1.out.keep (by (repeat (first | (with_reducible exact Below.refl _ _) | (with_reducible refine below_new ?_ _) | (with_reducible refine Below.drew ?_) | (with_reducible refine below_drewNs ?_) | (with_reducible refine below_set ?_ (Nat.le_refl _)))))
            · (repeat (first | (with_reducible exact HB1.out) | (with_reducible refine below_new ?_ _) | (with_reducible refine Below.drew ?_) | (with_reducible refine below_drewNs ?_) | (with_reducible refine below_set ?_ (Nat.le_refl _))))
end Go.Proofs.Ythdeecnppmheoaa
