/- put4 and Pack of the reference. -/
import Derived.Test.YthdeecnppmheoaaApp
import Derived.ArgAppend
namespace Go.Proofs.Ythdeecnppmheoaa
open Go.RowKit
/-- A grown row of bytes comes back. -/
def GrownIs (B : Nat) (w : World) (l : List Int) (e : Ending) (w' : World) : Prop :=
  ∃ A c, e = .returned (.slice A l.length c) ∧ Own8 B w' (.slice A l.length c) l ∧ ∀ w0, Below B w0 w → Below B w0 w'
theorem read8_new {w : World} {cs : Array Value} {l : List Int} (h : cs = mk8 l) {t : TypeId} : Read8 (w.alloc (.cells cs t)) (some ⟨w.heap.size, 0, none⟩) l :=
  .inr ⟨w.heap.size, 0, rfl, by simp, fun i hi => by rw [Nat.zero_add]; exact cell_top0 (by rw [h]; exact mk8_get hi)⟩
set_option maxHeartbeats 1000000 in
theorem put4_any (B : Nat) (v : Value) (l : List Int) (y : Int) (hy0 : 0 ≤ y) (hy1 : y ≤ 4294967295) (w : World) (hl : l.length ≤ 4294967295) (hB : B ≤ w.heap.size) (hO : Own8 B w v l) :
    Calls Try.prog 24 #[v, .int .u32 y] w (GrownIs B w (l ++ be4 y)) := by
  have HO := Lib.hid hO
  obtain ⟨A, c, rfl, _, _⟩ := hO.slice
  clear hO
  go_enter Try.func24, Try.ntmps24
  go_wp2_with (at_builtin; refine append8 rfl (.tmp 5) (.tmp 17) rfl B _ l rfl ?hown (some ⟨w.heap.size, 0, none⟩) 4 4 (be4 y) rfl rfl ?hA (fun h => by cases h) ?hmax ?hbase ?_)
  case hown => exact HO.out.keep (below_new (Below.refl _ _) _)
  case hA => exact read8_new (by simp [mk8, be4, q0, q1, q2, q3])
  case hmax => omega
  case hbase => simp; omega
  intro A2 c2 w2 hown2 hb2 _
  go_wp2_with fail
  go_ret
  refine ⟨A2, c2, ?_, ?_, fun w0 h => hb2 w0 (h.alloc hB _)⟩
  · simp [be4]
  · simpa [be4] using hown2.out
/-- append of bytes to a slice that is full: a new row. -/
theorem grow8 {ops : Array Oper} {rest : List Oper} {o : Oper} {a : Act} {w : World} {Q : Exit → Act → World → Prop} (hgd : o.guard = none) (s x : Operand)
    (ho : o.op = .call { callee := .builtin .append, args := #[s, x], argTypes := #[23, 23] }) (b off n cap : Nat) (l : List Int) (hs : a.eval s = .slice (some ⟨b, off, none⟩) n cap) (hn : n = l.length) (hc : Has8 w b off l)
    (b' off' m c' : Nat) (data : List Int) (hx : a.eval x = .slice (some ⟨b', off', none⟩) m c') (hm : m = data.length) (hc' : Has8 w b' off' data) (hfull : cap < n + m) (hmax : n + m ≤ 140737488351232)
    (h : ∀ A c w', Hid (Own8 w.heap.size w' (.slice A (l.length + data.length) c) (l ++ data)) → Below w.heap.size w w' → wpList Try.prog ops Q rest (a.put o.dst (.slice A (l.length + data.length) c)) w') : wpList Try.prog ops Q (o :: rest) a w := by
  subst hn
  subst hm
  obtain ⟨i0, hi, hz0, hz1, hz2⟩ := info_parts info5
  have cellof : ∀ (b off : Nat) (l : List Int), Has8 w b off l → ∀ j u, (l.map (Value.int .u8))[j]? = some u → w.cell? ((⟨b, off, none⟩ : Addr).add j) = some u := fun b off l hc j u hj => by
    rw [List.getElem?_map] at hj
    rcases hd' : l[j]? with _ | y
    · rw [hd'] at hj; cases hj
    · rw [hd'] at hj
      have hjl := (List.getElem?_eq_some_iff.1 hd').1
      simp at hj; subst hj
      rw [addr_add, hc j hjl, List.getD_eq_getElem?_getD, hd']; rfl
  refine wpList_append_grows w hgd s x 23 ho 5 i0 (.int .u8 0) 1 1 Try.underlying23 hi hz0 hz1 hz2 rfl (by decide) (some ⟨b, off, none⟩) l.length cap (l.map (Value.int .u8)) hs (fun e => by cases e) (by simp) (fun a' e => by cases e; exact cellof b off l hc) ⟨b', off', none⟩ data.length c' (data.map (Value.int .u8)) hx (by simp) (cellof b' off' data hc') (fun u hu => ?_) hfull (by simp only [maxLen]; omega) (by omega) (fun v' w' ho' hg => ?_)
  · obtain ⟨y, _, rfl⟩ := List.mem_map.1 hu
    rfl
  · have hO : Own8 w.heap.size w' v' (l ++ data) := by unfold Own8; rw [List.length_append, List.map_append]; exact ho'
    obtain ⟨A, c, rfl, _, _⟩ := hO.slice
    rw [List.length_append] at hO ⊢
    exact h A c w' (Lib.hid hO) ((Below.refl _ _).grown hg (Nat.le_refl _) (fun g e => by cases e))
theorem Own8.le {B B' : Nat} {w : World} {v : Value} {l : List Int} (h : Own8 B w v l) (hb : B' ≤ B) : Own8 B' w v l := by
  obtain ⟨h0, h1 | ⟨g, cap, cur, h2, h3, h4⟩⟩ := h
  · exact ⟨h0, .inl h1⟩
  · exact ⟨h0, .inr ⟨g, cap, cur, h2, Nat.le_trans hb h3, h4⟩⟩
theorem magic_conv (w : World) : (convert 23 23 (.slice (some ⟨w.heap.size, 0, none⟩) 4 4)).run Try.prog (w.alloc (.cells #[.int .u8 67, .int .u8 68, .int .u8 88, .int .u8 49] 5)) =
    .ok (.slice (some ⟨w.heap.size, 0, none⟩) 4 4) (w.alloc (.cells #[.int .u8 67, .int .u8 68, .int .u8 88, .int .u8 49] 5 (4, 5))) :=
  Joins.run_convert_bytes_const_at (P := Try.prog) w 23 5 #[.int .u8 67, .int .u8 68, .int .u8 88, .int .u8 49] 4 4 w.heap.size rfl Try.underlying23 Try.underlying5
theorem magic_has (w : World) : Has8 (w.alloc (.cells #[.int .u8 67, .int .u8 68, .int .u8 88, .int .u8 49] 5 (4, 5))) w.heap.size 0 magic := fun i hi => by
  rw [Joins.cell_alloc_mark_at _ _ _ _ _ _ rfl]
  have : i = 0 ∨ i = 1 ∨ i = 2 ∨ i = 3 := by simp only [magic, List.length_cons, List.length_nil] at hi; omega
  rcases this with rfl | rfl | rfl | rfl <;> rfl
theorem pack_split (q k : Int) (d : List Int) : packF q k d = (magic ++ bodyF q k d ++ be4 (sumF (bodyF q k d))) ++ z (padN d.length) ++ [1] := by
  simp [packF, sh, bodyF, z, List.append_assoc]
def sliceLen : Value → Nat | .slice _ n _ => n | _ => 0
set_option maxHeartbeats 2000000 in
theorem rpack_any (seq kind : Int) (hq0 : 0 ≤ seq) (hq1 : seq ≤ 4294967295) (hk0 : 0 ≤ kind) (hk1 : kind ≤ 255) (A : Option Addr) (n c : Nat) (data : List Int) (hn : n = data.length) (hmax : n ≤ 100000) (h8 : Bytes8 data) (w : World) (hA : Read8 w A data) (hAc : A = none → c = 0) :
    Calls Try.prog 15 #[.int .u32 seq, .int .u8 kind, .slice A n c] w (GrownIs w.heap.size w (packF seq kind data)) := by
  subst hn
  have H8 := Lib.hid h8
  have HA := Lib.hid hA
  have kc := fun wx => magic_conv wx
  have HPS := Lib.hid (pack_split seq kind data)
  clear h8 hA
  have hw1 : (data.length : Int) % 4294967296 = (data.length : Int) := by omega
  go_enter Try.func15, Try.ntmps15
  go_wp2_with fail
  refine (put4_any w.heap.size _ [] seq hq0 hq1 w (by decide) (Nat.le_refl _) (Own8.nil _ _)).mono ?_
  rintro e w1 ⟨A1, c1, rfl, ho1, hb1⟩
  have HB1 := Lib.hid (hb1 _ (Below.refl _ _))
  clear hb1
  simp only [List.nil_append] at ho1 ⊢
  have HO1 := Lib.hid ho1
  clear ho1
  go_wp2_with fail
  refine (put4_any w.heap.size _ (be4 seq) (data.length : Int) (by omega) (by omega) w1 (by simp [be4]) HB1.out.size HO1.out).mono ?_
  rintro e w2 ⟨A2, c2, rfl, ho2, hb2⟩
  have HB2 := Lib.hid (hb2 _ HB1.out)
  have HO2 := Lib.hid ho2
  clear hb2 ho2 hw1
  have hl2 : (be4 seq ++ be4 (data.length : Int)).length = 8 := rfl
  rw [hl2] at HO2 ⊢
  go_wp2_with (at_builtin; refine append8 rfl (.tmp 14) (.tmp 16) rfl w.heap.size _ (be4 seq ++ be4 (data.length : Int)) rfl ?hown (some ⟨w2.heap.size, 0, none⟩) 1 1 [kind] rfl rfl ?hA (fun h => by cases h) ?hmax ?hbase ?_)
  case hown => exact HO2.out.keep (below_new (Below.refl _ _) _)
  case hA => exact read8_new (by simp [mk8])
  case hmax => rw [hl2]; decide
  case hbase => exact (below_new HB2.out _).size
  intro A3 c3 w3 hown3 hb3 _
  have HB3 := Lib.hid (hb3 _ (below_new HB2.out _))
  rw [show (be4 seq).length + ((be4 (data.length : Int)).length + 1) = 9 from rfl] at hown3 ⊢
  clear hb3
  go_wp2_with (at_builtin; refine append8 rfl (.tmp 18) (.tmp 19) rfl w.heap.size _ (be4 seq ++ (be4 (data.length : Int) ++ [kind])) rfl ?hown A data.length c data rfl rfl ?hA hAc ?hmax ?hbase ?_)
  case hown => exact hown3.out
  case hA => exact HA.out.keep HB3.out
  case hmax => rw [show (be4 seq ++ (be4 (data.length : Int) ++ [kind])).length = 9 from rfl]; omega
  case hbase => exact HB3.out.size
  intro A4 c4 w4 hown4 hb4 _
  have HB4 := Lib.hid (hb4 _ HB3.out)
  rw [show (be4 seq).length + ((be4 (data.length : Int)).length + (data.length + 1)) = (bodyF seq kind data).length by simp [bodyF, be4]; omega, show be4 seq ++ (be4 (data.length : Int) ++ kind :: data) = bodyF seq kind data from rfl] at hown4
  rw [show (be4 seq).length + ((be4 (data.length : Int)).length + (data.length + 1)) = (bodyF seq kind data).length by simp [bodyF, be4]; omega]
  clear hb4
  have hXL : (bodyF seq kind data).length = data.length + 9 := by simp [bodyF, be4]
  have HX8 := Lib.hid (bodyF_8 (seq := seq) (kind := kind) (data := data) hq0 hq1 hk0 hk1 (by omega) H8.out)
  have HSB := Lib.hid (sumF_bd (bodyF seq kind data))
  generalize bodyF seq kind data = X at *
  have hXne : X ≠ [] := fun h => by rw [h, List.length_nil] at hXL; omega
  obtain ⟨g4, rfl, _, _, hg4, _, hX⟩ := hown4.out.row hXne
  have HX := Lib.hid hX
  have HXL := Lib.hid hXL
  have hx1 : 9 ≤ X.length := by omega
  have hx2 : X.length ≤ 100009 := by omega
  clear hX hXne hXL hown4
  go_wp2_with (at_builtin; refine grow8 rfl (.tmp 22) (.tmp 23) rfl w4.heap.size 0 4 4 magic rfl rfl ?hm g4 0 X.length c4 X rfl rfl ?hx ?hfull ?hmax ?_)
  case hm => exact magic_has w4
  case hx => exact HX.out.keep (Below.alloc (Below.refl _ _) (Nat.le_refl _) _)
  case hfull => omega
  case hmax => omega
  intro A5 c5 w5 hown5 hb5
  have hb5 : Below (w4.alloc (.cells #[.int .u8 67, .int .u8 68, .int .u8 88, .int .u8 49] 5 (4, 5))).heap.size (w4.alloc (.cells #[.int .u8 67, .int .u8 68, .int .u8 88, .int .u8 49] 5 (4, 5))) w5 := by simpa using hb5
  have HB5 := Lib.hid (show Below w.heap.size w w5 from (Below.alloc HB4.out HB4.out.size _).trans (hb5.mono (by have := HB4.out.size; simp; omega)))
  have HX5 := Lib.hid (Has8.keep (HX.out.keep (Below.alloc (Below.refl _ _) (Nat.le_refl _) _)) hb5)
  have hg5 : g4 < w5.heap.size := Nat.lt_of_lt_of_le (by simp; omega) hb5.size
  have HO5 := Lib.hid (Own8.le hown5.out (show w.heap.size ≤ _ by have := HB4.out.size; simp; omega))
  clear hb5 hown5 kc
  have HSUM := Lib.hid (rsum_any (some ⟨g4, 0, none⟩) X.length c4 X rfl w5 (by omega) HX8.out (.inr ⟨g4, 0, rfl, hg5, HX5.out⟩))
  go_wp2_with fail
  refine HSUM.out.mono ?_
  rintro e w5 ⟨rfl, rfl⟩
  generalize sumF X = S at *
  go_wp2_with fail
  refine (put4_any w.heap.size _ (magic ++ X) S HSB.out.1 (by have := HSB.out.2; omega) w5 (by rw [List.length_append, show magic.length = 4 from rfl]; omega) HB5.out.size HO5.out).mono ?_
  rintro e w6 ⟨A6, c6, rfl, ho6, hb6⟩
  have HB6 := Lib.hid (hb6 _ HB5.out)
  have HO6 := Lib.hid ho6
  have hyl : (magic ++ X ++ be4 S).length = data.length + 17 := by rw [List.length_append, List.length_append, HXL.out]; show 4 + (data.length + 9) + 4 = _; omega
  clear hb6 ho6
  generalize magic ++ X ++ be4 S = Y at *
  have HYL := Lib.hid hyl
  rw [HYL.out]
  clear hyl
  go_wp2_with fail
  have hpd : padN data.length + 18 + data.length = (data.length + 81) / 64 * 64 := by unfold padN; omega
  have hpd2 : (data.length + 81) / 64 * 64 ≤ data.length + 81 := by omega
  generalize padN data.length = pd at *
  generalize (data.length + 81) / 64 = K at *
  clear hx1 hx2
  go_loopw [8] (fun s8 wr => ∃ (j : Nat) (A' : Option Addr) (c' : Nat), s8 = .slice A' (data.length + 17 + j) c' ∧ j ≤ pd ∧ Own8 w.heap.size wr (.slice A' (data.length + 17 + j) c') (Y ++ z j) ∧ Below w.heap.size w wr) (fun s8 _ => data.length + 17 + pd - sliceLen s8)
  case atStart => exact ⟨0, A6, c6, rfl, Nat.zero_le _, by rw [show Y ++ z 0 = Y by simp [z]]; rw [HYL.out] at HO6; exact HO6.out, HB6.out⟩
  case round =>
    obtain ⟨j, A', c', rfl, hj, hown, hbel⟩ := hrel
    have HO := Lib.hid hown
    have HB := Lib.hid hbel
    have HZL := Lib.hid (show (Y ++ z j).length = data.length + 17 + j by rw [List.length_append, HYL.out]; simp [z])
    clear hown hbel
    by_cases hlt : j < pd
    · have t1 : (((data.length : Int) + 17 + (j : Int) + 1) % 64 == 0) = false := beq_eq_false_iff_ne.2 (by omega)
      have t2 : (((data.length : Int) + 17 + (j : Int) + 1) % 64 != 0) = true := by rw [bne, t1]; rfl
      have HNX := Lib.hid (show Y ++ z j ++ [0] = Y ++ z (j + 1) by rw [List.append_assoc, show z j ++ [0] = z (j + 1) from (List.replicate_succ' ..).symm])
      go_wp2_with (at_builtin; refine append8 rfl (.tmp 33) (.tmp 34) rfl w.heap.size _ (Y ++ z j) rfl ?hown (some ⟨wr.heap.size, 0, none⟩) 1 1 [0] rfl rfl ?hA (fun h => by cases h) ?hmax ?hbase ?_)
      case hown => exact HO.out.keep (below_new (Below.refl _ _) _)
      case hA => exact read8_new (by simp [mk8])
      case hmax => rw [HZL.out]; omega
      case hbase => exact (below_new HB.out _).size
      intro A8 c8 w8 hown8 hb8 _
      have HB8 := Lib.hid (hb8 _ (below_new HB.out _))
      have HO8 := Lib.hid (show Own8 w.heap.size w8 (.slice A8 (data.length + 17 + (j + 1)) c8) (Y ++ z (j + 1)) by
        have h := hown8.out
        rw [HYL.out, show (z j).length = j by simp [z], ← List.append_assoc, HNX.out] at h
        exact h)
      rw [HYL.out, show (z j).length = j by simp [z]]
      clear hb8 hown8
      go_wp2_with fail
      go_roundw
      case rel => exact ⟨j + 1, A8, c8, rfl, by omega, HO8.out, HB8.out⟩
      case measure => simp [sliceLen]; omega
    · obtain rfl : pd = j := by omega
      have t1 : (((data.length : Int) + 17 + (pd : Int) + 1) % 64 == 0) = true := beq_iff_eq.2 (by omega)
      have t2 : (((data.length : Int) + 17 + (pd : Int) + 1) % 64 != 0) = false := by rw [bne, t1]; rfl
      go_wp2_with (at_builtin; refine append8 rfl (.tmp 36) (.tmp 37) rfl w.heap.size _ (Y ++ z pd) rfl ?hown (some ⟨wr.heap.size, 0, none⟩) 1 1 [1] rfl rfl ?hA (fun h => by cases h) ?hmax ?hbase ?_)
      case hown => exact HO.out.keep (below_new (Below.refl _ _) _)
      case hA => exact read8_new (by simp [mk8])
      case hmax => rw [HZL.out]; omega
      case hbase => exact (below_new HB.out _).size
      intro A8 c8 w8 hown8 hb8 _
      have hb8 := hb8 _ (below_new HB.out _)
      have hE : Y ++ (z pd ++ [1]) = packF seq kind data := by rw [HPS.out, List.append_assoc]
      rw [hE] at hown8
      have hL : Y.length + ((z pd).length + 1) = (packF seq kind data).length := by rw [← hE]; simp
      rw [hL] at hown8 ⊢
      go_wp2_with fail
      go_ret
      exact ⟨A8, c8, rfl, hown8.out, fun w0 hw0 => hw0.trans hb8⟩
end Go.Proofs.Ythdeecnppmheoaa
