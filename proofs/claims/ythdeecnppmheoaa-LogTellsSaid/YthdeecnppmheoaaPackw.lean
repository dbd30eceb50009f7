/- Pack walked. -/
import Derived.Test.YthdeecnppmheoaaPack
import Derived.OwnWalk
namespace Go.Proofs.Ythdeecnppmheoaa
open Go.RowKit
theorem be4_8 (v : Int) (h0 : 0 ≤ v) (h1 : v ≤ 4294967295) : Bytes8 (be4 v) := fun x hx => by
  simp [be4, q0, q1, q2, q3] at hx
  omega
theorem bodyF_8 {seq kind : Int} {data : List Int} (hq0 : 0 ≤ seq) (hq1 : seq ≤ 4294967295) (hk0 : 0 ≤ kind) (hk1 : kind ≤ 255) (hl : (data.length : Int) ≤ 4294967295) (h8 : Bytes8 data) : Bytes8 (bodyF seq kind data) := fun x hx => by
  unfold bodyF at hx
  simp only [List.mem_append, List.mem_singleton] at hx
  rcases hx with h | h | rfl | h
  · exact be4_8 _ hq0 hq1 x h
  · exact be4_8 _ (by omega) hl x h
  · exact ⟨hk0, hk1⟩
  · exact h8 x h
/-- Pack's answer. -/
def PackIs (w : World) (l : List Int) (e : Ending) (w' : World) : Prop :=
  ∃ g, e = .returned (.slice (some ⟨g, 0, none⟩) l.length l.length) ∧ RowAt w' g l ∧ w.heap.size ≤ g ∧ Below w.heap.size w w'
set_option maxHeartbeats 2000000 in
theorem pack_any (seq kind : Int) (hq0 : 0 ≤ seq) (hq1 : seq ≤ 4294967295) (hk0 : 0 ≤ kind) (hk1 : kind ≤ 255) (A : Option Addr) (n c : Nat) (data : List Int) (hn : n = data.length) (hmax : n ≤ 4294967000) (h8 : Bytes8 data) (w : World) (hA : Read8 w A data) :
    Calls Try.prog 14 #[.int .u32 seq, .int .u8 kind, .slice A n c] w (PackIs w (packF seq kind data)) := by
  subst hn
  have H8 := Lib.hid h8
  have HA := Lib.hid hA
  clear h8 hA
  obtain ⟨i0, hi, hz0, hz1, hz2⟩ := info_parts info5
  have HI := Lib.hid hi
  have HZ0 := Lib.hid hz0
  have HZ1 := Lib.hid hz1
  have HZ2 := Lib.hid hz2
  clear hi hz0 hz1 hz2
  have HB := Lib.hid (fun wx => blocks_nat data.length (by omega) wx)
  have HP := Lib.hid (packF_length seq kind data)
  have HP0 := Lib.hid (show packF seq kind data = sh magic (be4 seq) (be4 data.length) [kind] data (be4 (sumF (bodyF seq kind data))) (List.replicate (padN data.length) 0 ++ [1]) from rfl)
  have HM := Lib.hid (sh0 data.length)
  have hpl : padN data.length + 18 + data.length = (data.length + 81) / 64 * 64 := by unfold padN; omega
  have hpl2 : 81 + data.length < (data.length + 81) / 64 * 64 + 64 := by omega
  have hpl3 : (data.length + 81) / 64 * 64 ≤ data.length + 81 := by omega
  generalize packF seq kind data = P at *
  generalize padN data.length = pd at *
  generalize (data.length + 81) / 64 = K at *
  have hw1 : IntKind.i64.wrap ((K : Int) * 64) = (K : Int) * 64 := IntWalk.i64_in _ (by omega)
  have n4 : ¬ K * 64 = 4 := by omega
  have n8 : ¬ K * 64 = 8 := by omega
  have n13 : ¬ K * 64 = 13 := by omega
  have nS : ¬ K * 64 = 13 + data.length := by omega
  have p4 : (4 : Int) ≤ (K : Int) * 64 := by omega
  have p8 : (8 : Int) ≤ (K : Int) * 64 := by omega
  have p12 : (12 : Int) < (K : Int) * 64 := by omega
  have p13 : (13 : Int) ≤ (K : Int) * 64 := by omega
  go_enter Try.func14, Try.ntmps14
  go_wp2_with fail
  refine (HB.out _).mono ?_; rintro e w ⟨rfl, rfl⟩
  go_wp2_with (at_make; refine wpList_make_full _ rfl (.tmp 11) (.tmp 11) 23 rfl w.heap.size 5 i0 (.int .u8 0) 1 Try.underlying23 HI.out HZ0.out HZ1.out .i64 .i64 ((K : Int) * 64) ((K : Int) * 64) (K * 64) rfl rfl (by omega) (by omega) ?b2 ?b3 ?b4 ?_)
  case b2 => rw [HZ2.out]; omega
  case b3 => simp only [maxLen]; omega
  case b4 => exact Nat.le_refl _
  intro w1 hown hg1
  have R1 : Hid (RowAt w1 w.heap.size (sh (z 4) (z 4) (z 4) (z 1) (z data.length) (z 4) (z pd ++ z 1))) := Lib.hid (by
    rw [← HM.out]; exact row_made (B := w.heap.size) (by simpa [Value.cells] using hown))
  have B1 := Lib.hid (show Below w.heap.size w w1 from (Below.refl _ _).grown hg1 (Nat.le_refl _) (fun g hg => by cases hg))
  clear hown hg1
  go_wp2_with (refine copy_magic rfl (.tmp 13) (.const (.string magicStr)) rfl w.heap.size 0 (K * 64) (K * 64) rfl rfl _ R1.out ?hle ?hfit ?_)
  case hle => omega
  case hfit => rw [← HM.out]; simp [z]; omega
  intro w2 R2 hb2
  have R2 : Hid (RowAt w2 w.heap.size (sh magic (z 4) (z 4) (z 1) (z data.length) (z 4) (z pd ++ z 1))) := Lib.hid (by
    have := R2.out; rwa [sh1 _ _ _ _ _ _ _ _ (by simp [magic, z])] at this)
  have B2 := Lib.hid (hb2 _ _ B1.out (Nat.le_refl _))
  clear hb2
  go_wp2_with fail
  refine (put_row w.heap.size 4 (K * 64 - 4) (K * 64 - 4) seq hq0 hq1 (by omega) w2 _ R2.out (by simp [sh, z, magic])).mono ?_
  rintro e w3 ⟨rfl, hr3, hb3⟩
  have R3 : Hid (RowAt w3 w.heap.size (sh magic (be4 seq) (z 4) (z 1) (z data.length) (z 4) (z pd ++ z 1))) := Lib.hid (by
    rwa [sh2 _ _ _ _ _ _ _ _ 4 rfl (by simp [be4, z])] at hr3)
  have B3 := Lib.hid (hb3 _ _ B2.out (Nat.le_refl _))
  clear hb3 hr3
  have hwN : ((data.length : Int)) % 4294967296 = (data.length : Int) := by omega
  go_wp2_with fail
  clear hwN
  refine (put_row w.heap.size 8 (K * 64 - 8) (K * 64 - 8) (data.length : Int) (by omega) (by omega) (by omega) w3 _ R3.out (by simp [sh, z, magic, be4])).mono ?_
  rintro e w4 ⟨rfl, hr4, hb4⟩
  have R4 : Hid (RowAt w4 w.heap.size (sh magic (be4 seq) (be4 data.length) (z 1) (z data.length) (z 4) (z pd ++ z 1))) := Lib.hid (by
    rwa [sh3 _ _ _ _ _ _ _ _ 8 rfl (by simp [be4, z])] at hr4)
  have B4 := Lib.hid (hb4 _ _ B3.out (Nat.le_refl _))
  clear hb4 hr4
  have c12 := R4.out.cell 12 (by simp [sh, z, magic, be4])
  have z12 := R4.out.melted 12
  go_wp2_with (refine copy_row rfl (.tmp 29) (.tmp 30) rfl w.heap.size 13 (K * 64 - 13) (K * 64 - 13) rfl A data.length c rfl _ data (by with_reducible exact RowAt.set R4.out 12 kind) rfl ?hle ?hfit ?hA ?_)
  case hle => omega
  case hfit => simp [sh, z, magic, be4]; omega
  case hA => exact HA.out.keep (below_set B4.out (Nat.le_refl _))
  intro w5 hr5 hb5
  have R5 : Hid (RowAt w5 w.heap.size (sh magic (be4 seq) (be4 data.length) [kind] data (z 4) (z pd ++ z 1))) := Lib.hid (by
    have := hr5.out
    rwa [show z 1 = [0] from rfl, sh4 _ _ _ _ _ _ 0 kind 12 rfl, sh5 _ _ _ _ _ _ _ _ 13 rfl (by simp [z])] at this)
  have B5 := Lib.hid (hb5 _ _ (below_set B4.out (Nat.le_refl _)) (Nat.le_refl _))
  clear hb5 hr5 c12 z12
  have HSUM := Lib.hid (fun (wx : World) (hx : RowAt wx w.heap.size (sh magic (be4 seq) (be4 data.length) [kind] data (z 4) (z pd ++ z 1))) => sum_any (some ⟨w.heap.size, 4, none⟩) (13 + data.length - 4) (K * 64 - 4) (bodyF seq kind data) (by simp [bodyF, be4]; omega) wx (by simp [bodyF, be4]; omega) (bodyF_8 hq0 hq1 hk0 hk1 (by omega) H8.out) (by
    have := has8_mid hx.cells hx.lt 4 (data.length + 9)
    rw [sh_body _ _ _ _ _ _ _ rfl rfl rfl rfl, Nat.zero_add] at this
    exact this))
  have HS := Lib.hid (sumF_bd (bodyF seq kind data))
  generalize sumF (bodyF seq kind data) = S at *
  have pS : (13 : Int) + (data.length : Int) ≤ (K : Int) * 64 := by omega
  have pS0 : (0 : Int) ≤ (13 : Int) + (data.length : Int) := by omega
  have pS4 : (4 : Int) ≤ (13 : Int) + (data.length : Int) := by omega
  have pSw : IntKind.i64.wrap ((13 : Int) + (data.length : Int)) = (13 : Int) + (data.length : Int) := IntWalk.i64_in _ (by omega)
  have pSn : ((13 : Int) + (data.length : Int)).toNat = 13 + data.length := by omega
  go_wp2_with fail
  go_region_held3 (fun _ => True) (exact trivial) (first | (go_at_call 11; refine (HSUM.out _ (by exact R5.out)).mono ?_; rintro e ws ⟨rfl, rfl⟩) | (go_at_call 23; refine (put_row w.heap.size (13 + data.length) (K * 64 - (13 + data.length)) (K * 64 - (13 + data.length)) S HS.out.1 (by have := HS.out.2; omega) (by omega) _ (sh magic (be4 seq) (be4 data.length) [kind] data (z 4) (z pd ++ z 1)) (by exact R5.out) (by simp [sh, z, magic, be4]; omega)).mono ?_; rintro e w6 ⟨rfl, hr6, hb6⟩))
  have R6 : Hid (RowAt w6 w.heap.size (sh magic (be4 seq) (be4 data.length) [kind] data (be4 S) (z pd ++ z 1))) := Lib.hid (by
    rwa [sh6 _ _ _ _ _ _ _ _ (13 + data.length) (by simp [magic, be4]) (by simp [be4, z])] at hr6)
  have B6 := Lib.hid (hb6 _ _ (Below.drew B5.out) (Nat.le_refl _))
  clear hr6 hb6 pSw pSn pS0 pS4 pS
  have cl := R6.out.cell (K * 64 - 1) (by simp [sh, z, magic, be4]; omega)
  have zl := R6.out.melted (K * 64 - 1)
  have q1' : (1 : Int) ≤ (K : Int) * 64 := by omega
  have q2' : IntKind.i64.wrap ((K : Int) * 64 - 1) = (K : Int) * 64 - 1 := IntWalk.i64_in _ (by omega)
  have q3' : ((K : Int) * 64 - 1).toNat = K * 64 - 1 := by omega
  have q4' : (K : Int) * 64 - 1 < (K : Int) * 64 := by omega
  go_wp2_with fail
  go_ret
  refine ⟨w.heap.size, by rw [HP.out]; rfl, ?_, Nat.le_refl _, below_set B6.out (Nat.le_refl _)⟩
  have := R6.out.set (K * 64 - 1) 1
  rw [show z 1 = [0] from rfl, sh7 _ _ _ _ _ _ _ 0 1 (K * 64 - 1) (by simp [magic, be4, z]; omega)] at this
  rw [HP0.out]
  exact this
end Go.Proofs.Ythdeecnppmheoaa
