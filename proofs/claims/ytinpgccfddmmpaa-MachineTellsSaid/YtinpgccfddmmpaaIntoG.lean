/- machine.Into at an item with groups: they are copied. -/
import Derived.Test.YtinpgccfddmmpaaBlk
import Derived.Deep.DeepCutAuto
import Derived.Deep.RegionHeld3
import Derived.OwnWalk
namespace Go.Proofs.Ytinpgccfddmmpaa
open Go.RowKit
theorem addr_add (b off j : Nat) : (⟨b, off, none⟩ : Addr).add j = ⟨b, off + j, none⟩ := by
  unfold Addr.add; split
  · subst j; rfl
  · rfl
theorem grown_blk {X y : World} {b : Nat} {o : Obj} (hg : X.grownBy y (Value.ownBlock (.slice none 0 0))) (h : X.heap[b]? = some o) : y.heap[b]? = some o := by
  rw [hg.block b (Array.getElem?_eq_some_iff.1 h).1 (by simp [Value.ownBlock])]; exact h
/-- A row of strings. -/
def RowCells (w : World) (g off : Nat) (gs : List ByteArray) : Prop := ∀ i, i < gs.length → w.cell? ⟨g, off + i, none⟩ = some (.string (gs.getD i ByteArray.empty))
theorem rowCells_set {w : World} {b g j off : Nat} {u : Value} {gs : List ByteArray} (hne : b ≠ g) (h : RowCells w g off gs) : RowCells (w.setCell ⟨b, j, none⟩ u) g off gs := fun i hi => by
  rw [World.cell?_setCell_far _ _ _ _ hne]; exact h i hi
theorem rowCells_own {w : World} {g e n : Nat} {cur : Array Value} {gs : List ByteArray} (hb : w.heap[g]? = some (.cells cur e (0, 0))) (ht : cur.toList.take (n * 1) = [] ++ gs.map Value.string) : RowCells w g 0 gs := fun i hi => by
  have h1 : (cur.toList.take (n * 1))[i]? = some (.string (gs.getD i ByteArray.empty)) := by
    rw [ht, List.nil_append, List.getElem?_map, List.getElem?_eq_getElem hi, List.getD_eq_getElem?_getD, List.getElem?_eq_getElem hi]; rfl
  rw [List.getElem?_take] at h1
  split at h1
  · simp only [World.cell?, hb, Nat.zero_add]
    simpa using h1
  · cases h1
set_option maxHeartbeats 4000000 in
theorem into_some (s0 s1 : ByteArray) (ad : Addr) (gc : Nat) (gs : List ByteArray) (hlen : gs.length * 16 ≤ 140737488351232) (s3 : Int) (s4 s5 t f a i p : Bool) (w : World) (hcell : ∀ i, i < gs.length → w.cell? (ad.add i) = some (.string (gs.getD i ByteArray.empty))) :
    Calls Try.prog 17 #[.agg #[.string s0, .string s1, .slice (some ad) gs.length gc, .int .i64 s3, .bool s4, .bool s5], .agg #[.bool t, .bool f, .bool a, .bool i, .bool p]] w (IntoPost s0 s1 gs (subOf t f) a p w) := by
  have hmm := @run_makeMap Try.prog
  have HC := Lib.hid hcell
  clear hcell
  obtain ⟨i0, hi, hz0, hz1, hz2⟩ := info_parts info9
  have HI := Lib.hid hi
  have HZ0 := Lib.hid hz0
  have HZ1 := Lib.hid hz1
  have HZ2 := Lib.hid hz2
  clear hi hz0 hz1 hz2
  have u_1 := ins_step w (.cells #[.string s0, .string s1, .slice (some ad) gs.length gc, .int .i64 s3, .bool s4, .bool s5] 34) (.cells #[.bool t, .bool f, .bool a, .bool i, .bool p] 23) (.cells #[.string ⟨#[]⟩, .string ⟨#[]⟩, .slice none 0 0, .int .i64 0, .bool false, .bool false] 34) #[] _ 0 _ true false 1 (fun _ => by kernel_rfl) rfl rfl
  have u_2 := ins_step w (.cells #[.string s0, .string s1, .slice (some ad) gs.length gc, .int .i64 s3, .bool s4, .bool s5] 34) (.cells #[.bool t, .bool f, .bool a, .bool i, .bool p] 23) (.cells #[.string ⟨#[]⟩, .string ⟨#[]⟩, .slice none 0 0, .int .i64 0, .bool false, .bool false] 34) #[] _ 0 _ false true 2 (fun _ => by kernel_rfl) rfl rfl
  have u_3 := ins_step w (.cells #[.string s0, .string s1, .slice (some ad) gs.length gc, .int .i64 s3, .bool s4, .bool s5] 34) (.cells #[.bool t, .bool f, .bool a, .bool i, .bool p] 23) (.cells #[.string ⟨#[]⟩, .string ⟨#[]⟩, .slice none 0 0, .int .i64 0, .bool false, .bool false] 34) #[] _ 0 _ true true 3 (fun _ => by kernel_rfl) rfl rfl
  have u1_2 := ins_step w (.cells #[.string s0, .string s1, .slice (some ad) gs.length gc, .int .i64 s3, .bool s4, .bool s5] 34) (.cells #[.bool t, .bool f, .bool a, .bool i, .bool p] 23) (.cells #[.string ⟨#[]⟩, .string ⟨#[]⟩, .slice none 0 0, .int .i64 0, .bool false, .bool false] 34) #[ent2 true false 1 0] _ 1 _ false true 2 (fun _ => by kernel_rfl) rfl rfl
  have u1_3 := ins_step w (.cells #[.string s0, .string s1, .slice (some ad) gs.length gc, .int .i64 s3, .bool s4, .bool s5] 34) (.cells #[.bool t, .bool f, .bool a, .bool i, .bool p] 23) (.cells #[.string ⟨#[]⟩, .string ⟨#[]⟩, .slice none 0 0, .int .i64 0, .bool false, .bool false] 34) #[ent2 true false 1 0] _ 1 _ true true 3 (fun _ => by kernel_rfl) rfl rfl
  have u2_1 := ins_step w (.cells #[.string s0, .string s1, .slice (some ad) gs.length gc, .int .i64 s3, .bool s4, .bool s5] 34) (.cells #[.bool t, .bool f, .bool a, .bool i, .bool p] 23) (.cells #[.string ⟨#[]⟩, .string ⟨#[]⟩, .slice none 0 0, .int .i64 0, .bool false, .bool false] 34) #[ent2 false true 2 0] _ 1 _ true false 1 (fun _ => by kernel_rfl) rfl rfl
  have u2_3 := ins_step w (.cells #[.string s0, .string s1, .slice (some ad) gs.length gc, .int .i64 s3, .bool s4, .bool s5] 34) (.cells #[.bool t, .bool f, .bool a, .bool i, .bool p] 23) (.cells #[.string ⟨#[]⟩, .string ⟨#[]⟩, .slice none 0 0, .int .i64 0, .bool false, .bool false] 34) #[ent2 false true 2 0] _ 1 _ true true 3 (fun _ => by kernel_rfl) rfl rfl
  have u3_1 := ins_step w (.cells #[.string s0, .string s1, .slice (some ad) gs.length gc, .int .i64 s3, .bool s4, .bool s5] 34) (.cells #[.bool t, .bool f, .bool a, .bool i, .bool p] 23) (.cells #[.string ⟨#[]⟩, .string ⟨#[]⟩, .slice none 0 0, .int .i64 0, .bool false, .bool false] 34) #[ent2 true true 3 0] _ 1 _ true false 1 (fun _ => by kernel_rfl) rfl rfl
  have u3_2 := ins_step w (.cells #[.string s0, .string s1, .slice (some ad) gs.length gc, .int .i64 s3, .bool s4, .bool s5] 34) (.cells #[.bool t, .bool f, .bool a, .bool i, .bool p] 23) (.cells #[.string ⟨#[]⟩, .string ⟨#[]⟩, .slice none 0 0, .int .i64 0, .bool false, .bool false] 34) #[ent2 true true 3 0] _ 1 _ false true 2 (fun _ => by kernel_rfl) rfl rfl
  have u12_3 := ins_step w (.cells #[.string s0, .string s1, .slice (some ad) gs.length gc, .int .i64 s3, .bool s4, .bool s5] 34) (.cells #[.bool t, .bool f, .bool a, .bool i, .bool p] 23) (.cells #[.string ⟨#[]⟩, .string ⟨#[]⟩, .slice none 0 0, .int .i64 0, .bool false, .bool false] 34) #[ent2 true false 1 0, ent2 false true 2 1] _ 2 _ true true 3 (fun _ => by kernel_rfl) rfl rfl
  have u13_2 := ins_step w (.cells #[.string s0, .string s1, .slice (some ad) gs.length gc, .int .i64 s3, .bool s4, .bool s5] 34) (.cells #[.bool t, .bool f, .bool a, .bool i, .bool p] 23) (.cells #[.string ⟨#[]⟩, .string ⟨#[]⟩, .slice none 0 0, .int .i64 0, .bool false, .bool false] 34) #[ent2 true false 1 0, ent2 true true 3 1] _ 2 _ false true 2 (fun _ => by kernel_rfl) rfl rfl
  have u21_3 := ins_step w (.cells #[.string s0, .string s1, .slice (some ad) gs.length gc, .int .i64 s3, .bool s4, .bool s5] 34) (.cells #[.bool t, .bool f, .bool a, .bool i, .bool p] 23) (.cells #[.string ⟨#[]⟩, .string ⟨#[]⟩, .slice none 0 0, .int .i64 0, .bool false, .bool false] 34) #[ent2 false true 2 0, ent2 true false 1 1] _ 2 _ true true 3 (fun _ => by kernel_rfl) rfl rfl
  have u23_1 := ins_step w (.cells #[.string s0, .string s1, .slice (some ad) gs.length gc, .int .i64 s3, .bool s4, .bool s5] 34) (.cells #[.bool t, .bool f, .bool a, .bool i, .bool p] 23) (.cells #[.string ⟨#[]⟩, .string ⟨#[]⟩, .slice none 0 0, .int .i64 0, .bool false, .bool false] 34) #[ent2 false true 2 0, ent2 true true 3 1] _ 2 _ true false 1 (fun _ => by kernel_rfl) rfl rfl
  have u31_2 := ins_step w (.cells #[.string s0, .string s1, .slice (some ad) gs.length gc, .int .i64 s3, .bool s4, .bool s5] 34) (.cells #[.bool t, .bool f, .bool a, .bool i, .bool p] 23) (.cells #[.string ⟨#[]⟩, .string ⟨#[]⟩, .slice none 0 0, .int .i64 0, .bool false, .bool false] 34) #[ent2 true true 3 0, ent2 true false 1 1] _ 2 _ false true 2 (fun _ => by kernel_rfl) rfl rfl
  have u32_1 := ins_step w (.cells #[.string s0, .string s1, .slice (some ad) gs.length gc, .int .i64 s3, .bool s4, .bool s5] 34) (.cells #[.bool t, .bool f, .bool a, .bool i, .bool p] 23) (.cells #[.string ⟨#[]⟩, .string ⟨#[]⟩, .slice none 0 0, .int .i64 0, .bool false, .bool false] 34) #[ent2 true true 3 0, ent2 false true 2 1] _ 2 _ true false 1 (fun _ => by kernel_rfl) rfl rfl
  simp only [List.push_toArray, List.nil_append, List.cons_append, Nat.reduceAdd, ent2, pr] at u_1 u_2 u_3 u1_2 u1_3 u2_1 u2_3 u3_1 u3_2 u12_3 u13_2 u21_3 u23_1 u31_2 u32_1
  go_enter Try.func17, Try.ntmps17
  go_upto_region 1 with fail
  go_cut [] (fun wx => Below w.heap.size w wx ∧ w.heap.size + 1 + 1 < wx.heap.size ∧ wx.heap[w.heap.size]? = some (.cells #[.string s0, .string s1, .slice (some ad) gs.length gc, .int .i64 (subOf t f), .bool s4, .bool s5] 34) ∧ wx.heap[w.heap.size + 1]? = some (.cells #[.bool t, .bool f, .bool a, .bool i, .bool p] 23) ∧ wx.heap[w.heap.size + 1 + 1]? = some (.cells #[.string ⟨#[]⟩, .string ⟨#[]⟩, .slice none 0 0, .int .i64 0, .bool false, .bool false] 34))
  case first =>
    go_region_held3 (fun w' => w'.cell? ⟨w.heap.size + 1, 0, none⟩ = some (.bool t) ∧ w'.cell? ⟨w.heap.size + 1, 1, none⟩ = some (.bool f)) (refine ⟨?_, ?_⟩ <;> (repeat (first | ((with_reducible refine cell_top ?_ ?_); (focus (simp; done)); exact rfl) | (with_reducible refine cell_drew ?_) | (with_reducible refine cell_old ?_)))) (first | (go_at_call 24; refine (at2_any _ _ _ _ _ _ (by repeat (first | ((with_reducible refine heap_top' ?_); simp; done) | (with_reducible refine heap_drew ?_) | (with_reducible refine heap_old ?_))) (by first | exact tab123 | exact tab132 | exact tab213 | exact tab231 | exact tab312 | exact tab321)).mono ?_; rintro e w' ⟨rfl, rfl⟩))
    all_goals
      go_wp2_with fail
      go_meet
      refine ⟨?_, ?_, ?_, ?_, ?_⟩
      · repeat (first | exact Below.refl _ _ | refine below_new ?_ _ | refine Below.drew ?_)
      · first | (simp; done) | (simp; omega)
      all_goals repeat (first | ((with_reducible refine heap_top' ?_); simp; done) | (with_reducible refine heap_drew ?_) | (with_reducible refine heap_old ?_))
  case rest =>
    obtain ⟨hb, hz, h0, h1, h2⟩ := hcut
    obtain ⟨c0, z0⟩ := blk_cells h0
    obtain ⟨c1, z1⟩ := blk_cells h1
    have H0 := Lib.hid h0
    have H2 := Lib.hid h2
    clear h0 h1 h2
    clear u_1 u_2 u_3 u1_2 u1_3 u2_1 u2_3 u3_1 u3_2 u12_3 u13_2 u21_3 u23_1 u31_2 u32_1 hmm
    go_wp2_with fail
    go_region
    go_wp2_with (at_builtin; refine wpList_append_own _ rfl (.const (.slice none 0 0)) (.tmp 24) 32 rfl wc.heap.size 9 i0 (.string ⟨#[]⟩) 1 16 Try.underlying32 HI.out HZ0.out HZ1.out HZ2.out rfl (by decide) (.slice none 0 0) 0 [] rfl ⟨by simp, Or.inl ⟨rfl, rfl⟩⟩ ad gs.length gc (gs.map Value.string) rfl ?hl ?hnews ?h1 ?h63 ?hbytes ?hbase ?_)
    case hl => simp
    case hnews =>
      intro j u hj
      have hjl : j < gs.length := by have := (List.getElem?_eq_some_iff.1 hj).1; simpa using this
      have hu : u = .string (gs.getD j ByteArray.empty) := by
        rw [List.getElem?_map, List.getElem?_eq_getElem hjl] at hj
        simp only [Option.map_some, Option.some.injEq] at hj
        rw [← hj, List.getD_eq_getElem?_getD, List.getElem?_eq_getElem hjl]; rfl
      have hgb := World.block_lt_of_cell? w _ (HC.out j hjl)
      rw [World.cell?_drew, World.cell?_setCell_far _ _ _ _ (Nat.ne_of_gt hgb), World.cell?_setCell_far _ _ _ _ (Nat.ne_of_gt hgb), hb.cell hgb, HC.out j hjl, hu]
    case h1 =>
      intro u hu
      obtain ⟨s, _, rfl⟩ := List.mem_map.1 hu
      rfl
    case h63 => simp only [maxLen]; omega
    case hbytes => omega
    case hbase => simp
    intro v' w2 hown hg _
    obtain ⟨_, hh⟩ := hown
    have b0 : w2.heap[w.heap.size]? = some (.cells #[.string s0, .string s1, .slice (some ad) gs.length gc, .int .i64 (subOf t f), .bool a, .bool p] 34) := grown_blk hg (heap_drew (heap_set_same (heap_set_same H0.out)))
    have b2 : w2.heap[w.heap.size + 1 + 1]? = some (.cells #[.string ⟨#[]⟩, .string ⟨#[]⟩, .slice none 0 0, .int .i64 0, .bool false, .bool false] 34) := grown_blk hg (heap_drew (heap_set_other (by omega) (heap_set_other (by omega) H2.out)))
    have hB2 : Below w.heap.size w w2 := (Below.drew (below_setA (below_setA hb))).grown hg (by simp; omega) (fun k e => by simp [Value.ownBlock] at e)
    clear hg c0 z0 c1 z1
    obtain ⟨e0, y0⟩ := blk_cells b0
    obtain ⟨e2, y2⟩ := blk_cells b2
    have l0 := blk_lt b0
    have l2 := blk_lt b2
    clear b0 b2
    rcases hh with ⟨rfl, hn⟩ | ⟨g, cap, cur, rfl, hgb2, hblk, hn, hcap, hcur, htake⟩
    · have HE := Lib.hid (List.length_eq_zero_iff.1 hn)
      clear hn
      go_wp2_with fail
      refine bodyPost_ret (v := .agg #[.string s0, .string s1, .slice none 0 0, .int .i64 (subOf t f), .bool a, .bool p]) ?_ rfl ⟨_, _, _, rfl, .inl ⟨HE.out, _, _, rfl⟩, ?_⟩
      · simp [results, Try.results17, go_sem, e2]
      · repeat (first | (with_reducible exact Below.refl _ _) | (with_reducible assumption) | (with_reducible refine below_new ?_ _) | (with_reducible refine Below.drew ?_) | (with_reducible refine below_setA ?_) | (with_reducible refine below_setB ?_) | (with_reducible refine below_setC ?_))
    by_cases hne : gs = []
    · have HE := Lib.hid hne
      clear hblk htake hcur hn hcap hne
      go_wp2_with fail
      refine bodyPost_ret (v := .agg #[.string s0, .string s1, .slice (some ⟨g, 0, none⟩) gs.length cap, .int .i64 (subOf t f), .bool a, .bool p]) ?_ rfl ⟨_, _, _, rfl, .inl ⟨HE.out, _, _, by rw [HE.out]; rfl⟩, ?_⟩
      · simp [results, Try.results17, go_sem, e2]
      · repeat (first | (with_reducible exact Below.refl _ _) | (with_reducible assumption) | (with_reducible refine below_new ?_ _) | (with_reducible refine Below.drew ?_) | (with_reducible refine below_setA ?_) | (with_reducible refine below_setB ?_) | (with_reducible refine below_setC ?_))
    have HN := Lib.hid hne
    have hrow : RowCells w2 g 0 gs := rowCells_own hblk htake
    have hgl : g < w2.heap.size := blk_lt hblk
    clear hblk htake hcur hn hcap hne
    have hn0 : w.heap.size ≠ g := by omega
    have hn2 : w.heap.size + 1 + 1 ≠ g := by omega
    have HR := Lib.hid hrow
    clear hrow
    go_wp2_with fail
    refine bodyPost_ret (v := .agg #[.string s0, .string s1, .slice (some ⟨g, 0, none⟩) gs.length cap, .int .i64 (subOf t f), .bool a, .bool p]) ?_ rfl ⟨_, _, _, rfl, .inr ⟨g, 0, cap, HN.out, rfl, ?_, ?_⟩, ?_⟩
    · simp [results, Try.results17, go_sem, e2]
    · simp; omega
    · change RowCells _ g 0 gs
      repeat (first | (with_reducible exact HR.out) | (with_reducible refine rowCells_set (by assumption) ?_))
    · repeat (first | (with_reducible exact Below.refl _ _) | (with_reducible assumption) | (with_reducible refine below_new ?_ _) | (with_reducible refine Below.drew ?_) | (with_reducible refine below_setA ?_) | (with_reducible refine below_setB ?_) | (with_reducible refine below_setC ?_))
/-- The groups of an item that is handed in: none, or strings at an address. -/
def GroupsAt (w : World) (A : Option Addr) (n c : Nat) (gs : List ByteArray) : Prop :=
  (A = none ∧ n = 0 ∧ c = 0 ∧ gs = []) ∨ ∃ ad, A = some ad ∧ n = gs.length ∧ ∀ i, i < gs.length → w.cell? (ad.add i) = some (.string (gs.getD i ByteArray.empty))
theorem GroupsAt.row {w : World} {A : Option Addr} {n c : Nat} {gs : List ByteArray} (h : GroupsAt w A n c gs) : StrRow w (.slice A n c) gs := by
  rcases h with ⟨rfl, rfl, rfl, rfl⟩ | ⟨ad, rfl, rfl, hc⟩
  · exact .inl ⟨rfl, _, _, rfl⟩
  · by_cases h0 : gs = []
    · subst h0; exact .inl ⟨rfl, _, _, rfl⟩
    · have h1 : 0 < gs.length := List.length_pos_iff.2 h0
      obtain ⟨b, off, spot⟩ := ad
      have hs : spot = none := by simpa [Addr.add] using World.cell?_spot (hc 0 h1)
      subst hs
      have hlt := World.block_lt_of_cell? w _ (hc 0 h1)
      exact .inr ⟨b, off, c, h0, rfl, hlt, fun i hi => by rw [← addr_add]; exact hc i hi⟩
theorem GroupsAt.below {w w' : World} {A : Option Addr} {n c : Nat} {gs : List ByteArray} (h : GroupsAt w A n c gs) (hb : Below w.heap.size w w') : GroupsAt w' A n c gs := by
  rcases h with h | ⟨ad, rfl, hn, hc⟩
  · exact .inl h
  · exact .inr ⟨ad, rfl, hn, fun i hi => by rw [hb.cell (World.block_lt_of_cell? w _ (hc i hi))]; exact hc i hi⟩
theorem into_any (s0 s1 : ByteArray) (A : Option Addr) (n c : Nat) (gs : List ByteArray) (hlen : gs.length * 16 ≤ 140737488351232) (s3 : Int) (s4 s5 t f a i p : Bool) (w : World) (hv : GroupsAt w A n c gs) :
    Calls Try.prog 17 #[.agg #[.string s0, .string s1, .slice A n c, .int .i64 s3, .bool s4, .bool s5], .agg #[.bool t, .bool f, .bool a, .bool i, .bool p]] w (IntoPost s0 s1 gs (subOf t f) a p w) := by
  rcases hv with ⟨rfl, rfl, rfl, rfl⟩ | ⟨ad, rfl, rfl, hc⟩
  · exact (into_nil s0 s1 s3 s4 s5 t f a i p w).mono fun e w' hh => ⟨none, 0, 0, hh.1, .inl ⟨rfl, _, _, rfl⟩, hh.2⟩
  · exact into_some s0 s1 ad c gs hlen s3 s4 s5 t f a i p w hc
end Go.Proofs.Ytinpgccfddmmpaa
