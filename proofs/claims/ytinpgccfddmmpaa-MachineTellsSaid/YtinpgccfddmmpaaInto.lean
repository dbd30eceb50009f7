/- machine.Into at an item: without groups; with groups, which are copied. -/
import Derived.Test.YtinpgccfddmmpaaPair
import Derived.Test.YtinpgccfddmmpaaAw
import Derived.Deep.DeepCutAuto
import Derived.Deep.RegionHeld3
import Derived.OwnWalk
namespace Go.Proofs.Ytinpgccfddmmpaa
open Go.RowKit
theorem blk_cells {w : World} {b : Nat} {cs : Array Value} {t : TypeId} (h : w.heap[b]? = some (.cells cs t)) : (∀ i, w.cell? ⟨b, i, none⟩ = cs[i]?) ∧ (∀ i, w.frozen? ⟨b, i, none⟩ = false) :=
  ⟨fun i => by simp [World.cell?, h], fun i => by simp [World.frozen?, h]⟩
theorem below_setA {a x : World} {i : Nat} {v : Value} (h : Below a.heap.size a x) : Below a.heap.size a (x.setCell ⟨a.heap.size, i, none⟩ v) := h.setCell (Nat.le_refl _) v
theorem below_setB {a x : World} {i : Nat} {v : Value} (h : Below a.heap.size a x) : Below a.heap.size a (x.setCell ⟨a.heap.size + 1, i, none⟩ v) := h.setCell (Nat.le_succ _) v
theorem below_setC {a x : World} {i : Nat} {v : Value} (h : Below a.heap.size a x) : Below a.heap.size a (x.setCell ⟨a.heap.size + 1 + 1, i, none⟩ v) := h.setCell (Nat.le_trans (Nat.le_succ _) (Nat.le_succ _)) v
theorem heap_set_same {w : World} {b i : Nat} {cs : Array Value} {t : TypeId} {v : Value} (h : w.heap[b]? = some (.cells cs t)) : (w.setCell ⟨b, i, none⟩ v).heap[b]? = some (.cells (cs.setIfInBounds i v) t) := by
  simp [World.setCell, Array.getElem?_modify, h]
theorem heap_set_other {w : World} {b c i : Nat} {o : Obj} {v : Value} (hne : b ≠ c) (h : w.heap[c]? = some o) : (w.setCell ⟨b, i, none⟩ v).heap[c]? = some o := by
  simp [World.setCell, Array.getElem?_modify, h, hne]
set_option maxHeartbeats 4000000 in
theorem into_nil (s0 s1 : ByteArray) (s3 : Int) (s4 s5 t f a i p : Bool) (w : World) :
    Calls Try.prog 17 #[.agg #[.string s0, .string s1, .slice none 0 0, .int .i64 s3, .bool s4, .bool s5], .agg #[.bool t, .bool f, .bool a, .bool i, .bool p]] w fun e w' => e = .returned (.agg #[.string s0, .string s1, .slice none 0 0, .int .i64 (subOf t f), .bool a, .bool p]) ∧ Below w.heap.size w w' := by
  have hmm := @run_makeMap Try.prog
  have u_1 := ins_step w (.cells #[.string s0, .string s1, .slice none 0 0, .int .i64 s3, .bool s4, .bool s5] 34) (.cells #[.bool t, .bool f, .bool a, .bool i, .bool p] 23) (.cells #[.string ⟨#[]⟩, .string ⟨#[]⟩, .slice none 0 0, .int .i64 0, .bool false, .bool false] 34) #[] _ 0 _ true false 1 (fun _ => by kernel_rfl) rfl rfl
  have u_2 := ins_step w (.cells #[.string s0, .string s1, .slice none 0 0, .int .i64 s3, .bool s4, .bool s5] 34) (.cells #[.bool t, .bool f, .bool a, .bool i, .bool p] 23) (.cells #[.string ⟨#[]⟩, .string ⟨#[]⟩, .slice none 0 0, .int .i64 0, .bool false, .bool false] 34) #[] _ 0 _ false true 2 (fun _ => by kernel_rfl) rfl rfl
  have u_3 := ins_step w (.cells #[.string s0, .string s1, .slice none 0 0, .int .i64 s3, .bool s4, .bool s5] 34) (.cells #[.bool t, .bool f, .bool a, .bool i, .bool p] 23) (.cells #[.string ⟨#[]⟩, .string ⟨#[]⟩, .slice none 0 0, .int .i64 0, .bool false, .bool false] 34) #[] _ 0 _ true true 3 (fun _ => by kernel_rfl) rfl rfl
  have u1_2 := ins_step w (.cells #[.string s0, .string s1, .slice none 0 0, .int .i64 s3, .bool s4, .bool s5] 34) (.cells #[.bool t, .bool f, .bool a, .bool i, .bool p] 23) (.cells #[.string ⟨#[]⟩, .string ⟨#[]⟩, .slice none 0 0, .int .i64 0, .bool false, .bool false] 34) #[ent2 true false 1 0] _ 1 _ false true 2 (fun _ => by kernel_rfl) rfl rfl
  have u1_3 := ins_step w (.cells #[.string s0, .string s1, .slice none 0 0, .int .i64 s3, .bool s4, .bool s5] 34) (.cells #[.bool t, .bool f, .bool a, .bool i, .bool p] 23) (.cells #[.string ⟨#[]⟩, .string ⟨#[]⟩, .slice none 0 0, .int .i64 0, .bool false, .bool false] 34) #[ent2 true false 1 0] _ 1 _ true true 3 (fun _ => by kernel_rfl) rfl rfl
  have u2_1 := ins_step w (.cells #[.string s0, .string s1, .slice none 0 0, .int .i64 s3, .bool s4, .bool s5] 34) (.cells #[.bool t, .bool f, .bool a, .bool i, .bool p] 23) (.cells #[.string ⟨#[]⟩, .string ⟨#[]⟩, .slice none 0 0, .int .i64 0, .bool false, .bool false] 34) #[ent2 false true 2 0] _ 1 _ true false 1 (fun _ => by kernel_rfl) rfl rfl
  have u2_3 := ins_step w (.cells #[.string s0, .string s1, .slice none 0 0, .int .i64 s3, .bool s4, .bool s5] 34) (.cells #[.bool t, .bool f, .bool a, .bool i, .bool p] 23) (.cells #[.string ⟨#[]⟩, .string ⟨#[]⟩, .slice none 0 0, .int .i64 0, .bool false, .bool false] 34) #[ent2 false true 2 0] _ 1 _ true true 3 (fun _ => by kernel_rfl) rfl rfl
  have u3_1 := ins_step w (.cells #[.string s0, .string s1, .slice none 0 0, .int .i64 s3, .bool s4, .bool s5] 34) (.cells #[.bool t, .bool f, .bool a, .bool i, .bool p] 23) (.cells #[.string ⟨#[]⟩, .string ⟨#[]⟩, .slice none 0 0, .int .i64 0, .bool false, .bool false] 34) #[ent2 true true 3 0] _ 1 _ true false 1 (fun _ => by kernel_rfl) rfl rfl
  have u3_2 := ins_step w (.cells #[.string s0, .string s1, .slice none 0 0, .int .i64 s3, .bool s4, .bool s5] 34) (.cells #[.bool t, .bool f, .bool a, .bool i, .bool p] 23) (.cells #[.string ⟨#[]⟩, .string ⟨#[]⟩, .slice none 0 0, .int .i64 0, .bool false, .bool false] 34) #[ent2 true true 3 0] _ 1 _ false true 2 (fun _ => by kernel_rfl) rfl rfl
  have u12_3 := ins_step w (.cells #[.string s0, .string s1, .slice none 0 0, .int .i64 s3, .bool s4, .bool s5] 34) (.cells #[.bool t, .bool f, .bool a, .bool i, .bool p] 23) (.cells #[.string ⟨#[]⟩, .string ⟨#[]⟩, .slice none 0 0, .int .i64 0, .bool false, .bool false] 34) #[ent2 true false 1 0, ent2 false true 2 1] _ 2 _ true true 3 (fun _ => by kernel_rfl) rfl rfl
  have u13_2 := ins_step w (.cells #[.string s0, .string s1, .slice none 0 0, .int .i64 s3, .bool s4, .bool s5] 34) (.cells #[.bool t, .bool f, .bool a, .bool i, .bool p] 23) (.cells #[.string ⟨#[]⟩, .string ⟨#[]⟩, .slice none 0 0, .int .i64 0, .bool false, .bool false] 34) #[ent2 true false 1 0, ent2 true true 3 1] _ 2 _ false true 2 (fun _ => by kernel_rfl) rfl rfl
  have u21_3 := ins_step w (.cells #[.string s0, .string s1, .slice none 0 0, .int .i64 s3, .bool s4, .bool s5] 34) (.cells #[.bool t, .bool f, .bool a, .bool i, .bool p] 23) (.cells #[.string ⟨#[]⟩, .string ⟨#[]⟩, .slice none 0 0, .int .i64 0, .bool false, .bool false] 34) #[ent2 false true 2 0, ent2 true false 1 1] _ 2 _ true true 3 (fun _ => by kernel_rfl) rfl rfl
  have u23_1 := ins_step w (.cells #[.string s0, .string s1, .slice none 0 0, .int .i64 s3, .bool s4, .bool s5] 34) (.cells #[.bool t, .bool f, .bool a, .bool i, .bool p] 23) (.cells #[.string ⟨#[]⟩, .string ⟨#[]⟩, .slice none 0 0, .int .i64 0, .bool false, .bool false] 34) #[ent2 false true 2 0, ent2 true true 3 1] _ 2 _ true false 1 (fun _ => by kernel_rfl) rfl rfl
  have u31_2 := ins_step w (.cells #[.string s0, .string s1, .slice none 0 0, .int .i64 s3, .bool s4, .bool s5] 34) (.cells #[.bool t, .bool f, .bool a, .bool i, .bool p] 23) (.cells #[.string ⟨#[]⟩, .string ⟨#[]⟩, .slice none 0 0, .int .i64 0, .bool false, .bool false] 34) #[ent2 true true 3 0, ent2 true false 1 1] _ 2 _ false true 2 (fun _ => by kernel_rfl) rfl rfl
  have u32_1 := ins_step w (.cells #[.string s0, .string s1, .slice none 0 0, .int .i64 s3, .bool s4, .bool s5] 34) (.cells #[.bool t, .bool f, .bool a, .bool i, .bool p] 23) (.cells #[.string ⟨#[]⟩, .string ⟨#[]⟩, .slice none 0 0, .int .i64 0, .bool false, .bool false] 34) #[ent2 true true 3 0, ent2 false true 2 1] _ 2 _ true false 1 (fun _ => by kernel_rfl) rfl rfl
  simp only [List.push_toArray, List.nil_append, List.cons_append, Nat.reduceAdd, ent2, pr] at u_1 u_2 u_3 u1_2 u1_3 u2_1 u2_3 u3_1 u3_2 u12_3 u13_2 u21_3 u23_1 u31_2 u32_1
  go_enter Try.func17, Try.ntmps17
  go_upto_region 1 with fail
  go_cut [] (fun wx => Below w.heap.size w wx ∧ w.heap.size + 1 + 1 < wx.heap.size ∧ wx.heap[w.heap.size]? = some (.cells #[.string s0, .string s1, .slice none 0 0, .int .i64 (subOf t f), .bool s4, .bool s5] 34) ∧ wx.heap[w.heap.size + 1]? = some (.cells #[.bool t, .bool f, .bool a, .bool i, .bool p] 23) ∧ wx.heap[w.heap.size + 1 + 1]? = some (.cells #[.string ⟨#[]⟩, .string ⟨#[]⟩, .slice none 0 0, .int .i64 0, .bool false, .bool false] 34))
  case first =>
    go_region_held3 (fun w' => w'.cell? ⟨w.heap.size + 1, 0, none⟩ = some (.bool t) ∧ w'.cell? ⟨w.heap.size + 1, 1, none⟩ = some (.bool f)) (refine ⟨?_, ?_⟩ <;> (repeat (first | ((with_reducible refine cell_top ?_ ?_); (focus (simp; done)); exact rfl) | (with_reducible refine cell_drew ?_) | (with_reducible refine cell_old ?_)))) (first | (go_at_call 24; refine (at2_any _ _ _ _ _ _ (by repeat (first | ((with_reducible refine heap_top' ?_); simp; done) | (with_reducible refine heap_drew ?_) | (with_reducible refine heap_old ?_))) (by first | exact tab123 | exact tab132 | exact tab213 | exact tab231 | exact tab312 | exact tab321)).mono ?_; rintro e w' ⟨rfl, rfl⟩))
    all_goals
      go_wp2_with fail
      go_meet
      refine ⟨?_, ?_, ?_, ?_, ?_⟩
      · repeat (first | exact Below.refl _ _ | refine below_new ?_ _ | refine Below.drew ?_)
      · first | (simp; done) | (simp; omega)
      all_goals repeat (first | ((with_reducible refine heap_top' ?_); simp; done) | (with_reducible refine heap_drew ?_) | (with_reducible refine heap_old ?_))
  case rest =>
    obtain ⟨hb, hz, h0, h1, h2⟩ := hcut
    obtain ⟨c0, z0⟩ := blk_cells h0
    obtain ⟨c1, z1⟩ := blk_cells h1
    obtain ⟨c2, z2⟩ := blk_cells h2
    clear h0 h1 h2
    clear u_1 u_2 u_3 u1_2 u1_3 u2_1 u2_3 u3_1 u3_2 u12_3 u13_2 u21_3 u23_1 u31_2 u32_1 hmm
    go_wp2_with fail
    go_region
    go_wp2
    refine bodyPost_ret (v := .agg #[.string s0, .string s1, .slice none 0 0, .int .i64 (subOf t f), .bool a, .bool p]) ?_ rfl ⟨rfl, ?_⟩
    · simp [results, Try.results17, go_sem, c2]
    · repeat (first | (with_reducible exact Below.refl _ _) | (with_reducible assumption) | (with_reducible refine below_new ?_ _) | (with_reducible refine Below.drew ?_) | (with_reducible refine below_setA ?_) | (with_reducible refine below_setB ?_) | (with_reducible refine below_setC ?_))

/-- A slice of strings, read: nothing, or a row of cells. -/
def StrRow (w : World) (v : Value) (gs : List ByteArray) : Prop :=
  (gs = [] ∧ ∃ A c, v = .slice A 0 c) ∨ (∃ b off c, gs ≠ [] ∧ v = .slice (some ⟨b, off, none⟩) gs.length c ∧ b < w.heap.size ∧ ∀ i, i < gs.length → w.cell? ⟨b, off + i, none⟩ = some (.string (gs.getD i ByteArray.empty)))
theorem StrRow.below {w w' : World} {v : Value} {gs : List ByteArray} (h : StrRow w v gs) (hb : Below w.heap.size w w') : StrRow w' v gs := by
  rcases h with h | ⟨b, off, c, hne, hv, hlt, hc⟩
  · exact .inl h
  · exact .inr ⟨b, off, c, hne, hv, Nat.lt_of_lt_of_le hlt hb.size, fun i hi => by rw [hb.cell (p := ⟨b, off + i, none⟩) hlt]; exact hc i hi⟩
/-- What Into hands back. -/
def IntoPost (s0 s1 : ByteArray) (gs : List ByteArray) (s3 : Int) (a p : Bool) (w : World) (e : Ending) (w' : World) : Prop :=
  ∃ A n c, e = .returned (.agg #[.string s0, .string s1, .slice A n c, .int .i64 s3, .bool a, .bool p]) ∧ StrRow w' (.slice A n c) gs ∧ Below w.heap.size w w'
theorem info9 : (Try.prog.info? 9).map (fun i => (i.zero, i.size, i.bytes)) = some (some (.string ⟨#[]⟩), 1, 16) := by kernel_rfl
end Go.Proofs.Ytinpgccfddmmpaa
