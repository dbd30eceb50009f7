/- Bytes: a copy, two held against each other, rows of our own, appends, copies into a row; Own, Same, Plain, Kept. -/
import Derived.Test.YtcegkpgidineaaaKit
import Derived.OwnWalk
import Derived.Laws.BytesArg
import Derived.Lib.SmallJoins
import Derived.Laws.CopyOwn
import Derived.Lib.BufferWrite
import Derived.Shelf.Spec.SlicesInsert
import Derived.Laws.AppendOwnNone
import Derived.BigQuiet
import Derived.Deep.QuietTactic
import Derived.LoopTactic
import Derived.LoopN
import Derived.Laws.BitsLemmas
import Derived.Deep.LoopGhost
import Derived.Deep.CutBlock
import Derived.Deep.DeepCutAuto
import Derived.ArgAppend
namespace Go.Proofs.Ytcegkpgidineaaa
open Go.RowKit
section copies
open Go.Lib
theorem info5 : (Try.prog.info? 5).map (fun i => (i.zero, i.size, i.bytes)) = some (some (.int .u8 0), 1, 1) := by kernel_rfl
/-- A row of bytes, out of an owned row. -/
theorem read8_own {w : World} {g e n : Nat} {cur : Array Value} {l : List Int} (hb : w.heap[g]? = some (.cells cur e (0, 0))) (ht : cur.toList.take (n * 1) = l.map (Value.int .u8)) : ∀ i, i < l.length → w.cell? ⟨g, 0 + i, none⟩ = some (.int .u8 (l.getD i 0)) := fun i hi => by
  have h1 : (cur.toList.take (n * 1))[i]? = some (.int .u8 (l.getD i 0)) := by
    rw [ht, List.getElem?_map, List.getElem?_eq_getElem hi, List.getD_eq_getElem?_getD, List.getElem?_eq_getElem hi]; rfl
  rw [List.getElem?_take] at h1
  split at h1
  · simp only [World.cell?, hb, Nat.zero_add]
    simpa using h1
  · cases h1
/-- Bytes in a block of bytes, from a on. -/
def Fresh8 (a : Nat) (w : World) (A : Option Addr) (l : List Int) : Prop := l = [] ∨ ∃ b off cur sp, A = some ⟨b, off, none⟩ ∧ a ≤ b ∧ w.heap[b]? = some (.cells cur 5 sp) ∧ ∀ i, i < l.length → w.cell? ⟨b, off + i, none⟩ = some (.int .u8 (l.getD i 0))
theorem obj_lt {y : World} {b : Nat} {o : Obj} (h : y.heap[b]? = some o) : b < y.heap.size := (Array.getElem?_eq_some_iff.1 h).1
theorem Fresh8.read {a : Nat} {w : World} {A : Option Addr} {l : List Int} (h : Fresh8 a w A l) : Read8 w A l := by
  rcases h with h | ⟨b, off, cur, sp, rfl, _, hlt, hc⟩
  · exact .inl h
  · exact .inr ⟨b, off, rfl, obj_lt hlt, hc⟩
theorem cell_far {w : World} {a c : Addr} {v u : Value} (hne : a.block ≠ c.block) (h : w.cell? c = some u) : (w.setCell a v).cell? c = some u := (World.cell?_setCell_far w a c v hne).trans h
theorem heap_far {w : World} {a : Addr} {b : Nat} {o : Obj} {v : Value} (hne : a.block ≠ b) (h : w.heap[b]? = some o) : (w.setCell a v).heap[b]? = some o := by
  simp [World.setCell, Array.getElem?_modify, h, hne]
/-- Elsewhere was stored. -/
theorem Fresh8.set {a : Nat} {w : World} {A : Option Addr} {l : List Int} {p : Addr} {v : Value} (h : Fresh8 a w A l) (hp : p.block < a) : Fresh8 a (w.setCell p v) A l := by
  rcases h with h | ⟨b, off, cur, sp, rfl, hab, hlt, hc⟩
  · exact .inl h
  · exact .inr ⟨b, off, cur, sp, rfl, hab, heap_far (by simp; omega) hlt, fun i hi => cell_far (by simp; omega) (hc i hi)⟩
/-- Into a block of another kind was stored. -/
theorem Fresh8.put {a : Nat} {w : World} {A : Option Addr} {l : List Int} {p : Addr} {v : Value} {cs : Array Value} {t : TypeId} {sp : Nat × Nat} (h : Fresh8 a w A l) (hp : w.heap[p.block]? = some (.cells cs t sp)) (ht : t ≠ 5) : Fresh8 a (w.setCell p v) A l := by
  rcases h with h | ⟨b, off, cur, sp', rfl, hab, hlt, hc⟩
  · exact .inl h
  · have hne : p.block ≠ b := fun e => by rw [e, hlt] at hp; simp at hp; exact ht hp.2.1.symm
    exact .inr ⟨b, off, cur, sp', rfl, hab, heap_far hne hlt, fun i hi => cell_far hne (hc i hi)⟩
theorem Fresh8.keep {a : Nat} {X y : World} {A : Option Addr} {l : List Int} (h : Fresh8 a X A l) (hb : Below X.heap.size X y) : Fresh8 a y A l := by
  rcases h with h | ⟨b, off, cur, sp, rfl, hab, hlt, hc⟩
  · exact .inl h
  · exact .inr ⟨b, off, cur, sp, rfl, hab, keep_blk hb hlt, fun i hi => keep_cell hb (hc i hi)⟩
theorem Fresh8.mono {a a' : Nat} {w : World} {A : Option Addr} {l : List Int} (h : Fresh8 a w A l) (haa : a' ≤ a) : Fresh8 a' w A l := by
  rcases h with h | ⟨b, off, cur, sp, rfl, hab, hlt, hc⟩
  · exact .inl h
  · exact .inr ⟨b, off, cur, sp, rfl, Nat.le_trans haa hab, hlt, hc⟩
/-- A row of another kind has grown. -/
theorem Fresh8.grown {a : Nat} {w w' : World} {A : Option Addr} {l : List Int} {r : Option Nat} (h : Fresh8 a w A l) (hg : w.grownBy w' r) (hr : ∀ g, r = some g → ∃ cs t sp, w.heap[g]? = some (.cells cs t sp) ∧ t ≠ 5) : Fresh8 a w' A l := by
  rcases h with h | ⟨b, off, cur, sp, rfl, hab, hlt, hc⟩
  · exact .inl h
  · have hne : some b ≠ r := fun e => by
      obtain ⟨cs, t, sp', h1, h2⟩ := hr b e.symm
      rw [hlt] at h1; simp at h1; exact h2 h1.2.1.symm
    have he := hg.block b (obj_lt hlt) hne
    exact .inr ⟨b, off, cur, sp, rfl, hab, he.trans hlt, fun i hi => (World.cell?_of_block he).trans (hc i hi)⟩
/-- A new slice of these bytes comes back. -/
def NewBytes (w : World) (l : List Int) (e : Ending) (w' : World) : Prop :=
  ∃ A c, e = .returned (.slice A l.length c) ∧ Fresh8 w.heap.size w' A l ∧ Below w.heap.size w w'
set_option maxHeartbeats 2000000 in
theorem clone_any (b off n c : Nat) (l : List Int) (hn : n = l.length) (hl : l.length ≤ 140737488351232) (w : World) (hcell : ∀ i, i < l.length → w.cell? ⟨b, off + i, none⟩ = some (.int .u8 (l.getD i 0))) :
    Calls Try.prog 26 #[.slice (some ⟨b, off, none⟩) n c] w (NewBytes w l) := by
  subst hn
  have HC := Lib.hid hcell
  clear hcell
  obtain ⟨i0, hi, hz0, hz1, hz2⟩ := info_parts info5
  have HI := Lib.hid hi
  have HZ0 := Lib.hid hz0
  have HZ1 := Lib.hid hz1
  have HZ2 := Lib.hid hz2
  clear hi hz0 hz1 hz2
  have hsn := fun w => Lib.run_eql_slice_nil (P := Try.prog) w 32 5 (some ⟨b, off, none⟩) l.length c 0 0 Try.underlying32
  go_enter Try.func26, Try.ntmps26
  go_wp2_with (at_builtin; refine wpList_append_own _ rfl (.tmp 5) (.tmp 6) 32 rfl w.heap.size 5 i0 (.int .u8 0) 1 1 Try.underlying32 HI.out HZ0.out HZ1.out HZ2.out rfl (by decide) (.slice (some ⟨w.heap.size, 0, none⟩) 0 0) 0 [] rfl ⟨by simp, Or.inr ⟨w.heap.size, 0, #[], rfl, Nat.le_refl _, heap_top0, Nat.le_refl _, Nat.zero_le _, rfl, rfl⟩⟩ ⟨b, off, none⟩ l.length c (l.map (Value.int .u8)) rfl ?hl ?hnews ?h1 ?h63 ?hbytes ?hbase ?_)
  case hl => simp
  case hnews =>
    intro j u hj
    have hjl : j < l.length := by have := (List.getElem?_eq_some_iff.1 hj).1; simpa using this
    have hu : u = .int .u8 (l.getD j 0) := by
      rw [List.getElem?_map, List.getElem?_eq_getElem hjl] at hj
      simp only [Option.map_some, Option.some.injEq] at hj
      rw [← hj, List.getD_eq_getElem?_getD, List.getElem?_eq_getElem hjl]; rfl
    rw [addr_add, hu]
    exact cell_old (HC.out j hjl)
  case h1 =>
    intro u hu
    obtain ⟨s, _, rfl⟩ := List.mem_map.1 hu
    rfl
  case h63 => simp only [maxLen]; omega
  case hbytes => omega
  case hbase => simp
  intro v' w2 hown hg _
  obtain ⟨_, hh⟩ := hown
  have hB2 : Below w.heap.size w w2 := (below_new (Below.refl _ _) _).grown hg (by simp) (fun k e => by simp [Value.ownBlock] at e; omega)
  clear hg
  rcases hh with ⟨rfl, hn⟩ | ⟨g, cap, cur, rfl, hgb2, hblk, hn, hcap, hcur, htake⟩
  · have HE := Lib.hid hn
    clear hn
    go_wp2_with fail
    go_ret
    exact ⟨none, 0, by simp [show l.length = 0 by have := HE.out; omega], .inl (List.length_eq_zero_iff.1 (by have := HE.out; omega)), hB2⟩
  · have hr := read8_own hblk (by simpa using htake)
    have HR := Lib.hid hr
    have HB := Lib.hid hblk
    clear hblk htake hcur hn hcap hr
    go_wp2_with fail
    go_ret
    exact ⟨some ⟨g, 0, none⟩, cap, by simp, .inr ⟨g, 0, cur, (0, 0), rfl, hgb2, HB.out, HR.out⟩, hB2⟩
theorem conv8 (w : World) (A : Option Addr) (c : Nat) (l : List Int) (hr : Read8 w A l) : (convert 32 9 (.slice A l.length c)).run Try.prog w = .ok (.string (strOfNums l)) w := by
  rcases hr with rfl | ⟨b, off, rfl, _, hc⟩
  · cases A with
    | none => exact run_convert_bytes_nil w 32 5 Try.underlying32 Try.underlying5 _ _ 9 Try.underlying9
    | some a =>
      rw [run_convert_bytes_string w 32 9 5 _ _ c Try.underlying32 Try.underlying5 Try.underlying9]
      simp [Conv.bytesToString, loadCells, strOfNums]
      rfl
  · exact run_convert_bytes_arg w 32 5 Try.underlying32 Try.underlying5 b off l.length c l rfl hc 9 Try.underlying9
theorem strOfNums_inj {xs ys : List Int} (hx : Bytes8 xs) (hy : Bytes8 ys) (h1 : (xs.map fun n => UInt8.ofNat n.toNat) = ys.map fun n => UInt8.ofNat n.toNat) : xs = ys := by
  apply List.ext_getElem?
  intro i
  have h2 := congrArg (fun l => l[i]?) h1
  simp only [List.getElem?_map] at h2
  cases e1 : xs[i]? with
  | none => cases e2 : ys[i]? with
    | none => rfl
    | some y => rw [e1, e2] at h2; simp at h2
  | some x => cases e2 : ys[i]? with
    | none => rw [e1, e2] at h2; simp at h2
    | some y =>
      rw [e1, e2] at h2
      simp only [Option.map_some, Option.some.injEq] at h2
      have bx := hx x (List.mem_of_getElem? e1)
      have by' := hy y (List.mem_of_getElem? e2)
      have h3 := congrArg UInt8.toNat h2
      simp only [UInt8.toNat_ofNat'] at h3
      have : x = y := by omega
      rw [this]
theorem str_eq8 {xs ys : List Int} (hx : Bytes8 xs) (hy : Bytes8 ys) : ((strOfNums xs).toList == (strOfNums ys).toList) = decide (xs = ys) := by
  rw [Bool.eq_iff_iff]
  simp only [beq_iff_eq, decide_eq_true_eq]
  constructor
  · intro h
    refine strOfNums_inj hx hy ?_
    rw [ByteArray.toList_eq, ByteArray.toList_eq, strOfNums_data, strOfNums_data] at h
    exact h
  · rintro rfl; rfl
set_option maxHeartbeats 1000000 in
theorem bytes_any (A B : Option Addr) (n m c d : Nat) (xs ys : List Int) (hn : n = xs.length) (hm : m = ys.length) (hx : Bytes8 xs) (hy : Bytes8 ys) (w : World) (hr : Read8 w A xs) (hs : Read8 w B ys) :
    Calls Try.prog 20 #[.slice A n c, .slice B m d] w fun e w' => e = .returned (.bool (decide (xs = ys))) ∧ w' = w := by
  subst hn; subst hm
  have k1 := conv8 w A c xs hr
  have k2 := conv8 w B d ys hs
  have HE := Lib.hid (str_eq8 hx hy)
  clear hr hs hx hy
  go_enter Try.func20, Try.ntmps20
  go_wp2
  go_ret
  exact ⟨by rw [← HE.out]; rfl, rfl⟩
theorem read8_take {w : World} {b off : Nat} {l : List Int} (hlt : b < w.heap.size) (hc : ∀ i, i < l.length → w.cell? ⟨b, off + i, none⟩ = some (.int .u8 (l.getD i 0))) (m : Nat) : Read8 w (some ⟨b, off, none⟩) (l.take m) :=
  .inr ⟨b, off, rfl, hlt, fun i hi => by
    rw [List.length_take] at hi
    rw [hc i (by omega), List.getD_eq_getElem?_getD, List.getD_eq_getElem?_getD, List.getElem?_take, if_pos (by omega)]⟩
theorem bytes8_take {l : List Int} (h : Bytes8 l) (m : Nat) : Bytes8 (l.take m) := fun x hx => h x (List.mem_of_mem_take hx)
theorem bytes8_drop {l : List Int} (h : Bytes8 l) (m : Nat) : Bytes8 (l.drop m) := fun x hx => h x (List.mem_of_mem_drop hx)
/-- The cells of the bytes, in whatever world. -/
def Has8 (w : World) (b off : Nat) (l : List Int) : Prop := ∀ i, i < l.length → w.cell? ⟨b, off + i, none⟩ = some (.int .u8 (l.getD i 0))
theorem Has8.old {w : World} {b off : Nat} {l : List Int} {o : Obj} (h : Has8 w b off l) : Has8 (w.alloc o) b off l := fun i hi => cell_old (h i hi)
theorem Has8.drew {w : World} {b off : Nat} {l : List Int} (h : Has8 w b off l) : Has8 w.drew b off l := h
theorem Has8.drewN {w : World} {b off m : Nat} {l : List Int} (h : Has8 w b off l) : Has8 (w.drewN m) b off l := h
theorem cell_drewN {w : World} {a : Addr} {v : Value} {m : Nat} (h : w.cell? a = some v) : (w.drewN m).cell? a = some v := h
/-- A piece of the bytes reads as the piece of the list. -/
theorem has8_mid {w : World} {b off : Nat} {l : List Int} (h : Has8 w b off l) (hb : b < w.heap.size) (i m : Nat) : Read8 w (some ⟨b, off + i, none⟩) ((l.drop i).take m) :=
  .inr ⟨b, off + i, rfl, hb, fun j hj => by
    rw [List.length_take, List.length_drop] at hj
    rw [Nat.add_assoc, h (i + j) (by omega), List.getD_eq_getElem?_getD, List.getD_eq_getElem?_getD, List.getElem?_take, if_pos (by omega), List.getElem?_drop]⟩
theorem Has8.keep {X y : World} {b off : Nat} {l : List Int} (h : Has8 X b off l) (hb : Below X.heap.size X y) : Has8 y b off l := fun i hi => keep_cell hb (h i hi)
theorem Has8.set {w : World} {b off : Nat} {l : List Int} {a : Addr} {v : Value} (h : Has8 w b off l) (hne : a.block ≠ b) : Has8 (w.setCell a v) b off l := fun i hi => cell_far hne (h i hi)
/-- These bytes, in place. -/
def spl (l : List Int) (off : Nat) (cs : List Int) : List Int := l.take off ++ (cs ++ l.drop (off + cs.length))
theorem spl_mid (a x b cs : List Int) (h : cs.length = x.length) : spl (a ++ (x ++ b)) a.length cs = a ++ (cs ++ b) := by
  unfold spl
  rw [List.take_left' rfl, h, List.drop_append, List.drop_eq_nil_of_le (by omega), Nat.add_sub_cancel_left, List.drop_left' rfl]; rfl
theorem spl_length (l : List Int) (off : Nat) (cs : List Int) (h : off + cs.length ≤ l.length) : (spl l off cs).length = l.length := by
  unfold spl; simp; omega
/-- Block g is this row of bytes. -/
def RowAt (w : World) (g : Nat) (l : List Int) : Prop := w.heap[g]? = some (.cells (l.map (Value.int .u8)).toArray 5 (0, 0))
theorem RowAt.lt {w : World} {g : Nat} {l : List Int} (h : RowAt w g l) : g < w.heap.size := obj_lt h
theorem RowAt.keep {X y : World} {g : Nat} {l : List Int} (h : RowAt X g l) (hb : Below X.heap.size X y) : RowAt y g l := keep_blk hb h
theorem RowAt.set {w : World} {g : Nat} {l : List Int} (h : RowAt w g l) (i : Nat) (v : Int) : RowAt (w.setCell ⟨g, i, none⟩ (.int .u8 v)) g (l.set i v) := by
  unfold RowAt at *
  rw [heap_set_same h, List.setIfInBounds_toArray, List.map_set]
theorem RowAt.cells {w : World} {g : Nat} {l : List Int} (h : RowAt w g l) : Has8 w g 0 l := fun i hi => by
  simp [World.cell?, show w.heap[g]? = _ from h, List.getD_eq_getElem?_getD, List.getElem?_eq_getElem hi]
theorem RowAt.cell {w : World} {g : Nat} {l : List Int} (h : RowAt w g l) (i : Nat) (hi : i < l.length) : w.cell? ⟨g, i, none⟩ = some (.int .u8 (l.getD i 0)) := by
  have := h.cells i hi; rwa [Nat.zero_add] at this
theorem RowAt.melted {w : World} {g : Nat} {l : List Int} (h : RowAt w g l) (i : Nat) : w.frozen? ⟨g, i, none⟩ = false := by
  simp [World.frozen?, show w.heap[g]? = _ from h]
theorem RowAt.fresh {a : Nat} {w : World} {g : Nat} {l : List Int} (h : RowAt w g l) (ha : a ≤ g) : Fresh8 a w (some ⟨g, 0, none⟩) l := .inr ⟨g, 0, _, _, rfl, ha, h, h.cells⟩
theorem copy_row {ops : Array Oper} {rest : List Oper} {o : Oper} {a : Act} {w : World} {Q : Exit → Act → World → Prop} (hgd : o.guard = none) (d s : Operand)
    (ho : o.op = .call { callee := .builtin .copy, args := #[d, s], argTypes := #[32, 32] }) (g off dLen dCap : Nat) (hd : a.eval d = .slice (some ⟨g, off, none⟩) dLen dCap) (A : Option Addr) (n c : Nat) (hs : a.eval s = .slice A n c) (l data : List Int)
    (hr : RowAt w g l) (hn : n = data.length) (hle : n ≤ dLen) (hfit : off + n ≤ l.length) (hA : Read8 w A data)
    (h : ∀ w', Hid (RowAt w' g (spl l off data)) → (∀ B w0, Below B w0 w → B ≤ g → Below B w0 w') → wpList Try.prog ops Q rest (a.put o.dst (goInt n)) w') : wpList Try.prog ops Q (o :: rest) a w := by
  rcases hA with rfl | ⟨b, off', rfl, hlt, hc⟩
  · obtain rfl : n = 0 := hn
    refine wpList_copy_nothing hgd d s 32 32 ho 5 Try.underlying32 (by kernel_rfl) _ _ dLen dCap 0 c hd hs (by simp) (h w (Lib.hid ?_) (fun _ _ hb _ => hb))
    simpa [spl] using hr
  · subst hn
    refine wpList_copy_own hgd d s 32 32 ho 5 Try.underlying32 (by kernel_rfl) g off dLen dCap ⟨b, off', none⟩ data.length c hd hs _ 5 hr (data.map (Value.int .u8)) (by simp [Nat.min_eq_left hle]) ?_ (by simpa using hfit) ?_ ?_
    · intro j v hj
      rw [List.getElem?_map] at hj
      rcases hd' : data[j]? with _ | x
      · rw [hd'] at hj; cases hj
      · rw [hd'] at hj
        have hjl := (List.getElem?_eq_some_iff.1 hd').1
        simp at hj; subst hj
        rw [addr_add, hc j hjl, List.getD_eq_getElem?_getD, hd']; rfl
    · intro v hv
      obtain ⟨x, _, rfl⟩ := List.mem_map.1 hv
      rfl
    · rw [List.length_map]
      refine h _ (Lib.hid ?_) (fun B w0 hb hg => below_setRow hb hg _)
      unfold RowAt
      rw [setRow_heap w g _ _ 5 _ hr]
      simp [spl, List.map_take, List.map_drop]
/-- A row made of nothing but 0. -/
theorem row_made {w : World} {B : Nat} {g n : Nat} (h : w.ownsRow B 5 1 (.slice (some ⟨g, 0, none⟩) n n) n (madeCells (Value.int .u8 0).cells (n * 1)).toList) : RowAt w g (List.replicate n 0) := by
  obtain ⟨hx, h | ⟨g', cap, cur, he, hg, hb, hn, hcap, hsz, htake⟩⟩ := h
  · cases h.1
  · simp at he
    obtain ⟨rfl, rfl⟩ := he
    have hcur : cur.toList = (madeCells (Value.int .u8 0).cells (n * 1)).toList := by rw [← htake, List.take_of_length_le (by simp; omega)]
    unfold RowAt
    rw [hb]
    have hc2 : cur = ((List.replicate n (0 : Int)).map (Value.int .u8)).toArray := by
      apply Array.toList_inj.1
      rw [hcur]
      apply List.ext_getElem
      · simp [madeCells]
      · intro i h1 h2
        simp [madeCells, Value.cells, Nat.mod_one]
    rw [hc2]
end copies
def z (n : Nat) : List Int := List.replicate n 0
theorem owns_keep {a : Nat} {X y : World} {e s n : Nat} {v : Value} {xs : List Value} (h : X.ownsRow a e s v n xs) (hb : Below X.heap.size X y) : y.ownsRow a e s v n xs := by
  obtain ⟨h0, h1⟩ := h
  refine ⟨h0, ?_⟩
  rcases h1 with h1 | ⟨g, cap, cur, h1, h2, h3, h4⟩
  · exact .inl h1
  · exact .inr ⟨g, cap, cur, h1, h2, keep_blk hb h3, h4⟩
theorem owns_block {a : Nat} {w : World} {e s n : Nat} {v : Value} {xs : List Value} (h : w.ownsRow a e s v n xs) : ∀ g, v.ownBlock = some g → a ≤ g ∧ ∃ cur, w.heap[g]? = some (.cells cur e (0, 0)) := fun g hg => by
  rcases h.2 with ⟨rfl, _⟩ | ⟨g', cap, cur, rfl, h2, h3, _⟩
  · simp [Value.ownBlock] at hg
  · simp [Value.ownBlock] at hg; subst hg; exact ⟨h2, cur, h3⟩
theorem owns_set {a : Nat} {w : World} {e s n : Nat} {v u : Value} {xs : List Value} {p : Addr} (h : w.ownsRow a e s v n xs) (hp : p.block < a) : (w.setCell p u).ownsRow a e s v n xs := by
  obtain ⟨h0, h1⟩ := h
  refine ⟨h0, ?_⟩
  rcases h1 with h1 | ⟨g, cap, cur, h1, h2, h3, h4⟩
  · exact .inl h1
  · exact .inr ⟨g, cap, cur, h1, h2, heap_far (by omega) h3, h4⟩
theorem owns_slice {a : Nat} {w : World} {e s n : Nat} {v : Value} {xs : List Value} (h : w.ownsRow a e s v n xs) : ∃ A n' c, v = .slice A n' c := by
  rcases h.2 with ⟨rfl, _⟩ | ⟨g, cap, cur, rfl, _⟩
  · exact ⟨_, _, _, rfl⟩
  · exact ⟨_, _, _, rfl⟩
/-- A row of bytes of our own. -/
def Own8 (B : Nat) (w : World) (v : Value) (l : List Int) : Prop := w.ownsRow B 5 1 v l.length (l.map (Value.int .u8))
theorem Own8.keep {B : Nat} {X y : World} {v : Value} {l : List Int} (h : Own8 B X v l) (hb : Below X.heap.size X y) : Own8 B y v l := owns_keep h hb
theorem Own8.nil (B : Nat) (w : World) : Own8 B w (.slice none 0 0) [] := ⟨rfl, .inl ⟨rfl, rfl⟩⟩
theorem Own8.slice {B : Nat} {w : World} {v : Value} {l : List Int} (h : Own8 B w v l) : ∃ A c, v = .slice A l.length c ∧ (A = none → c = 0) ∧ l.length ≤ c := by
  obtain ⟨hx, hr⟩ := h
  rcases hr with ⟨rfl, hz⟩ | ⟨g, cap, cur, rfl, _, _, hn, _⟩
  · exact ⟨none, 0, by rw [hz], fun _ => rfl, by omega⟩
  · exact ⟨_, _, rfl, (fun h => by cases h), hn⟩
theorem Own8.row {B : Nat} {w : World} {A : Option Addr} {n c : Nat} {l : List Int} (h : Own8 B w (.slice A n c) l) (hne : l ≠ []) : ∃ g, A = some ⟨g, 0, none⟩ ∧ n = l.length ∧ B ≤ g ∧ g < w.heap.size ∧ l.length ≤ c ∧ Has8 w g 0 l := by
  obtain ⟨hx, hr⟩ := h
  rcases hr with ⟨_, hz⟩ | ⟨g, cap, cur, he, hg, hblk, hn, hcap, hcur, htake⟩
  · exact absurd (List.length_eq_zero_iff.1 hz) hne
  · simp only [Value.slice.injEq] at he
    obtain ⟨rfl, rfl, rfl⟩ := he
    exact ⟨g, rfl, rfl, hg, obj_lt hblk, hn, read8_own hblk (by simpa using htake)⟩
theorem Own8.read {B : Nat} {w : World} {A : Option Addr} {n c : Nat} {l : List Int} (h : Own8 B w (.slice A n c) l) : Read8 w A l := by
  by_cases hne : l = []
  · exact .inl hne
  · obtain ⟨g, rfl, _, _, hlt, _, hc⟩ := h.row hne
    exact .inr ⟨g, 0, rfl, hlt, hc⟩
theorem RowAt.own {B : Nat} {w : World} {g : Nat} {l : List Int} (h : RowAt w g l) (hB : B ≤ g) (hm : l.length ≤ 9223372036854775807) : Own8 B w (.slice (some ⟨g, 0, none⟩) l.length l.length) l :=
  ⟨by simp, .inr ⟨g, l.length, _, rfl, hB, h, Nat.le_refl _, by unfold maxLen; exact hm, by simp, by simp [List.take_of_length_le]⟩⟩
/-- append of bytes to a row of our own. -/
theorem append8 {ops : Array Oper} {rest : List Oper} {o : Oper} {a : Act} {w : World} {Q : Exit → Act → World → Prop} (hgd : o.guard = none) (s x : Operand)
    (ho : o.op = .call { callee := .builtin .append, args := #[s, x], argTypes := #[32, 32] }) (B : Nat) (v : Value) (l : List Int) (hs : a.eval s = v) (hown : Own8 B w v l)
    (A : Option Addr) (n c : Nat) (data : List Int) (hx : a.eval x = .slice A n c) (hn : n = data.length) (hA : Read8 w A data) (hAc : A = none → c = 0) (hmax : l.length + n ≤ 140737488351232) (hbase : B ≤ w.heap.size)
    (h : ∀ A' c' w', Hid (Own8 B w' (.slice A' (l ++ data).length c') (l ++ data)) → (∀ w0, Below B w0 w → Below B w0 w') → w.grownBy w' v.ownBlock → wpList Try.prog ops Q rest (a.put o.dst (.slice A' (l ++ data).length c')) w') : wpList Try.prog ops Q (o :: rest) a w := by
  subst hn
  obtain ⟨i0, hi, hz0, hz1, hz2⟩ := info_parts info5
  have fin : ∀ v' w', w'.ownsRow B 5 1 v' (l.length + data.length) (l.map (Value.int .u8) ++ data.map (Value.int .u8)) → w.grownBy w' v.ownBlock → wpList Try.prog ops Q rest (a.put o.dst v') w' := fun v' w' ho' hg => by
    have hO : Own8 B w' v' (l ++ data) := by unfold Own8; rw [List.length_append, List.map_append]; exact ho'
    obtain ⟨A', c', rfl, _, _⟩ := hO.slice
    exact h A' c' w' (Lib.hid hO) (fun w0 hb => hb.grown hg hbase (fun g e => (owns_block hown g e).1)) hg
  cases A with
  | none =>
    obtain rfl := hAc rfl
    have hd : data = [] := by
      rcases hA with hd | ⟨b, off, e, _⟩
      · exact hd
      · cases e
    subst hd
    refine wpList_append_own_none hgd s x 32 ho B 5 i0 1 Try.underlying32 hi v l.length _ hs hown hx (fin v w (by simpa [Own8] using hown) ⟨rfl, rfl, rfl, Nat.le_refl _, fun _ _ _ => rfl⟩)
  | some ad =>
    refine wpList_append_own w hgd s x 32 ho B 5 i0 (.int .u8 0) 1 1 Try.underlying32 hi hz0 hz1 hz2 rfl (by decide) v l.length _ hs hown ad data.length c (data.map (Value.int .u8)) hx (by simp) ?_ ?_ (by simp only [maxLen]; omega) (by omega) hbase (fun v' w' ho' hg _ => fin v' w' ho' hg)
    · intro j u hj
      rcases hA with rfl | ⟨b, off, e, _, hc⟩
      · simp at hj
      · cases e
        rw [List.getElem?_map] at hj
        rcases hd' : data[j]? with _ | y
        · rw [hd'] at hj; cases hj
        · rw [hd'] at hj
          have hjl := (List.getElem?_eq_some_iff.1 hd').1
          simp at hj; subst hj
          rw [addr_add, hc j hjl, List.getD_eq_getElem?_getD, hd']; rfl
    · intro u hu
      obtain ⟨y, _, rfl⟩ := List.mem_map.1 hu
      rfl
theorem bytes8_append {a b : List Int} (ha : Bytes8 a) (hb : Bytes8 b) : Bytes8 (a ++ b) := fun x hx => by
  rcases List.mem_append.1 hx with hx | hx
  · exact ha x hx
  · exact hb x hx
theorem bytes8_z (n : Nat) : Bytes8 (z n) := fun x hx => by rw [List.eq_of_mem_replicate hx]; decide
/-- A block whose first cells are these bytes, of so many in all. -/
def Filled (w : World) (g N : Nat) (l : List Int) : Prop := ∃ cur : Array Value, w.heap[g]? = some (.cells cur 5 (0, 0)) ∧ cur.size = N ∧ cur.toList.take l.length = l.map (Value.int .u8)
theorem Filled.cell {w : World} {g N : Nat} {l : List Int} (h : Filled w g N l) (i : Nat) (hi : i < N) : ∃ v, w.cell? ⟨g, i, none⟩ = some v := by
  obtain ⟨cur, hb, hs, _⟩ := h
  exact ⟨cur[i]'(by omega), by simp [World.cell?, hb, hs, hi]⟩
theorem Filled.melted {w : World} {g N : Nat} {l : List Int} (h : Filled w g N l) (i : Nat) : w.frozen? ⟨g, i, none⟩ = false := by
  obtain ⟨cur, hb, _⟩ := h
  simp [World.frozen?, hb]
theorem Filled.add {w : World} {g N : Nat} {l : List Int} (h : Filled w g N l) (hi : l.length < N) (y : Int) : Filled (w.setCell ⟨g, l.length, none⟩ (.int .u8 y)) g N (l ++ [y]) := by
  obtain ⟨cur, hb, hs, ht⟩ := h
  refine ⟨_, heap_set_same hb, by simpa using hs, ?_⟩
  rw [Array.toList_setIfInBounds, List.length_append, List.length_singleton, List.take_add_one, List.take_set_of_le (Nat.le_refl _), ht]
  simp [hs, hi]
theorem Filled.row {w : World} {g : Nat} {l : List Int} (h : Filled w g l.length l) : RowAt w g l := by
  obtain ⟨cur, hb, hs, ht⟩ := h
  rw [List.take_of_length_le (by simp; omega)] at ht
  unfold RowAt
  rw [hb, ← ht]
/-- Own's answer. -/
def OwnIs (w : World) (l : List Int) (f : Int) (e : Ending) (w' : World) : Prop :=
  ∃ g, e = .returned (.slice (some ⟨g, 0, none⟩) l.length (l.length + 3)) ∧ RowAt w' g (l ++ [f, f, f]) ∧ w.heap.size ≤ g ∧ Below w.heap.size w w'
set_option maxHeartbeats 1000000 in
theorem own_any (A : Option Addr) (n c : Nat) (l : List Int) (f : Int) (hn : n = l.length) (hmax : n ≤ 4294967295) (w : World) (hA : Read8 w A l) (hAc : A = none → c = 0) :
    Calls Try.prog 9 #[.slice A n c, .int .u8 f] w (OwnIs w l f) := by
  subst hn
  have HA := Lib.hid hA
  clear hA
  obtain ⟨i0, hi, hz0, hz1, hz2⟩ := info_parts info5
  have HI := Lib.hid hi
  have HZ0 := Lib.hid hz0
  have HZ1 := Lib.hid hz1
  have HZ2 := Lib.hid hz2
  clear hi hz0 hz1 hz2
  go_enter Try.func9, Try.ntmps9
  go_wp2_with (at_make; refine wpList_make_own _ rfl (.const (.int .i64 0)) (.tmp 10) 32 rfl w.heap.size 5 i0 (.int .u8 0) 1 Try.underlying32 HI.out HZ0.out HZ1.out .i64 .i64 ((l.length : Int) + 3) (l.length + 3) rfl rfl (by omega) ?b2 ?b3 ?b4 ?_)
  case b2 => rw [HZ2.out]; omega
  case b3 => simp only [maxLen]; omega
  case b4 => exact Nat.le_refl _
  intro w1 hown1 hg1
  have B1 := Lib.hid (show Below w.heap.size w w1 from (Below.refl _ _).grown hg1 (Nat.le_refl _) (fun g hg => by cases hg))
  clear hg1
  have HA1 := Lib.hid (HA.out.keep B1.out)
  go_wp2_with (at_builtin; refine wpList_append_fits_any _ rfl (.tmp 12) (.tmp 13) 32 rfl w.heap.size 5 i0 1 Try.underlying32 HI.out HZ1.out w.heap.size 0 (l.length + 3) [] rfl hown1 A l.length c (l.map (Value.int .u8)) rfl ?hn ?hnone ?hc ?h1c ?b1 ?_)
  case hn => simp
  case hnone =>
    intro e
    refine ⟨?_, hAc e⟩
    rcases HA1.out with h | ⟨b, off, h, _⟩
    · rw [h]; rfl
    · rw [h] at e; cases e
  case hc =>
    intro ad e j u hj
    rcases HA1.out with h | ⟨b, off, h, _, hc⟩
    · rw [h] at hj; simp at hj
    · rw [h] at e; cases e
      rw [List.getElem?_map] at hj
      rcases hd' : l[j]? with _ | y
      · rw [hd'] at hj; cases hj
      · rw [hd'] at hj
        have hjl := (List.getElem?_eq_some_iff.1 hd').1
        simp at hj; subst hj
        rw [addr_add, hc j hjl, List.getD_eq_getElem?_getD, hd']; rfl
  case h1c =>
    intro u hu
    obtain ⟨y, _, rfl⟩ := List.mem_map.1 hu
    rfl
  case b1 => omega
  intro w2 hown2 hg2
  have B2 := Lib.hid (show Below w.heap.size w w2 from B1.out.grown hg2 B1.out.size (fun g hg => by cases hg; exact Nat.le_refl _))
  have HF := Lib.hid (show Filled w2 w.heap.size (l.length + 3) l from by
    obtain ⟨_, h | ⟨g', cap, cur, he, _, hb, _, _, hcs, ht⟩⟩ := hown2
    · cases h.1
    · simp at he
      obtain ⟨rfl, _, rfl⟩ := he
      exact ⟨cur, hb, by omega, by simpa using ht⟩)
  clear hown2 hg2 hown1
  have hcap : (l.length : Int) + 3 ≤ ((l.length + 3 : Nat) : Int) := by omega
  go_wp2_with fail
  go_loopw [7] (fun s7 wr => ∃ k : Nat, s7 = .int .i64 ((l.length + k : Nat) : Int) ∧ k ≤ 3 ∧ Filled wr w.heap.size (l.length + 3) (l ++ List.replicate k f) ∧ Below w.heap.size w wr) (fun s7 _ => l.length + 3 - (intOf s7).toNat)
  case atStart => exact ⟨0, rfl, by omega, by simpa using HF.out, B2.out⟩
  case round =>
    obtain ⟨k, rfl, hk, hf, hb⟩ := hrel
    have HF := Lib.hid hf
    have HB := Lib.hid hb
    clear hf hb B1 B2
    by_cases hlt : k < 3
    · have hlen : (l ++ List.replicate k f).length = l.length + k := by simp
      have HADD := Lib.hid (HF.out.add (by rw [hlen]; omega) f)
      rw [hlen] at HADD
      obtain ⟨v0, hv0⟩ := HF.out.cell (l.length + k) (by omega)
      have hz := HF.out.melted (l.length + k)
      clear hlen
      have hlt' : (l.length : Int) + (k : Int) < (l.length : Int) + 3 := by omega
      have hn0 : ((l.length : Int) + (k : Int)).toNat = l.length + k := by omega
      have hn1 : (0 : Int) ≤ (l.length : Int) + (k : Int) := by omega
      have hn2 : IntKind.i64.wrap ((l.length : Int) + (k : Int) + 1) = (l.length : Int) + (k : Int) + 1 := IntWalk.i64_in _ (by omega)
      go_wp2_with fail
      go_roundw
      case rel => exact ⟨k + 1, by go_num, by omega, by rw [List.replicate_succ', ← List.append_assoc]; exact HADD.out, below_set HB.out (Nat.le_refl _)⟩
      case measure => simp [intOf]; omega
    · obtain rfl : k = 3 := by omega
      go_wp2_with fail
      go_ret
      exact ⟨w.heap.size, rfl, Filled.row (by simpa using HF.out), Nat.le_refl _, HB.out⟩
set_option maxHeartbeats 400000 in
theorem eq8_any (x : Int) (w : World) : Calls Try.prog 29 #[.int .u8 x, .int .u8 x] w fun e w' => e = .returned (.bool true) ∧ w' = w := by
  go_enter Try.func29, Try.ntmps29
  go_wp2
  go_ret
  exact ⟨by simp, rfl⟩
theorem Read8.at {w : World} {A : Option Addr} {l : List Int} {i : Nat} (h : Read8 w A l) (hi : i < l.length) : ∃ b off, A = some ⟨b, off, none⟩ ∧ b < w.heap.size ∧ w.cell? ⟨b, off + i, none⟩ = some (.int .u8 (l.getD i 0)) := by
  rcases h with rfl | ⟨b, off, e, hb, hc⟩
  · simp at hi
  · exact ⟨b, off, e, hb, hc i hi⟩
set_option maxHeartbeats 1000000 in
theorem same8_any (A B : Option Addr) (c d : Nat) (l : List Int) (w : World) (hl : l.length ≤ 4294967295) (hA : Read8 w A l) (hB : Read8 w B l) :
    Calls Try.prog 28 #[.slice A l.length c, .slice B l.length d, .func (.func 29) #[] #[]] w fun e w' => e = .returned (.bool true) ∧ Below w.heap.size w w' := by
  have HA := Lib.hid hA
  have HB := Lib.hid hB
  clear hA hB
  go_enter Try.func28, Try.ntmps28
  go_wp2_with fail
  go_loopw [7] (fun s7 wr => ∃ k : Nat, s7 = .int .i64 k ∧ k ≤ l.length ∧ Below w.heap.size w wr) (fun s7 _ => l.length - (intOf s7).toNat)
  case atStart => exact ⟨0, rfl, Nat.zero_le _, Below.refl _ _⟩
  case round =>
    obtain ⟨k, rfl, hk, hbel⟩ := hrel
    by_cases hlt : k < l.length
    · obtain ⟨b, off, rfl, hb, hc0⟩ := HA.out.at hlt
      obtain ⟨b', off', rfl, hb', hc0'⟩ := HB.out.at hlt
      have hc : wr.cell? ⟨b, off + k, none⟩ = some (.int .u8 (l.getD k 0)) := by rw [hbel.cell (p := ⟨b, off + k, none⟩) hb]; exact hc0
      have hc' : wr.cell? ⟨b', off' + k, none⟩ = some (.int .u8 (l.getD k 0)) := by rw [hbel.cell (p := ⟨b', off' + k, none⟩) hb']; exact hc0'
      clear hc0 hc0'
      generalize l.getD k 0 = s at *
      go_wp2_with fail
      go_region_held3 (fun w' => w'.cell? ⟨b, off + k, none⟩ = some (.int .u8 s) ∧ w'.cell? ⟨b', off' + k, none⟩ = some (.int .u8 s)) (first | exact ⟨hc, hc'⟩ | exact ⟨cell_drew hc, cell_drew hc'⟩) (first | (go_at_call 29; refine (eq8_any _ _).mono ?_; rintro e w1 ⟨rfl, rfl⟩))
      all_goals
        go_wp2_with fail
        go_roundw
        case rel => exact ⟨k + 1, by go_num, by omega, Below.drew hbel⟩
        case measure => simp [intOf]; omega
    · go_wp2
      go_ret
      exact ⟨rfl, hbel⟩
set_option maxHeartbeats 400000 in
theorem plain8_any (A B : Option Addr) (c d : Nat) (l : List Int) (w : World) (hl : l.length ≤ 4294967295) (hA : Read8 w A l) (hB : Read8 w B l) :
    Calls Try.prog 25 #[.slice A l.length c, .slice B l.length d] w fun e w' => e = .returned (.bool true) ∧ Below w.heap.size w w' := by
  have C := Lib.hid (same8_any A B c d l w hl hA hB)
  clear hA hB
  go_enter Try.func25, Try.ntmps25
  go_wp2_with fail
  refine C.out.mono ?_; rintro e w1 ⟨rfl, hb⟩
  go_wp2_with fail
  go_ret
  exact ⟨rfl, hb⟩
set_option maxHeartbeats 1000000 in
theorem kept_any (g : Nat) (B : Option Addr) (d : Nat) (l : List Int) (f : Int) (w : World) (hl : l.length ≤ 4294967295) (hR : RowAt w g (l ++ [f, f, f])) (hB : Read8 w B l) :
    Calls Try.prog 12 #[.slice (some ⟨g, 0, none⟩) l.length (l.length + 3), .slice B l.length d, .int .u8 f] w fun e w' => e = .returned (.bool true) ∧ Below w.heap.size w w' := by
  have HR := Lib.hid hR
  have C := Lib.hid (plain8_any (some ⟨g, 0, none⟩) B (l.length + 3) d l w hl (by
    have := read8_take hR.lt hR.cells l.length
    rwa [List.take_left' rfl] at this) hB)
  clear hR hB
  have h3 : ((l.length + 3 : Nat) : Int) = (l.length : Int) + 3 := by omega
  go_enter Try.func12, Try.ntmps12
  go_wp2_with fail
  refine C.out.mono ?_; rintro e w1 ⟨rfl, hb⟩
  have HB := Lib.hid hb
  clear hb
  go_wp2_with fail
  go_loopw [8] (fun s8 wr => ∃ k : Nat, s8 = .int .i64 ((l.length + k : Nat) : Int) ∧ k ≤ 3 ∧ w1 = wr) (fun s8 _ => l.length + 3 - (intOf s8).toNat)
  case atStart => exact ⟨0, rfl, by omega, rfl⟩
  case round =>
    obtain ⟨k, rfl, hk, rfl⟩ := hrel
    by_cases hlt : k < 3
    · have hcell := (HR.out.keep HB.out).cell (l.length + k) (by simp; omega)
      have hget : (l ++ [f, f, f]).getD (l.length + k) 0 = f := by
        rw [List.getD_eq_getElem?_getD, List.getElem?_append_right (by omega), Nat.add_sub_cancel_left]
        rcases (show k = 0 ∨ k = 1 ∨ k = 2 by omega) with rfl | rfl | rfl <;> rfl
      rw [hget] at hcell
      clear hget h3
      have hlt' : (l.length : Int) + (k : Int) < (l.length : Int) + 3 := by omega
      have hn0 : ((l.length : Int) + (k : Int)).toNat = l.length + k := by omega
      have hn1 : (0 : Int) ≤ (l.length : Int) + (k : Int) := by omega
      have hn2 : IntKind.i64.wrap ((l.length : Int) + (k : Int) + 1) = (l.length : Int) + (k : Int) + 1 := IntWalk.i64_in _ (by omega)
      go_wp2_with fail
      go_roundw
      case rel => exact ⟨k + 1, by go_num, by omega, trivial⟩
      case measure => simp [intOf]; omega
    · obtain rfl : k = 3 := by omega
      go_wp2_with fail
      go_ret
      exact ⟨rfl, HB.out⟩
end Go.Proofs.Ytcegkpgidineaaa
