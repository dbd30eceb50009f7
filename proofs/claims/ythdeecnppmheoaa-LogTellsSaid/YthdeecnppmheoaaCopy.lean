/- Copies into a row of our own; a row made. -/
import Derived.Test.YthdeecnppmheoaaRow
import Derived.Laws.CopyOwn
import Derived.Lib.BufferWrite
import Derived.Shelf.Spec.SlicesInsert
namespace Go.Proofs.Ythdeecnppmheoaa
open Go.RowKit Go.Lib
def magicStr : ByteArray := ⟨#[67, 68, 88, 49]⟩
theorem copy_magic {ops : Array Oper} {rest : List Oper} {o : Oper} {a : Act} {w : World} {Q : Exit → Act → World → Prop} (hgd : o.guard = none) (d s : Operand)
    (ho : o.op = .call { callee := .builtin .copy, args := #[d, s], argTypes := #[23, 9] }) (g off dLen dCap : Nat) (hd : a.eval d = .slice (some ⟨g, off, none⟩) dLen dCap) (hs : a.eval s = .string magicStr) (l : List Int)
    (hr : RowAt w g l) (hle : 4 ≤ dLen) (hfit : off + 4 ≤ l.length)
    (h : ∀ w', Hid (RowAt w' g (spl l off magic)) → (∀ B w0, Below B w0 w → B ≤ g → Below B w0 w') → wpList Try.prog ops Q rest (a.put o.dst (goInt 4)) w') : wpList Try.prog ops Q (o :: rest) a w := by
  have hrun := run_copy_row_string (P := Try.prog) w 23 9 o.type 5 g off dLen dCap magicStr _ 5 Try.underlying23 (by kernel_rfl) hr (by exact hle) (by simpa using (show off + magicStr.size ≤ l.length from hfit))
  refine wpList_copy_runI w hgd d s 23 9 ho _ _ hd hs hrun (h _ ?_ ?_)
  · refine Lib.hid ?_
    unfold RowAt
    rw [setRow_heap w g _ _ 5 _ hr]
    congr 2
    simp [spl, magic, magicStr, List.map_take, List.map_drop]
    rfl
  · intro B w0 hb hg
    exact below_setRow hb hg _
theorem copy_row {ops : Array Oper} {rest : List Oper} {o : Oper} {a : Act} {w : World} {Q : Exit → Act → World → Prop} (hgd : o.guard = none) (d s : Operand)
    (ho : o.op = .call { callee := .builtin .copy, args := #[d, s], argTypes := #[23, 23] }) (g off dLen dCap : Nat) (hd : a.eval d = .slice (some ⟨g, off, none⟩) dLen dCap) (A : Option Addr) (n c : Nat) (hs : a.eval s = .slice A n c) (l data : List Int)
    (hr : RowAt w g l) (hn : n = data.length) (hle : n ≤ dLen) (hfit : off + n ≤ l.length) (hA : Read8 w A data)
    (h : ∀ w', Hid (RowAt w' g (spl l off data)) → (∀ B w0, Below B w0 w → B ≤ g → Below B w0 w') → wpList Try.prog ops Q rest (a.put o.dst (goInt n)) w') : wpList Try.prog ops Q (o :: rest) a w := by
  rcases hA with rfl | ⟨b, off', rfl, hlt, hc⟩
  · obtain rfl : n = 0 := hn
    refine wpList_copy_nothing hgd d s 23 23 ho 5 Try.underlying23 (by kernel_rfl) _ _ dLen dCap 0 c hd hs (by simp) (h w (Lib.hid ?_) (fun _ _ hb _ => hb))
    simpa [spl] using hr
  · subst hn
    refine wpList_copy_own hgd d s 23 23 ho 5 Try.underlying23 (by kernel_rfl) g off dLen dCap ⟨b, off', none⟩ data.length c hd hs _ 5 hr (data.map (Value.int .u8)) (by simp [Nat.min_eq_left hle]) ?_ (by simpa using hfit) ?_ ?_
    · intro j v hj
      rw [List.getElem?_map] at hj
      rcases hd' : data[j]? with _ | x
      · rw [hd'] at hj; cases hj
      · rw [hd'] at hj
        have hjl := (List.getElem?_eq_some_iff.1 hd').1
        simp at hj; subst hj
        rw [addr_add, hc j hjl, List.getD_eq_getElem?_getD, hd']; rfl
    · intro v hv
      obtain ⟨x, _, rfl⟩ := List.mem_map.1 hv
      rfl
    · rw [List.length_map]
      refine h _ (Lib.hid ?_) (fun B w0 hb hg => below_setRow hb hg _)
      unfold RowAt
      rw [setRow_heap w g _ _ 5 _ hr]
      simp [spl, List.map_take, List.map_drop]
/-- A row made of nothing but 0. -/
theorem row_made {w : World} {B : Nat} {g n : Nat} (h : w.ownsRow B 5 1 (.slice (some ⟨g, 0, none⟩) n n) n (madeCells (Value.int .u8 0).cells (n * 1)).toList) : RowAt w g (List.replicate n 0) := by
  obtain ⟨hx, h | ⟨g', cap, cur, he, hg, hb, hn, hcap, hsz, htake⟩⟩ := h
  · cases h.1
  · simp at he
    obtain ⟨rfl, rfl⟩ := he
    have hcur : cur.toList = (madeCells (Value.int .u8 0).cells (n * 1)).toList := by rw [← htake, List.take_of_length_le (by simp; omega)]
    unfold RowAt
    rw [hb]
    have hc2 : cur = ((List.replicate n (0 : Int)).map (Value.int .u8)).toArray := by
      apply Array.toList_inj.1
      rw [hcur]
      apply List.ext_getElem
      · simp [madeCells]
      · intro i h1 h2
        simp [madeCells, Value.cells, Nat.mod_one]
    rw [hc2]
end Go.Proofs.Ythdeecnppmheoaa
