/- DiskTears walked. -/
import Derived.Test.YtcegkpgidineaaaAw
import Derived.Deep.RegionLaw
namespace Go.Proofs.Ytcegkpgidineaaa
open Go.RowKit
theorem spl_more {α : Type} (L R cs : List α) (off n : Nat) (h : off + n ≤ L.length) : (L ++ R).take off ++ (cs ++ (L ++ R).drop (off + n)) = (L.take off ++ (cs ++ L.drop (off + n))) ++ R := by
  rw [List.take_append_of_le_length (by omega), List.drop_append_of_le_length h]; simp [List.append_assoc]
theorem Own8.filled {B : Nat} {w : World} {g n c : Nat} {l : List Int} (h : Own8 B w (.slice (some ⟨g, 0, none⟩) n c) l) : Filled w g c l := by
  obtain ⟨_, h | ⟨g', cap, cur, he, _, hb, _, _, hcs, ht⟩⟩ := h
  · cases h.1
  · simp at he
    obtain ⟨rfl, _, rfl⟩ := he
    exact ⟨cur, hb, by omega, by simpa using ht⟩
theorem Filled.reads {w : World} {g N : Nat} {l : List Int} (h : Filled w g N l) : Read8 w (some ⟨g, 0, none⟩) l := by
  obtain ⟨cur, hb, _, ht⟩ := h
  exact .inr ⟨g, 0, rfl, obj_lt hb, read8_own (n := l.length) hb (by simpa using ht)⟩
/-- copy into such a block, as one step of a region. -/
theorem step_copy8 {ops : Array Oper} {o : Oper} {a : Act} {w : World} {K : Act → World → Prop} {Q : Exit → Act → World → Prop} {E : Prop} (hgd : o.guard = none) (d s : Operand)
    (ho : o.op = .call { callee := .builtin .copy, args := #[d, s], argTypes := #[32, 32] }) (g off dLen dCap : Nat) (hd : a.eval d = .slice (some ⟨g, off, none⟩) dLen dCap) (A : Option Addr) (n c : Nat) (hs : a.eval s = .slice A n c) (N : Nat) (l data : List Int)
    (hf : Filled w g N l) (hn : n = data.length) (hle : n ≤ dLen) (hfit : off + n ≤ l.length) (hA : Read8 w A data)
    (h : ∀ w', Hid (Filled w' g N (spl l off data)) → Moved w w' g g → K (a.put o.dst (goInt n)) w') : if Region.wanted o (yielded ops a.tmps) = true then Oper.wp Try.prog o a w K Q else E := by
  have hw : Region.wanted o (yielded ops a.tmps) = true := by simp [Region.wanted, hgd]
  rw [if_pos hw]
  subst hn
  rcases hA with rfl | ⟨b, off', rfl, hlt, hc⟩
  · have hrun := run_copy_none (P := Try.prog) w 32 32 o.type 5 (some ⟨g, off, none⟩) A dLen dCap 0 c Try.underlying32 (by kernel_rfl) (by simp)
    unfold Oper.wp
    simp [execOp, ho, resolve, invoke, builtin, hd, hs, hrun, Result.andThen]
    exact h w (Lib.hid (by simpa [spl] using hf)) ⟨rfl, rfl, rfl, Nat.le_refl _, fun _ _ _ _ => rfl⟩
  · obtain ⟨cur, hb, hsz, ht⟩ := hf
    have hcur : cur.toList = l.map (Value.int .u8) ++ cur.toList.drop l.length := by rw [← ht, List.take_append_drop]
    have hll : l.length ≤ cur.size := by
      have := congrArg List.length ht
      simp at this; omega
    have hrun := run_copy_row (P := Try.prog) w 32 32 o.type 5 g off dLen dCap ⟨b, off', none⟩ data.length c cur 5 (data.map (Value.int .u8)) Try.underlying32 (by kernel_rfl) hb (by simp [Nat.min_eq_left hle]) (fun j v hj => by
      rw [List.getElem?_map] at hj
      rcases hd' : data[j]? with _ | x
      · rw [hd'] at hj; cases hj
      · rw [hd'] at hj
        have hjl := (List.getElem?_eq_some_iff.1 hd').1
        simp at hj; subst hj
        rw [addr_add, hc j hjl, List.getD_eq_getElem?_getD, hd']; rfl) (by simp; omega) (fun v hv => by
      obtain ⟨x, _, rfl⟩ := List.mem_map.1 hv
      rfl)
    unfold Oper.wp
    simp [execOp, ho, resolve, invoke, builtin, hd, hs, hrun, Result.andThen]
    refine h _ (Lib.hid ⟨_, setRow_heap w g _ _ 5 _ hb, ?_, ?_⟩) ⟨rfl, rfl, rfl, by simp [World.setRow], fun k _ hk _ => setRow_other w g k _ hk⟩
    · simp; omega
    · rw [hcur]
      rw [spl_length l off data hfit]
      have e := spl_more (l.map (Value.int .u8)) (cur.toList.drop l.length) (data.map (Value.int .u8)) off data.length (by simpa using hfit)
      simp only [List.length_map]
      rw [e, List.take_left' (by simp; omega)]
      simp [spl, List.map_take, List.map_drop]
end Go.Proofs.Ytcegkpgidineaaa
