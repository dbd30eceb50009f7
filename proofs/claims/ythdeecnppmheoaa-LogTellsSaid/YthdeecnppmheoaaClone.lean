/- slices.Clone at bytes; bytes.HasPrefix. -/
import Derived.Test.YthdeecnppmheoaaGet
import Derived.OwnWalk
namespace Go.Proofs.Ythdeecnppmheoaa
open Go.RowKit
theorem info5 : (Try.prog.info? 5).map (fun i => (i.zero, i.size, i.bytes)) = some (some (.int .u8 0), 1, 1) := by kernel_rfl
/-- A row of bytes, out of an owned row. -/
theorem read8_own {w : World} {g e n : Nat} {cur : Array Value} {l : List Int} (hb : w.heap[g]? = some (.cells cur e (0, 0))) (ht : cur.toList.take (n * 1) = l.map (Value.int .u8)) : ∀ i, i < l.length → w.cell? ⟨g, 0 + i, none⟩ = some (.int .u8 (l.getD i 0)) := fun i hi => by
  have h1 : (cur.toList.take (n * 1))[i]? = some (.int .u8 (l.getD i 0)) := by
    rw [ht, List.getElem?_map, List.getElem?_eq_getElem hi, List.getD_eq_getElem?_getD, List.getElem?_eq_getElem hi]; rfl
  rw [List.getElem?_take] at h1
  split at h1
  · simp only [World.cell?, hb, Nat.zero_add]
    simpa using h1
  · cases h1
/-- Bytes in a block of bytes, from a on. -/
def Fresh8 (a : Nat) (w : World) (A : Option Addr) (l : List Int) : Prop := l = [] ∨ ∃ b off cur sp, A = some ⟨b, off, none⟩ ∧ a ≤ b ∧ w.heap[b]? = some (.cells cur 5 sp) ∧ ∀ i, i < l.length → w.cell? ⟨b, off + i, none⟩ = some (.int .u8 (l.getD i 0))
theorem obj_lt {y : World} {b : Nat} {o : Obj} (h : y.heap[b]? = some o) : b < y.heap.size := (Array.getElem?_eq_some_iff.1 h).1
theorem Fresh8.read {a : Nat} {w : World} {A : Option Addr} {l : List Int} (h : Fresh8 a w A l) : Read8 w A l := by
  rcases h with h | ⟨b, off, cur, sp, rfl, _, hlt, hc⟩
  · exact .inl h
  · exact .inr ⟨b, off, rfl, obj_lt hlt, hc⟩
theorem cell_far {w : World} {a c : Addr} {v u : Value} (hne : a.block ≠ c.block) (h : w.cell? c = some u) : (w.setCell a v).cell? c = some u := (World.cell?_setCell_far w a c v hne).trans h
theorem heap_far {w : World} {a : Addr} {b : Nat} {o : Obj} {v : Value} (hne : a.block ≠ b) (h : w.heap[b]? = some o) : (w.setCell a v).heap[b]? = some o := by
  simp [World.setCell, Array.getElem?_modify, h, hne]
/-- Elsewhere was stored. -/
theorem Fresh8.set {a : Nat} {w : World} {A : Option Addr} {l : List Int} {p : Addr} {v : Value} (h : Fresh8 a w A l) (hp : p.block < a) : Fresh8 a (w.setCell p v) A l := by
  rcases h with h | ⟨b, off, cur, sp, rfl, hab, hlt, hc⟩
  · exact .inl h
  · exact .inr ⟨b, off, cur, sp, rfl, hab, heap_far (by simp; omega) hlt, fun i hi => cell_far (by simp; omega) (hc i hi)⟩
/-- Into a block of another kind was stored. -/
theorem Fresh8.put {a : Nat} {w : World} {A : Option Addr} {l : List Int} {p : Addr} {v : Value} {cs : Array Value} {t : TypeId} {sp : Nat × Nat} (h : Fresh8 a w A l) (hp : w.heap[p.block]? = some (.cells cs t sp)) (ht : t ≠ 5) : Fresh8 a (w.setCell p v) A l := by
  rcases h with h | ⟨b, off, cur, sp', rfl, hab, hlt, hc⟩
  · exact .inl h
  · have hne : p.block ≠ b := fun e => by rw [e, hlt] at hp; simp at hp; exact ht hp.2.1.symm
    exact .inr ⟨b, off, cur, sp', rfl, hab, heap_far hne hlt, fun i hi => cell_far hne (hc i hi)⟩
theorem Fresh8.keep {a : Nat} {X y : World} {A : Option Addr} {l : List Int} (h : Fresh8 a X A l) (hb : Below X.heap.size X y) : Fresh8 a y A l := by
  rcases h with h | ⟨b, off, cur, sp, rfl, hab, hlt, hc⟩
  · exact .inl h
  · exact .inr ⟨b, off, cur, sp, rfl, hab, keep_blk hb hlt, fun i hi => keep_cell hb (hc i hi)⟩
theorem Fresh8.mono {a a' : Nat} {w : World} {A : Option Addr} {l : List Int} (h : Fresh8 a w A l) (haa : a' ≤ a) : Fresh8 a' w A l := by
  rcases h with h | ⟨b, off, cur, sp, rfl, hab, hlt, hc⟩
  · exact .inl h
  · exact .inr ⟨b, off, cur, sp, rfl, Nat.le_trans haa hab, hlt, hc⟩
/-- A row of another kind has grown. -/
theorem Fresh8.grown {a : Nat} {w w' : World} {A : Option Addr} {l : List Int} {r : Option Nat} (h : Fresh8 a w A l) (hg : w.grownBy w' r) (hr : ∀ g, r = some g → ∃ cs t sp, w.heap[g]? = some (.cells cs t sp) ∧ t ≠ 5) : Fresh8 a w' A l := by
  rcases h with h | ⟨b, off, cur, sp, rfl, hab, hlt, hc⟩
  · exact .inl h
  · have hne : some b ≠ r := fun e => by
      obtain ⟨cs, t, sp', h1, h2⟩ := hr b e.symm
      rw [hlt] at h1; simp at h1; exact h2 h1.2.1.symm
    have he := hg.block b (obj_lt hlt) hne
    exact .inr ⟨b, off, cur, sp, rfl, hab, he.trans hlt, fun i hi => (World.cell?_of_block he).trans (hc i hi)⟩
/-- A new slice of these bytes comes back. -/
def NewBytes (w : World) (l : List Int) (e : Ending) (w' : World) : Prop :=
  ∃ A c, e = .returned (.slice A l.length c) ∧ Fresh8 w.heap.size w' A l ∧ Below w.heap.size w w'
set_option maxHeartbeats 2000000 in
theorem clone_any (b off n c : Nat) (l : List Int) (hn : n = l.length) (hl : l.length ≤ 140737488351232) (w : World) (hcell : ∀ i, i < l.length → w.cell? ⟨b, off + i, none⟩ = some (.int .u8 (l.getD i 0))) :
    Calls Try.prog 28 #[.slice (some ⟨b, off, none⟩) n c] w (NewBytes w l) := by
  subst hn
  have HC := Lib.hid hcell
  clear hcell
  obtain ⟨i0, hi, hz0, hz1, hz2⟩ := info_parts info5
  have HI := Lib.hid hi
  have HZ0 := Lib.hid hz0
  have HZ1 := Lib.hid hz1
  have HZ2 := Lib.hid hz2
  clear hi hz0 hz1 hz2
  have hsn := fun w => Lib.run_eql_slice_nil (P := Try.prog) w 23 5 (some ⟨b, off, none⟩) l.length c 0 0 Try.underlying23
  go_enter Try.func28, Try.ntmps28
  go_wp2_with (at_builtin; refine wpList_append_own _ rfl (.tmp 5) (.tmp 6) 23 rfl w.heap.size 5 i0 (.int .u8 0) 1 1 Try.underlying23 HI.out HZ0.out HZ1.out HZ2.out rfl (by decide) (.slice (some ⟨w.heap.size, 0, none⟩) 0 0) 0 [] rfl ⟨by simp, Or.inr ⟨w.heap.size, 0, #[], rfl, Nat.le_refl _, heap_top0, Nat.le_refl _, Nat.zero_le _, rfl, rfl⟩⟩ ⟨b, off, none⟩ l.length c (l.map (Value.int .u8)) rfl ?hl ?hnews ?h1 ?h63 ?hbytes ?hbase ?_)
  case hl => simp
  case hnews =>
    intro j u hj
    have hjl : j < l.length := by have := (List.getElem?_eq_some_iff.1 hj).1; simpa using this
    have hu : u = .int .u8 (l.getD j 0) := by
      rw [List.getElem?_map, List.getElem?_eq_getElem hjl] at hj
      simp only [Option.map_some, Option.some.injEq] at hj
      rw [← hj, List.getD_eq_getElem?_getD, List.getElem?_eq_getElem hjl]; rfl
    rw [addr_add, hu]
    exact cell_old (HC.out j hjl)
  case h1 =>
    intro u hu
    obtain ⟨s, _, rfl⟩ := List.mem_map.1 hu
    rfl
  case h63 => simp only [maxLen]; omega
  case hbytes => omega
  case hbase => simp
  intro v' w2 hown hg _
  obtain ⟨_, hh⟩ := hown
  have hB2 : Below w.heap.size w w2 := (below_new (Below.refl _ _) _).grown hg (by simp) (fun k e => by simp [Value.ownBlock] at e; omega)
  clear hg
  rcases hh with ⟨rfl, hn⟩ | ⟨g, cap, cur, rfl, hgb2, hblk, hn, hcap, hcur, htake⟩
  · have HE := Lib.hid hn
    clear hn
    go_wp2_with fail
    go_ret
    exact ⟨none, 0, by simp [show l.length = 0 by have := HE.out; omega], .inl (List.length_eq_zero_iff.1 (by have := HE.out; omega)), hB2⟩
  · have hr := read8_own hblk (by simpa using htake)
    have HR := Lib.hid hr
    have HB := Lib.hid hblk
    clear hblk htake hcur hn hcap hr
    go_wp2_with fail
    go_ret
    exact ⟨some ⟨g, 0, none⟩, cap, by simp, .inr ⟨g, 0, cur, (0, 0), rfl, hgb2, HB.out, HR.out⟩, hB2⟩
end Go.Proofs.Ythdeecnppmheoaa
