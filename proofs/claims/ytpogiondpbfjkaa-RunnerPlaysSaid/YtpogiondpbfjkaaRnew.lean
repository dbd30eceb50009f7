/- The reference's NewRunner. -/
import Derived.Test.YtpogiondpbfjkaaRtick
import Derived.Test.YtpogiondpbfjkaaAlone
import Derived.Maps.AppendAt
import Derived.Deep.RegionLaw
namespace Go.Proofs.Ytpogiondpbfjkaa
open Go.RowKit Go.Conc
/-- append of one number to a row of our own, as one step of a region. -/
theorem step_appI {ops : Array Oper} {o : Oper} {a : Act} {w : World} {K : Act → World → Prop} {Q : Exit → Act → World → Prop} {E : Prop} (hgd : o.guard = none) (s x : Operand)
    (ho : o.op = .call { callee := .builtin .append, args := #[s, x], argTypes := #[26, 26] }) (B : Nat) (v : Value) (n : Nat) (xs : List Value) (hs : a.eval s = v) (hown : w.ownsRow B 3 1 v n xs)
    (g : Nat) (y : Int) (hx : a.eval x = .slice (some ⟨g, 0, none⟩) 1 1) (hc : w.cell? ⟨g, 0, none⟩ = some (.int .i64 y)) (hmax : n ≤ 1000000) (hbase : B ≤ w.heap.size)
    (h : ∀ A' c' w', Hid (w'.ownsRow B 3 1 (.slice A' (n + 1) c') (n + 1) (xs ++ [.int .i64 y])) → w.grownBy w' v.ownBlock → ((Value.slice A' (n + 1) c').ownBlock = v.ownBlock ∨ (Value.slice A' (n + 1) c').ownBlock = some w.heap.size) → K (a.put o.dst (.slice A' (n + 1) c')) w') :
    if Region.wanted o (yielded ops a.tmps) = true then Oper.wp Try.prog o a w K Q else E := by
  have hw : Region.wanted o (yielded ops a.tmps) = true := by simp [Region.wanted, hgd]
  rw [if_pos hw]
  obtain ⟨i0, hi, hz0, hz1, hz2⟩ := info_parts info3
  obtain ⟨v', w', hr, h2, h3, _, h5⟩ := run_append_own_at (P := Try.prog) (w := w) B 26 o.type 3 i0 (.int .i64 0) 1 8 Try.underlying26 hi hz0 hz1 hz2 rfl (by decide) v n xs hown ⟨g, 0, none⟩ 1 1 [.int .i64 y] rfl (by
    intro j u hj
    match j, hj with
    | 0, hj => simp at hj; subst hj; exact hc
    | j + 1, hj => simp at hj) (by intro u hu; simp at hu; subst hu; rfl) (by simp only [maxLen]; omega) (by omega) hbase
  obtain ⟨A', c', rfl⟩ := owns_slice h2
  unfold Oper.wp execOp
  simp only [ho, resolve, invoke, builtin, Sem.run_bind, Sem.run_pure, Result.andThen_ok, List.map_toArray, List.map_cons, List.map_nil, hs, hx, hr]
  exact h A' c' w' (Lib.hid h2) h3 h5
/-- append of so many zeros. -/
theorem run_own_zeros_at {P : Program} {w : World} (base : Nat) (t tn ty e : TypeId) (i : TypeInfo) (z : Value) (kq kn : IntKind) (ht : P.underlying t = some (.slice e)) (htn : P.underlying tn = some (.int kn)) (hi : P.info? e = some i) (hz : i.zero = some z)
    (hzs : z.cells.size = i.size) (hz1 : ∀ u ∈ z.cells, u.oneCell' = true) (hsz : 0 < i.size)
    (v : Value) (n : Nat) (xs : List Value) (hown : w.ownsRow base e i.size v n xs) (k : Nat)
    (h63 : n + k ≤ maxLen) (hbytes : (n + k) * i.bytes ≤ 140737488355328) (hbase : base ≤ w.heap.size) :
    ∃ v' w', (Builtin.append_ #[t, tn] ty #[v, .int kq k]).run P w = .ok v' w' ∧ w'.ownsRow base e i.size v' (n + k) (xs ++ (Builtin.zeroCells z.cells k).toList) ∧ w.grownBy w' v.ownBlock ∧ (v'.ownBlock = v.ownBlock ∨ v'.ownBlock = some w.heap.size) := by
  have hsmall : n + k ≤ 9223372036854775807 := by simp only [maxLen] at h63; omega
  have hl : (Builtin.zeroCells z.cells k).toList.length = k * i.size := by rw [Array.length_toList, size_zeroCells, hzs]
  have hlen : (xs ++ (Builtin.zeroCells z.cells k).toList).length = (n + k) * i.size := by rw [List.length_append, hown.1, hl, Nat.add_mul]
  have hkb : k * i.bytes ≤ 140737488355328 := Nat.le_trans (Nat.mul_le_mul_right _ (by omega)) hbytes
  have hw : IntKind.i64.wrap (k : Int) = k := by rw [IntKind.wrap_i64]; omega
  have hw0 : IntKind.i64.wrap 0 = 0 := by decide
  have hneg : ¬ ((k : Int) < 0) := by omega
  have h48i : ¬ (281474976710656 < (k : Int) * (i.bytes : Int)) := by rw [← Int.natCast_mul]; omega
  have grown : ∀ (old : Nat), old < n + k → ∀ (row : Option Nat),
      (w.drew.alloc (.cells (xs.toArray ++ Builtin.zeroCells z.cells k ++ Builtin.zeroCells z.cells (grownCap w (n + k) old e - (n + k))) e)).ownsRow base e i.size
        (.slice (some ⟨w.heap.size, 0, none⟩) (n + k) (grownCap w (n + k) old e)) (n + k) (xs ++ (Builtin.zeroCells z.cells k).toList) ∧
      w.grownBy (w.drew.alloc (.cells (xs.toArray ++ Builtin.zeroCells z.cells k ++ Builtin.zeroCells z.cells (grownCap w (n + k) old e - (n + k))) e)) row := by
    intro old ho row
    have hge := grownCap_ge w (n + k) old e
    have hcm : grownCap w (n + k) old e ≤ maxLen := grownCap_le_maxLen w (n + k) old e h63
    refine ⟨⟨hlen, .inr ⟨w.heap.size, _, _, rfl, hbase, heap_alloc_new w.drew _, hge, hcm, ?_, ?_⟩⟩, ⟨rfl, rfl, rfl, by simp, fun k hk _ => Below.heap_alloc w.drew _ k hk⟩⟩
    · simp only [Array.size_append, List.size_toArray, size_zeroCells, hzs, hown.1, ← Nat.add_mul]
      congr 1
      omega
    · simp only [Array.toList_append]
      rw [← hlen]
      exact List.take_left
  rcases hown.2 with ⟨rfl, rfl⟩ | ⟨g, cap, cur, rfl, hbg, hg, hnc, hcm, hcs, htake⟩
  · have hx : xs = [] := List.eq_nil_of_length_eq_zero (by simpa using hown.1)
    subst hx
    by_cases hm : k = 0
    · subst hm
      refine ⟨.slice none 0 0, w, ?_, by simpa [Builtin.zeroCells] using World.ownsRow_nil w base e i.size, ⟨rfl, rfl, rfl, Nat.le_refl _, fun _ _ _ => rfl⟩, .inl rfl⟩
      simp [Builtin.append_, run_underlying ht, run_underlying htn, sizeOf, typeInfo, zeroValue, hi, hz, asInt, asIntOf, hw0]
    · have hr := Lib.run_append_nil_zeros (P := P) w t tn ty e i z kq kn ht htn hi hz k (by omega) hsz (by omega) (by omega)
      have hgr := grown 0 (by omega) (Value.ownBlock (.slice none 0 0))
      simp only [Nat.zero_add, List.nil_append, Array.empty_append] at hgr ⊢
      exact ⟨_, _, hr, hgr.1, hgr.2, .inr rfl⟩
  · by_cases hroom : n + k ≤ cap
    · have hfit : n * i.size + (Builtin.zeroCells z.cells k).toList.length ≤ cur.size := by rw [hl, hcs, ← Nat.add_mul]; exact Nat.mul_le_mul_right _ hroom
      have h1 : ∀ u ∈ (Builtin.zeroCells z.cells k).toList, u.oneCell' = true := by
        intro u hu
        simp only [Builtin.zeroCells, Array.toList_map, List.mem_map] at hu
        obtain ⟨j, _, rfl⟩ := hu
        refine hz1 _ ?_
        have : j % z.cells.size < z.cells.size := Nat.mod_lt _ (by omega)
        rw [getElem!_pos z.cells _ this]
        exact Array.getElem_mem this
      have hst := run_storeCells_at P g (n * i.size) e _ 0 cur w hg (by simpa using hfit) h1
      simp only [Nat.add_zero] at hst
      have zz : Builtin.zeroCells z.cells 0 = #[] := by simp [Builtin.zeroCells]
      refine ⟨.slice (some ⟨g, 0, none⟩) (n + k) cap, w.setRow g (cur.toList.take (n * i.size) ++ (Builtin.zeroCells z.cells k).toList ++ cur.toList.drop (n * i.size + (Builtin.zeroCells z.cells k).toList.length)).toArray, ?_, ⟨hlen, .inr ⟨g, cap, _, rfl, hbg, setRow_heap w g cur _ e _ hg, hroom, hcm, ?_, ?_⟩⟩, ⟨rfl, rfl, rfl, by simp, fun k _ hk => setRow_other w g k _ (fun e => hk (by simp [Value.ownBlock, e]))⟩, .inl rfl⟩
      · by_cases hk0 : k = 0
        · subst hk0
          simp only [zz, List.append_nil, List.length_nil, Nat.add_zero, List.take_append_drop, Array.toArray_toList]
          rw [setRow_self w g cur e (0, 0) hg]
          simp [Builtin.append_, run_underlying ht, run_underlying htn, sizeOf, typeInfo, zeroValue, hi, hz, asInt, asIntOf, hw0, hnc, storeCells]
        · have hns : ¬ (k * i.size = 0) := Nat.mul_ne_zero hk0 (by omega)
          simp [Builtin.append_, run_underlying ht, run_underlying htn, sizeOf, typeInfo, zeroValue, hi, hz, asInt, asIntOf, hw, hneg, h48i, hns, hroom, Addr.add_lit, hst]
      · simp only [List.size_toArray, List.length_append, List.length_take, List.length_drop, Array.length_toList]
        rw [Array.length_toList] at hfit
        omega
      · rw [htake, ← hlen]
        exact List.take_left
    · have holds : ∀ j u, xs[j]? = some u → w.cell? ((⟨g, 0, none⟩ : Addr).add j) = some u := hown.cells (g := g) rfl
      have hold : (Builtin.firstCells i.size n (.slice (some ⟨g, 0, none⟩) n cap)).run P w.drew = .ok xs.toArray w.drew := run_firstCells_some _ i.size n ⟨g, 0, none⟩ n cap xs hown.1 holds
      have hr := Lib.run_append_grow_zeros (P := P) w t tn ty e i z kq kn ht htn hi hz (some ⟨g, 0, none⟩) n cap xs hold k (by omega) hsz (by omega) (by omega) (by omega) (Nat.le_trans (growslice_fits (by omega) hbytes) (by omega))
      have hgr := grown cap (by omega) (Value.ownBlock (.slice (some ⟨g, 0, none⟩) n cap))
      exact ⟨_, _, hr, hgr.1, hgr.2, .inr rfl⟩
theorem info3z (n : Nat) : (Builtin.zeroCells (Value.int .i64 0).cells n).toList = List.replicate n (.int .i64 0) := by
  have hc : (Value.int .i64 0).cells = #[.int .i64 0] := by rfl
  rw [hc]
  refine List.eq_replicate_iff.2 ⟨by simp [Builtin.zeroCells], fun u hu => ?_⟩
  simp only [Builtin.zeroCells, Array.toList_map, List.mem_map] at hu
  obtain ⟨j, _, rfl⟩ := hu
  have hk : j % (#[Value.int .i64 0] : Array Value).size = 0 := Nat.mod_one j
  rw [hk]; rfl
/-- append of zeros to a row of our own, as one step of a region. -/
theorem step_appZ {ops : Array Oper} {o : Oper} {a : Act} {w : World} {K : Act → World → Prop} {Q : Exit → Act → World → Prop} {E : Prop} (hgd : o.guard = none) (s x : Operand)
    (ho : o.op = .call { callee := .builtin .append, args := #[s, x], argTypes := #[26, 3] }) (B : Nat) (v : Value) (n : Nat) (hs : a.eval s = v) (hown : w.ownsRow B 3 1 v n (List.replicate n (.int .i64 0)))
    (k : Nat) (hx : a.eval x = .int .i64 k) (hmax : n + k ≤ 1000000) (hbase : B ≤ w.heap.size)
    (h : ∀ A' c' w', Hid (w'.ownsRow B 3 1 (.slice A' (n + k) c') (n + k) (List.replicate (n + k) (.int .i64 0))) → w.grownBy w' v.ownBlock → ((Value.slice A' (n + k) c').ownBlock = v.ownBlock ∨ (Value.slice A' (n + k) c').ownBlock = some w.heap.size) → K (a.put o.dst (.slice A' (n + k) c')) w') :
    if Region.wanted o (yielded ops a.tmps) = true then Oper.wp Try.prog o a w K Q else E := by
  have hw : Region.wanted o (yielded ops a.tmps) = true := by simp [Region.wanted, hgd]
  rw [if_pos hw]
  obtain ⟨i0, hi, hz0, hz1, hz2⟩ := info_parts info3
  obtain ⟨v', w', hr, h2, h3, h5⟩ := run_own_zeros_at (P := Try.prog) (w := w) B 26 3 o.type 3 i0 (.int .i64 0) .i64 .i64 Try.underlying26 Try.underlying3 hi hz0 (by rw [hz1]; rfl) (by decide) (by rw [hz1]; decide) v n _ (by rw [hz1]; exact hown) k (by simp only [maxLen]; omega) (by rw [hz2]; omega) hbase
  rw [hz1, info3z] at h2
  obtain ⟨A', c', rfl⟩ := owns_slice h2
  unfold Oper.wp execOp
  simp only [ho, resolve, invoke, builtin, Sem.run_bind, Sem.run_pure, Result.andThen_ok, List.map_toArray, List.map_cons, List.map_nil, hs, hx, hr]
  exact h A' c' w' (Lib.hid (by rw [← List.replicate_append_replicate]; exact h2)) h3 h5
/-- What the reference's runner in the making holds. -/
def RHalf (w wr : World) (L : List Nat) : Prop :=
  ∃ As cs At ct, wr.heap[w.heap.size]? = some (.cells #[.slice As L.length cs, .int .i64 (-1), .int .i64 0, .slice At L.sum ct, .slice none 0 0, .slice none 0 0] 48) ∧ wr.ownsRow w.heap.size 3 1 (.slice As L.length cs) L.length (L.map fun (i : Nat) => Value.int .i64 i) ∧ wr.ownsRow w.heap.size 3 1 (.slice At L.sum ct) L.sum (List.replicate L.sum (.int .i64 0)) ∧
    ((Value.slice As L.length cs).ownBlock = none ∨ (Value.slice At L.sum ct).ownBlock = none ∨ (Value.slice As L.length cs).ownBlock ≠ (Value.slice At L.sum ct).ownBlock)
theorem own_lt {B e s n : Nat} {w : World} {v : Value} {xs : List Value} (h : w.ownsRow B e s v n xs) (g : Nat) (hg : v.ownBlock = some g) : g < w.heap.size := by
  obtain ⟨_, cur, hb⟩ := owns_block h g hg; exact blk_lt hb
/-- The sizes grow by one. -/
theorem half_sizes {w wr X w5 : World} {T : List Nat} {m n cs ct c5 : Nat} {As At A5 : Option Addr} (hB : Below w.heap.size w wr) (hX : Below wr.heap.size wr X)
    (hblk : wr.heap[w.heap.size]? = some (.cells #[.slice As T.length cs, .int .i64 (-1), .int .i64 0, .slice At n ct, .slice none 0 0, .slice none 0 0] 48)) (ho1 : wr.ownsRow w.heap.size 3 1 (.slice As T.length cs) T.length (T.map fun (i : Nat) => Value.int .i64 i)) (ho2 : wr.ownsRow w.heap.size 3 1 (.slice At n ct) n (List.replicate n (.int .i64 0)))
    (hap : (Value.slice As T.length cs).ownBlock = none ∨ (Value.slice At n ct).ownBlock = none ∨ (Value.slice As T.length cs).ownBlock ≠ (Value.slice At n ct).ownBlock)
    (hg : X.grownBy w5 (Value.slice As T.length cs).ownBlock) (ho5 : w5.ownsRow w.heap.size 3 1 (.slice A5 (T.length + 1) c5) (T.length + 1) ((T.map fun (i : Nat) => Value.int .i64 i) ++ [.int .i64 m]))
    (hb5 : (Value.slice A5 (T.length + 1) c5).ownBlock = (Value.slice As T.length cs).ownBlock ∨ (Value.slice A5 (T.length + 1) c5).ownBlock = some X.heap.size) :
    ∃ cs' c', (w5.setCell ⟨w.heap.size, 0, none⟩ (.slice A5 (T.length + 1) c5)).heap[w.heap.size]? = some (.cells #[.slice A5 (T ++ [m]).length cs', .int .i64 (-1), .int .i64 0, .slice At n c', .slice none 0 0, .slice none 0 0] 48) ∧ cs' = c5 ∧ c' = ct ∧ (w5.setCell ⟨w.heap.size, 0, none⟩ (.slice A5 (T.length + 1) c5)).ownsRow w.heap.size 3 1 (.slice A5 (T ++ [m]).length c5) (T ++ [m]).length ((T ++ [m]).map fun (i : Nat) => Value.int .i64 i) ∧ (w5.setCell ⟨w.heap.size, 0, none⟩ (.slice A5 (T.length + 1) c5)).ownsRow w.heap.size 3 1 (.slice At n ct) n (List.replicate n (.int .i64 0)) ∧
      ((Value.slice A5 (T ++ [m]).length c5).ownBlock = none ∨ (Value.slice At n ct).ownBlock = none ∨ (Value.slice A5 (T ++ [m]).length c5).ownBlock ≠ (Value.slice At n ct).ownBlock) ∧ Below w.heap.size w (w5.setCell ⟨w.heap.size, 0, none⟩ (.slice A5 (T.length + 1) c5)) := by
  have hl : (T ++ [m]).length = T.length + 1 := by simp
  have hm : ((T ++ [m]).map fun (i : Nat) => Value.int .i64 i) = (T.map fun (i : Nat) => Value.int .i64 i) ++ [.int .i64 m] := by simp
  have hQ5 := blk_grown (keep_blk hX hblk) (owns_keep ho1 hX) (by decide) hg
  have ho2X := owns_keep ho2 hX
  have hne : (Value.slice At n ct).ownBlock = none ∨ (Value.slice At n ct).ownBlock ≠ (Value.slice As T.length cs).ownBlock := by
    rcases hap with h | h | h
    · rcases ht : (Value.slice At n ct).ownBlock with _ | g
      · exact .inl rfl
      · exact .inr (by rw [h]; simp)
    · exact .inl h
    · exact .inr (Ne.symm h)
  have ho25 := ho2X.kept hg hne
  have hBX : Below w.heap.size w X := hB.trans (hX.mono hB.size)
  refine ⟨c5, ct, ?_, rfl, rfl, ?_, owns_set hQ5 ho25 (by decide), ?_, below_set (hBX.grown hg hBX.size (fun g e => (owns_block ho1 g e).1)) (Nat.le_refl _)⟩
  · rw [hl]; exact heap_set_same hQ5
  · rw [hl, hm]; exact owns_set hQ5 ho5 (by decide)
  · rw [hl]
    rcases hb5 with h | h
    · rw [h]; exact hap
    · rcases ht : (Value.slice At n ct).ownBlock with _ | g
      · exact .inr (.inl rfl)
      · have := own_lt ho2X g ht
        exact .inr (.inr (by rw [h]; intro e; cases e; omega))
/-- The tries grow. -/
theorem half_tries {w wr X w5 : World} {T : List Nat} {m n cs ct c5 : Nat} {As At A5 : Option Addr} (hB : Below w.heap.size w wr) (hX : Below wr.heap.size wr X)
    (hblk : wr.heap[w.heap.size]? = some (.cells #[.slice As T.length cs, .int .i64 (-1), .int .i64 0, .slice At n ct, .slice none 0 0, .slice none 0 0] 48)) (ho1 : wr.ownsRow w.heap.size 3 1 (.slice As T.length cs) T.length (T.map fun (i : Nat) => Value.int .i64 i)) (ho2 : wr.ownsRow w.heap.size 3 1 (.slice At n ct) n (List.replicate n (.int .i64 0)))
    (hap : (Value.slice As T.length cs).ownBlock = none ∨ (Value.slice At n ct).ownBlock = none ∨ (Value.slice As T.length cs).ownBlock ≠ (Value.slice At n ct).ownBlock)
    (hg : X.grownBy w5 (Value.slice At n ct).ownBlock) (ho5 : w5.ownsRow w.heap.size 3 1 (.slice A5 (n + m) c5) (n + m) (List.replicate (n + m) (.int .i64 0)))
    (hb5 : (Value.slice A5 (n + m) c5).ownBlock = (Value.slice At n ct).ownBlock ∨ (Value.slice A5 (n + m) c5).ownBlock = some X.heap.size) :
    (w5.setCell ⟨w.heap.size, 3, none⟩ (.slice A5 (n + m) c5)).heap[w.heap.size]? = some (.cells #[.slice As T.length cs, .int .i64 (-1), .int .i64 0, .slice A5 (n + m) c5, .slice none 0 0, .slice none 0 0] 48) ∧ (w5.setCell ⟨w.heap.size, 3, none⟩ (.slice A5 (n + m) c5)).ownsRow w.heap.size 3 1 (.slice As T.length cs) T.length (T.map fun (i : Nat) => Value.int .i64 i) ∧ (w5.setCell ⟨w.heap.size, 3, none⟩ (.slice A5 (n + m) c5)).ownsRow w.heap.size 3 1 (.slice A5 (n + m) c5) (n + m) (List.replicate (n + m) (.int .i64 0)) ∧
      ((Value.slice As T.length cs).ownBlock = none ∨ (Value.slice A5 (n + m) c5).ownBlock = none ∨ (Value.slice As T.length cs).ownBlock ≠ (Value.slice A5 (n + m) c5).ownBlock) ∧ Below w.heap.size w (w5.setCell ⟨w.heap.size, 3, none⟩ (.slice A5 (n + m) c5)) := by
  have hQ5 := blk_grown (keep_blk hX hblk) (owns_keep ho2 hX) (by decide) hg
  have ho1X := owns_keep ho1 hX
  have hne : (Value.slice As T.length cs).ownBlock = none ∨ (Value.slice As T.length cs).ownBlock ≠ (Value.slice At n ct).ownBlock := by
    rcases hap with h | h | h
    · exact .inl h
    · rcases ht : (Value.slice As T.length cs).ownBlock with _ | g
      · exact .inl rfl
      · exact .inr (by rw [h]; simp)
    · exact .inr h
  have ho15 := ho1X.kept hg hne
  have hBX : Below w.heap.size w X := hB.trans (hX.mono hB.size)
  refine ⟨heap_set_same hQ5, owns_set hQ5 ho15 (by decide), owns_set hQ5 ho5 (by decide), ?_, below_set (hBX.grown hg hBX.size (fun g e => (owns_block ho2 g e).1)) (Nat.le_refl _)⟩
  rcases hb5 with h | h
  · rw [h]; exact hap
  · rcases ht : (Value.slice As T.length cs).ownBlock with _ | g
    · exact .inl rfl
    · have := own_lt ho1X g ht
      exact .inr (.inr (by rw [h]; intro e; cases e; omega))
/-- NewRunner's answer. -/
def RNewIs (w : World) (L : List Nat) (e : Ending) (w' : World) : Prop :=
  ∃ B : RefB, e = .returned (.pointer (some ⟨B.Q, 0, none⟩)) ∧ B.Above w.heap.size ∧ B.Apart ∧ RefAt w' B (Rn.new L) ∧ B.tb < w'.heap.size ∧ Below w.heap.size w w'
/-- The reference's runner is made. -/
theorem rnew_fin {w wr W : World} {L : List Nat} {cs ct gd go : Nat} {As At : Option Addr} {MC : Array Value} (hB : Below w.heap.size w wr)
    (hblk : wr.heap[w.heap.size]? = some (.cells #[.slice As L.length cs, .int .i64 (-1), .int .i64 0, .slice At L.sum ct, .slice none 0 0, .slice none 0 0] 48)) (ho1 : wr.ownsRow w.heap.size 3 1 (.slice As L.length cs) L.length (L.map fun (i : Nat) => Value.int .i64 i)) (ho2 : wr.ownsRow w.heap.size 3 1 (.slice At L.sum ct) L.sum (List.replicate L.sum (.int .i64 0)))
    (hap : (Value.slice As L.length cs).ownBlock = none ∨ (Value.slice At L.sum ct).ownBlock = none ∨ (Value.slice As L.length cs).ownBlock ≠ (Value.slice At L.sum ct).ownBlock)
    (hMC : ∀ i, i < L.sum → MC[i]? = some (.int .i64 0)) (hW : ∀ k, k < wr.heap.size → k ≠ w.heap.size → W.heap[k]? = wr.heap[k]?)
    (hQ : W.heap[w.heap.size]? = some (.cells #[.slice As L.length cs, .int .i64 (-1), .int .i64 0, .slice At L.sum ct, .slice (some ⟨gd, 0, none⟩) L.sum L.sum, .slice (some ⟨go, 0, none⟩) L.sum L.sum] 48))
    (hgd : W.heap[gd]? = some (.cells MC 3)) (hgo : W.heap[go]? = some (.cells MC 3)) (hne : gd ≠ go) (h1 : wr.heap.size ≤ gd) (h2 : wr.heap.size ≤ go) (hb : Below w.heap.size w W) :
    RNewIs w L (.returned (.pointer (some ⟨w.heap.size, 0, none⟩))) W := by
  have hQl := blk_lt hblk
  have hgdl := blk_lt hgd
  have hgol := blk_lt hgo
  have hlen : (Rn.new L).l.length = L.sum := by simp [Rn.new]
  have hS : ∃ sb, w.heap.size ≤ sb ∧ (L = [] ∨ (As = some ⟨sb, 0, none⟩ ∧ Arr W sb L.length (fun i => (L.getD i 0 : Nat)))) ∧ ((sb < wr.heap.size ∧ sb ≠ w.heap.size ∧ (Value.slice As L.length cs).ownBlock = some sb) ∨ (W.heap.size < sb)) := by
    rcases ho1.2 with ⟨_, hz⟩ | ⟨g, cap, cur, hv, hg, hbk, hn, _, hs, ht⟩
    · exact ⟨W.heap.size + 1, by have := hb.size; omega, .inl (List.length_eq_zero_iff.1 hz), .inr (by omega)⟩
    · have hgl := blk_lt hbk
      have hgq : g ≠ w.heap.size := fun e => by subst e; rw [hblk] at hbk; simp at hbk
      simp only [Value.slice.injEq] at hv
      refine ⟨g, hg, .inr ⟨hv.1, cur, by rw [hW g hgl hgq]; exact hbk, fun i hi => ?_⟩, .inl ⟨hgl, hgq, by rw [hv.1]; rfl⟩⟩
      have : (cur.toList.take (L.length * 1))[i]? = some (.int .i64 (L.getD i 0 : Nat)) := by
        rw [ht, List.getElem?_map, List.getElem?_eq_getElem hi, List.getD_eq_getElem?_getD, List.getElem?_eq_getElem hi]; rfl
      rw [List.getElem?_take] at this
      split at this
      · simpa using this
      · cases this
  have hT : ∃ tb, w.heap.size ≤ tb ∧ tb < wr.heap.size ∧ ((Rn.new L).l = [] ∨ (At = some ⟨tb, 0, none⟩ ∧ Arr W tb L.sum (fun _ => 0))) ∧ ((tb ≠ w.heap.size ∧ (Value.slice At L.sum ct).ownBlock = some tb) ∨ tb = w.heap.size) := by
    rcases ho2.2 with ⟨_, hz⟩ | ⟨g, cap, cur, hv, hg, hbk, hn, _, hs, ht⟩
    · exact ⟨w.heap.size, Nat.le_refl _, hQl, .inl (List.length_eq_zero_iff.1 (by rw [hlen]; exact hz)), .inr rfl⟩
    · have hgl := blk_lt hbk
      have hgq : g ≠ w.heap.size := fun e => by subst e; rw [hblk] at hbk; simp at hbk
      simp only [Value.slice.injEq] at hv
      refine ⟨g, hg, hgl, .inr ⟨hv.1, cur, by rw [hW g hgl hgq]; exact hbk, fun i hi => ?_⟩, .inl ⟨hgq, by rw [hv.1]; rfl⟩⟩
      have : (cur.toList.take (L.sum * 1))[i]? = some (.int .i64 0) := by
        rw [ht, List.getElem?_replicate, if_pos hi]
      rw [List.getElem?_take] at this
      split at this
      · simpa using this
      · cases this
  obtain ⟨sb, s1, s2, s3⟩ := hS
  obtain ⟨tb, t1, t2, t3, t4⟩ := hT
  have hrq : ∀ i, i < L.sum → (Rn.new L).rq i = ⟨0, 0, 0⟩ := fun i hi => new_rq L i hi
  have hz : ∀ g, W.heap[g]? = some (.cells MC 3) → ∀ f : Rq → Int, f ⟨0, 0, 0⟩ = 0 → Arr W g L.sum (fun i => f ((Rn.new L).rq i)) := fun g hg f hf => ⟨MC, hg, fun i hi => by
    show _ = some (Value.int .i64 (f ((Rn.new L).rq i)))
    rw [hrq i hi, hf]; exact hMC i hi⟩
  have hst : sb ≠ tb := by
    rcases s3 with ⟨a, b, d⟩ | a
    · rcases t4 with ⟨e, f⟩ | e
      · rcases hap with h | h | h
        · rw [h] at d; cases d
        · rw [h] at f; cases f
        · intro hh; rw [d, f, hh] at h; exact h rfl
      · omega
    · have := hb.size
      have : wr.heap.size ≤ W.heap.size := by omega
      omega
  refine ⟨⟨w.heap.size, As, cs, At, ct, sb, tb, gd, go⟩, rfl, ⟨Nat.le_refl _, by show w.heap.size ≤ gd; omega, by show w.heap.size ≤ go; omega, t1, s1⟩, ⟨hst, ?_, ?_, by show tb ≠ gd; omega, by show tb ≠ go; omega, hne⟩, ⟨by rw [hlen]; exact hQ, s2, ?_, by rw [hlen]; exact hz gd hgd Rq.due rfl, by rw [hlen]; exact hz go hgo Rq.out rfl⟩, by show tb < W.heap.size; omega, hb⟩
  · show sb ≠ gd
    rcases s3 with ⟨a, _⟩ | a <;> omega
  · show sb ≠ go
    rcases s3 with ⟨a, _⟩ | a <;> omega
  · rcases t3 with h | ⟨h, h'⟩
    · exact .inl h
    · refine .inr ⟨h, ?_⟩
      rw [hlen]
      refine h'.eq fun i hi => ?_
      show ((Rn.new L).rq i).tries = 0
      rw [hrq i hi]
set_option maxHeartbeats 4000000 in
set_option maxRecDepth 100000 in
theorem rnew_any (A0 : Option Addr) (c0 : Nat) (L : List Nat) (h1 : L.length ≤ 1000) (h2 : L.sum ≤ 1000) (w : World) (ha : RowsAt w A0 L) :
    Calls Try.prog 18 #[.slice A0 L.length c0] w (RNewIs w L) := by
  have HA := Lib.hid ha
  clear ha
  go_enter Try.func18, Try.ntmps18
  go_wp2_with fail
  go_loopw [4] (fun s4 wr => ∃ k : Nat, s4 = .int .i64 k ∧ k ≤ L.length ∧ RHalf w wr (L.take k) ∧ Below w.heap.size w wr) (fun s4 _ => L.length - (intOf s4).toNat)
  case atStart => exact ⟨0, rfl, by omega, ⟨none, 0, none, 0, heap_top0, ⟨rfl, .inl ⟨rfl, rfl⟩⟩, ⟨rfl, .inl ⟨rfl, rfl⟩⟩, .inl rfl⟩, below_new (Below.refl _ _) _⟩
  case round =>
    obtain ⟨k, rfl, hk, hhalf, hbel⟩ := hrel
    have HB := Lib.hid hbel
    by_cases hlt : k < L.length
    · have hd : decide (k < L.length) = true := decide_eq_true hlt
      have hlt' : (k : Int) < (L.length : Int) := by omega
      have HLT := Lib.hid hlt
      have HT := Lib.hid (show L.take (k + 1) = L.take k ++ [L.getD k 0] by rw [List.take_add_one, List.getD_eq_getElem?_getD, List.getElem?_eq_getElem hlt]; rfl)
      have HS1 := Lib.hid (show (L.take k).sum + L.getD k 0 ≤ 1000 by have := sum_take_succ L k hlt; have := sum_take_le L (k + 1); omega)
      have HTL := Lib.hid (show (L.take k).length = k by rw [List.length_take]; omega)
      obtain ⟨g, hA0, hgl, Ai, ci, hgc⟩ := HA.out.at hlt
      subst hA0
      have hcw := keep_cell hbel hgc
      have HGC := Lib.hid hgc
      generalize L.getD k 0 = m at *
      obtain ⟨As, cs, At, ct, hblk, ho1, ho2, hap⟩ := hhalf
      have HBLK := Lib.hid hblk
      have HO1 := Lib.hid ho1
      have HO2 := Lib.hid ho2
      have HAP := Lib.hid hap
      obtain ⟨cc, zc⟩ := blk_cells hblk
      have hQl := blk_lt hblk
      generalize L.take k = T at *
      clear hlt hblk ho1 ho2 hbel hgc hap
      go_upto_region 5 with fail
      go_region_law (refine step_appI rfl (.tmp 17) (.tmp 23) rfl w.heap.size (.slice As T.length cs) T.length (T.map fun (i : Nat) => Value.int .i64 i) (by simp [Act.eval, Act.put]) (owns_keep HO1.out (by repeat (first | (with_reducible exact Below.refl _ _) | (with_reducible refine below_new ?_ _) | (with_reducible refine Below.drew ?_)))) wr.heap.size m (by simp [Act.eval, Act.put]) (by first | exact cell_top0 (w := wr.drew) rfl | exact cell_top0 rfl | exact cell_drew (cell_top0 rfl)) (by have := HTL.out; omega) (Nat.le_trans HB.out.size (by simp)) ?_; intro A5 c5 w5 hown5 hg5 hb5; have HH5 := Lib.hid (half_sizes HB.out (by repeat (first | (with_reducible exact Below.refl _ _) | (with_reducible refine below_new ?_ _) | (with_reducible refine Below.drew ?_))) HBLK.out HO1.out HO2.out HAP.out hg5 hown5.out hb5); have HQ5 := Lib.hid (blk_grown (keep_blk (by repeat (first | (with_reducible exact Below.refl _ _) | (with_reducible refine below_new ?_ _) | (with_reducible refine Below.drew ?_))) HBLK.out) (owns_keep HO1.out (by repeat (first | (with_reducible exact Below.refl _ _) | (with_reducible refine below_new ?_ _) | (with_reducible refine Below.drew ?_)))) (by decide) hg5); obtain ⟨cv5, zv5⟩ := blk_cells HQ5.out; have hQ5 := blk_lt HQ5.out; clear hown5 hg5 hb5)
      all_goals
        obtain ⟨cs', ct', hblk6, hcs', hct', ho6, hp6, hap6, hb6⟩ := HH5.out
        subst hcs' hct'
        have HBLK6 := Lib.hid hblk6
        have HO6 := Lib.hid ho6
        have HP6 := Lib.hid hp6
        have HAP6 := Lib.hid hap6
        have HB6 := Lib.hid hb6
        have hcw6 := keep_cell hb6 HGC.out
        obtain ⟨cc6, zc6⟩ := blk_cells hblk6
        have hQl6 := blk_lt hblk6
        clear hblk6 ho6 hp6 hap6 hb6 cv5 zv5 hQ5 cc zc hQl hcw HH5 HQ5
        generalize (w5.setCell ⟨w.heap.size, 0, none⟩ (.slice A5 (T.length + 1) cs')) = w6 at *
        generalize hT6 : T ++ [m] = T6 at *
        have hT6s : T6.sum = T.sum + m := by rw [← hT6]; simp
        have HT6 := Lib.hid hT6s
        have HTE := Lib.hid hT6
        clear hT6 hT6s
        go_upto_region 6 with fail
        go_region_law (refine step_appZ rfl (.tmp 31) (.tmp 36) rfl w.heap.size (.slice At T.sum ct') T.sum (by simp [Act.eval, Act.put]) (owns_keep HP6.out (by repeat (first | (with_reducible exact Below.refl _ _) | (with_reducible refine below_new ?_ _) | (with_reducible refine Below.drew ?_)))) m (by simp [Act.eval, Act.put]) (by have := HS1.out; omega) (Nat.le_trans HB6.out.size (by first | exact Nat.le_refl _ | simp)) ?_; intro A7 c7 w7 hown7 hg7 hb7; have HH7 := Lib.hid (half_tries HB6.out (by repeat (first | (with_reducible exact Below.refl _ _) | (with_reducible refine below_new ?_ _) | (with_reducible refine Below.drew ?_))) HBLK6.out HO6.out HP6.out HAP6.out hg7 hown7.out hb7); have HQ7 := Lib.hid (blk_grown (keep_blk (by repeat (first | (with_reducible exact Below.refl _ _) | (with_reducible refine below_new ?_ _) | (with_reducible refine Below.drew ?_))) HBLK6.out) (owns_keep HP6.out (by repeat (first | (with_reducible exact Below.refl _ _) | (with_reducible refine below_new ?_ _) | (with_reducible refine Below.drew ?_)))) (by decide) hg7); obtain ⟨cv7, zv7⟩ := blk_cells HQ7.out; have hQ7 := blk_lt HQ7.out; clear hown7 hg7 hb7)
        all_goals
          go_wp2_with fail
          go_roundw
          case rel =>
            obtain ⟨a1, a2, a3, a4, a5⟩ := HH7.out
            refine ⟨k + 1, by go_num, by have := HLT.out; omega, ?_, a5⟩
            rw [HT.out]
            exact ⟨A5, cs', A7, c7, by rw [HT6.out]; exact a1, a2, by rw [HT6.out]; exact a3, by rw [HT6.out]; exact a4⟩
          case measure => have := HLT.out; simp [intOf]; omega
    · obtain rfl : k = L.length := by omega
      have hd : decide (L.length < L.length) = false := decide_eq_false (by omega)
      rw [List.take_length] at hhalf
      obtain ⟨As, cs, At, ct, hblk, ho1, ho2, hap⟩ := hhalf
      have HBLK := Lib.hid hblk
      have HO1 := Lib.hid ho1
      have HO2 := Lib.hid ho2
      have HAP := Lib.hid hap
      obtain ⟨cc, zc⟩ := blk_cells hblk
      have hQl := blk_lt hblk
      obtain ⟨i0, hi, hz0, hz1, hz2⟩ := info_parts info3
      have hMC : ∀ i, i < L.sum → (madeCells (Value.int .i64 0).cells (L.sum * i0.size))[i]? = some (.int .i64 0) := fun i hi => by
        have hc : (Value.int .i64 0).cells = #[.int .i64 0] := by rfl
        rw [hc, hz1]
        simp [madeCells, hi, Nat.mod_one]
      have HMC := Lib.hid hMC
      have hmk : ∀ w, (Instr.makeSlice 26 (.int .i64 (L.sum : Int)) (.int .i64 (L.sum : Int))).run Try.prog w = .ok (.slice (some ⟨w.heap.size, 0, none⟩) L.sum L.sum) (w.alloc (.cells (madeCells (Value.int .i64 0).cells (L.sum * i0.size)) 3)) := by
        intro w
        have := run_make (P := Try.prog) w 26 3 i0 (.int .i64 0) Try.underlying26 hi hz0 .i64 .i64 (L.sum : Int) (L.sum : Int) (by omega) (by omega) (by rw [hz2]; omega) (by omega)
        simpa using this
      generalize (madeCells (Value.int .i64 0).cells (L.sum * i0.size)) = MC at *
      generalize hN : L.sum = N at *
      have HN := Lib.hid hN
      clear hN hlt hblk ho1 ho2 hap hbel hMC hi hz0 hz1 hz2
      go_upto_region 7 with fail
      go_region
      all_goals
        clear hmk cc zc hQl
        go_wp2_with fail
        go_ret
        have hN := HN.out
        subst hN
        refine rnew_fin (wr := wr) (MC := MC) HB.out HBLK.out HO1.out HO2.out HAP.out HMC.out (fun k hk hkQ => ?_) (heap_drew (heap_old (heap_old (heap_set_same (heap_set_same HBLK.out))))) ?_ ?_ (by omega) (by omega) (by omega) (Below.drew (((below_set (below_set HB.out (Nat.le_refl _)) (Nat.le_refl _)).alloc (by simpa using HB.out.size) _).alloc (by have := HB.out.size; simp; omega) _))
        · show ((((wr.setCell ⟨w.heap.size, 4, none⟩ _).setCell ⟨w.heap.size, 5, none⟩ _).alloc _).alloc _).heap[k]? = _
          rw [Below.heap_alloc _ _ k (by simp; omega), Below.heap_alloc _ _ k (by simpa using hk), Below.heap_setCell _ ⟨w.heap.size, 5, none⟩ _ k hkQ, Below.heap_setCell _ ⟨w.heap.size, 4, none⟩ _ k hkQ]
        · first | (refine heap_drew (heap_old (heap_top' ?_)); focus (simp; done)) | (refine heap_drew (heap_top' ?_); focus (simp; done))
        · first | (refine heap_drew (heap_old (heap_top' ?_)); focus (simp; done)) | (refine heap_drew (heap_top' ?_); focus (simp; done))
end Go.Proofs.Ytpogiondpbfjkaa
