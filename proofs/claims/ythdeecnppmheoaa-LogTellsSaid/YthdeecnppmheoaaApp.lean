/- Appends of bytes to a row of our own; records gathered; slices of bytes that came in. -/
import Derived.Test.YthdeecnppmheoaaAw
import Derived.Laws.AppendOwnNone
import Derived.Deep.Matrix
import Derived.OwnWalk
import Derived.Lib.AppendZerosOnto
namespace Go.Proofs.Ythdeecnppmheoaa
open Go.RowKit
/-- A row of bytes of our own. -/
def Own8 (B : Nat) (w : World) (v : Value) (l : List Int) : Prop := w.ownsRow B 5 1 v l.length (l.map (Value.int .u8))
theorem Own8.keep {B : Nat} {X y : World} {v : Value} {l : List Int} (h : Own8 B X v l) (hb : Below X.heap.size X y) : Own8 B y v l := owns_keep h hb
theorem Own8.nil (B : Nat) (w : World) : Own8 B w (.slice none 0 0) [] := ⟨rfl, .inl ⟨rfl, rfl⟩⟩
theorem Own8.slice {B : Nat} {w : World} {v : Value} {l : List Int} (h : Own8 B w v l) : ∃ A c, v = .slice A l.length c ∧ (A = none → c = 0) ∧ l.length ≤ c := by
  obtain ⟨hx, hr⟩ := h
  rcases hr with ⟨rfl, hz⟩ | ⟨g, cap, cur, rfl, _, _, hn, _⟩
  · exact ⟨none, 0, by rw [hz], fun _ => rfl, by omega⟩
  · exact ⟨_, _, rfl, (fun h => by cases h), hn⟩
theorem Own8.row {B : Nat} {w : World} {A : Option Addr} {n c : Nat} {l : List Int} (h : Own8 B w (.slice A n c) l) (hne : l ≠ []) : ∃ g, A = some ⟨g, 0, none⟩ ∧ n = l.length ∧ B ≤ g ∧ g < w.heap.size ∧ l.length ≤ c ∧ Has8 w g 0 l := by
  obtain ⟨hx, hr⟩ := h
  rcases hr with ⟨_, hz⟩ | ⟨g, cap, cur, he, hg, hblk, hn, hcap, hcur, htake⟩
  · exact absurd (List.length_eq_zero_iff.1 hz) hne
  · simp only [Value.slice.injEq] at he
    obtain ⟨rfl, rfl, rfl⟩ := he
    exact ⟨g, rfl, rfl, hg, obj_lt hblk, hn, read8_own hblk (by simpa using htake)⟩
theorem Own8.read {B : Nat} {w : World} {A : Option Addr} {n c : Nat} {l : List Int} (h : Own8 B w (.slice A n c) l) : Read8 w A l := by
  by_cases hne : l = []
  · exact .inl hne
  · obtain ⟨g, rfl, _, _, hlt, _, hc⟩ := h.row hne
    exact .inr ⟨g, 0, rfl, hlt, hc⟩
theorem RowAt.own {B : Nat} {w : World} {g : Nat} {l : List Int} (h : RowAt w g l) (hB : B ≤ g) (hm : l.length ≤ 9223372036854775807) : Own8 B w (.slice (some ⟨g, 0, none⟩) l.length l.length) l :=
  ⟨by simp, .inr ⟨g, l.length, _, rfl, hB, h, Nat.le_refl _, by unfold maxLen; exact hm, by simp, by simp [List.take_of_length_le]⟩⟩
/-- append of bytes to a row of our own. -/
theorem append8 {ops : Array Oper} {rest : List Oper} {o : Oper} {a : Act} {w : World} {Q : Exit → Act → World → Prop} (hgd : o.guard = none) (s x : Operand)
    (ho : o.op = .call { callee := .builtin .append, args := #[s, x], argTypes := #[23, 23] }) (B : Nat) (v : Value) (l : List Int) (hs : a.eval s = v) (hown : Own8 B w v l)
    (A : Option Addr) (n c : Nat) (data : List Int) (hx : a.eval x = .slice A n c) (hn : n = data.length) (hA : Read8 w A data) (hAc : A = none → c = 0) (hmax : l.length + n ≤ 140737488351232) (hbase : B ≤ w.heap.size)
    (h : ∀ A' c' w', Hid (Own8 B w' (.slice A' (l ++ data).length c') (l ++ data)) → (∀ w0, Below B w0 w → Below B w0 w') → w.grownBy w' v.ownBlock → wpList Try.prog ops Q rest (a.put o.dst (.slice A' (l ++ data).length c')) w') : wpList Try.prog ops Q (o :: rest) a w := by
  subst hn
  obtain ⟨i0, hi, hz0, hz1, hz2⟩ := info_parts info5
  have fin : ∀ v' w', w'.ownsRow B 5 1 v' (l.length + data.length) (l.map (Value.int .u8) ++ data.map (Value.int .u8)) → w.grownBy w' v.ownBlock → wpList Try.prog ops Q rest (a.put o.dst v') w' := fun v' w' ho' hg => by
    have hO : Own8 B w' v' (l ++ data) := by unfold Own8; rw [List.length_append, List.map_append]; exact ho'
    obtain ⟨A', c', rfl, _, _⟩ := hO.slice
    exact h A' c' w' (Lib.hid hO) (fun w0 hb => hb.grown hg hbase (fun g e => (owns_block hown g e).1)) hg
  cases A with
  | none =>
    obtain rfl := hAc rfl
    have hd : data = [] := by
      rcases hA with hd | ⟨b, off, e, _⟩
      · exact hd
      · cases e
    subst hd
    refine wpList_append_own_none hgd s x 23 ho B 5 i0 1 Try.underlying23 hi v l.length _ hs hown hx (fin v w (by simpa [Own8] using hown) ⟨rfl, rfl, rfl, Nat.le_refl _, fun _ _ _ => rfl⟩)
  | some ad =>
    refine wpList_append_own w hgd s x 23 ho B 5 i0 (.int .u8 0) 1 1 Try.underlying23 hi hz0 hz1 hz2 rfl (by decide) v l.length _ hs hown ad data.length c (data.map (Value.int .u8)) hx (by simp) ?_ ?_ (by simp only [maxLen]; omega) (by omega) hbase (fun v' w' ho' hg _ => fin v' w' ho' hg)
    · intro j u hj
      rcases hA with rfl | ⟨b, off, e, _, hc⟩
      · simp at hj
      · cases e
        rw [List.getElem?_map] at hj
        rcases hd' : data[j]? with _ | y
        · rw [hd'] at hj; cases hj
        · rw [hd'] at hj
          have hjl := (List.getElem?_eq_some_iff.1 hd').1
          simp at hj; subst hj
          rw [addr_add, hc j hjl, List.getD_eq_getElem?_getD, hd']; rfl
    · intro u hu
      obtain ⟨y, _, rfl⟩ := List.mem_map.1 hu
      rfl
/-- A slice of slices of bytes that came in: so many, each with its bytes. -/
def RowsIn (w : World) (O : Option Addr) (n : Nat) (ds : Nat → List Int) : Prop :=
  n = 0 ∨ ∃ b off, O = some ⟨b, off, none⟩ ∧ b < w.heap.size ∧ ∀ r, r < n → ∃ A c, w.cell? ⟨b, off + r, none⟩ = some (.slice A (ds r).length c) ∧ (ds r).length ≤ c ∧ (ds r).length ≤ 9223372036854775807 ∧ (A = none → c = 0) ∧ Bytes8 (ds r) ∧ Read8 w A (ds r)
theorem RowsIn.keep {X y : World} {O : Option Addr} {n : Nat} {ds : Nat → List Int} (h : RowsIn X O n ds) (hb : Below X.heap.size X y) : RowsIn y O n ds := by
  rcases h with h | ⟨b, off, rfl, hlt, hr⟩
  · exact .inl h
  · refine .inr ⟨b, off, rfl, Nat.lt_of_lt_of_le hlt hb.size, fun r hr' => ?_⟩
    obtain ⟨A, c, h1, h2, h3, h4, h5, h6⟩ := hr r hr'
    exact ⟨A, c, keep_cell hb h1, h2, h3, h4, h5, h6.keep hb⟩
/-- So many records, one behind the other. -/
def recsF (s k : Int) (ds : Nat → List Int) (n : Nat) : List Rec := (List.range n).map fun (i : Nat) => (s + (i : Int), k, ds i)
theorem recsF_succ (s k : Int) (ds : Nat → List Int) (n : Nat) : recsF s k ds (n + 1) = recsF s k ds n ++ [(s + n, k, ds n)] := by simp [recsF, List.range_succ]
theorem joinF_append : ∀ (a b : List Rec), joinF (a ++ b) = joinF a ++ joinF b
  | [], b => rfl
  | r :: rs, b => by rw [List.cons_append, joinF, joinF_append rs b, joinF, List.append_assoc]
theorem joinF_one (r : Rec) : joinF [r] = packF r.1 r.2.1 r.2.2 := by simp [joinF]
theorem blocksF_append : ∀ (a b : List Rec), blocksF (a ++ b) = blocksF a + blocksF b
  | [], b => by simp [blocksF]
  | r :: rs, b => by rw [List.cons_append, blocksF, blocksF_append rs b, blocksF, Nat.add_assoc]
theorem blocksF_bd (s k : Int) (ds : Nat → List Int) (m : Nat) : ∀ n, (∀ i, i < n → (ds i).length ≤ m) → blocksF (recsF s k ds n) ≤ n * ((m + 81) / 64)
  | 0, _ => by simp [recsF, blocksF]
  | n + 1, h => by
    have := blocksF_bd s k ds m n (fun i hi => h i (by omega))
    have h2 := h n (by omega)
    rw [recsF_succ, blocksF_append, Nat.succ_mul]
    simp only [blocksF]
    have h3 : ((ds n).length + 81) / 64 ≤ (m + 81) / 64 := Nat.div_le_div_right (by omega)
    omega
theorem joinF_8 : ∀ (rs : List Rec), (∀ r ∈ rs, 0 ≤ r.1 ∧ r.1 ≤ 4294967295 ∧ 0 ≤ r.2.1 ∧ r.2.1 ≤ 255 ∧ r.2.2.length ≤ 4294967295 ∧ Bytes8 r.2.2) → Bytes8 (joinF rs)
  | [], _ => fun x hx => by simp [joinF] at hx
  | r :: rs, h => fun x hx => by
    rw [joinF, List.mem_append] at hx
    rcases hx with hx | hx
    · obtain ⟨a, b, c, d, e, f⟩ := h r (by simp)
      exact packF_8 a b c d (by omega) f x hx
    · exact joinF_8 rs (fun r hr => h r (by simp [hr])) x hx
theorem recsF_mem {s k : Int} {ds : Nat → List Int} {n : Nat} {r : Rec} (h : r ∈ recsF s k ds n) : ∃ i, i < n ∧ r = (s + i, k, ds i) := by
  simp only [recsF, List.mem_map, List.mem_range] at h
  obtain ⟨i, hi, rfl⟩ := h
  exact ⟨i, hi, rfl⟩
theorem recsF_length (s k : Int) (ds : Nat → List Int) (n : Nat) : (recsF s k ds n).length = n := by simp [recsF]
/-- Numbers that go on. -/
theorem chain_append : ∀ (a b : List Rec) (was : Option Int), chainF was (a ++ b) ↔ chainF was a ∧ chainF (lastF was a) b
  | [], b, was => by simp [chainF, lastF]
  | r :: rs, b, was => by simp only [List.cons_append, chainF, lastF, chain_append rs b, and_assoc]
theorem lastF_append : ∀ (a b : List Rec) (was : Option Int), lastF was (a ++ b) = lastF (lastF was a) b
  | [], b, was => rfl
  | r :: rs, b, was => by simp only [List.cons_append, lastF, lastF_append rs b]
theorem recsF_chain (s k : Int) (ds : Nat → List Int) (hs : 1 ≤ s) (hm : s ≤ 4000000000) : ∀ n, n ≤ 1000 → chainF none (recsF s k ds n) ∧ (0 < n → lastF none (recsF s k ds n) = some (s + n - 1))
  | 0, _ => ⟨trivial, fun h => absurd h (Nat.lt_irrefl _)⟩
  | n + 1, hn => by
    obtain ⟨h1, h2⟩ := recsF_chain s k ds hs hm n (by omega)
    rw [recsF_succ]
    refine ⟨(chain_append _ _ _).2 ⟨h1, ?_, by show 0 ≤ s + (n : Int); omega, trivial⟩, fun _ => ?_⟩
    · by_cases h0 : n = 0
      · subst h0; simp [recsF, lastF, stopF]; omega
      · rw [h2 (by omega)]; simp [stopF]; omega
    · rw [lastF_append]; simp [lastF]; omega
/-- append of 64 zeros to a row that is full. -/
theorem append_z64 {ops : Array Oper} {rest : List Oper} {o : Oper} {a : Act} {w : World} {Q : Exit → Act → World → Prop} (hgd : o.guard = none) (s : Operand)
    (ho : o.op = .call { callee := .builtin .append, args := #[s, .const (.int .i64 64)], argTypes := #[23, 3] }) (g : Nat) (l : List Int) (hs : a.eval s = .slice (some ⟨g, 0, none⟩) l.length l.length) (hr : RowAt w g l) (hmax : l.length ≤ 1000000)
    (h : ∀ c' w', Hid (Own8 w.heap.size w' (.slice (some ⟨w.heap.size, 0, none⟩) (l.length + 64) c') (l ++ z 64)) → Below w.heap.size w w' → wpList Try.prog ops Q rest (a.put o.dst (.slice (some ⟨w.heap.size, 0, none⟩) (l.length + 64) c')) w') : wpList Try.prog ops Q (o :: rest) a w := by
  obtain ⟨i0, hi, hz0, hz1, hz2⟩ := info_parts info5
  have hold : (Builtin.firstCells i0.size l.length (.slice (some ⟨g, 0, none⟩) l.length l.length)).run Try.prog w.drew = .ok (l.map (Value.int .u8)).toArray w.drew := by
    refine run_firstCells_some _ i0.size l.length ⟨g, 0, none⟩ l.length l.length (l.map (Value.int .u8)) (by rw [hz1]; simp) (fun j v hj => ?_)
    rw [List.getElem?_map] at hj
    rcases hd' : l[j]? with _ | y
    · rw [hd'] at hj; cases hj
    · rw [hd'] at hj
      have hjl := (List.getElem?_eq_some_iff.1 hd').1
      simp at hj; subst hj
      rw [addr_add]
      have := hr.cells j hjl
      rw [List.getD_eq_getElem?_getD, hd'] at this
      exact this
  have hrun := Lib.run_append_grow_zeros (P := Try.prog) w 23 3 o.type 5 i0 (.int .u8 0) .i64 .i64 Try.underlying23 Try.underlying3 hi hz0 (some ⟨g, 0, none⟩) l.length l.length (l.map (Value.int .u8)) hold 64 (by decide) (by rw [hz1]; decide) (by omega) (by omega) (by rw [hz2]; decide) (by rw [hz2]; exact growslice_fits (by omega) (by omega))
  have hge := grownCap_ge w (l.length + 64) l.length 5
  have hle := grownCap_le_maxLen w (l.length + 64) l.length 5 (by unfold maxLen; omega)
  refine Lib.wpList_append_run w hgd s (.const (.int .i64 64)) 23 3 ho _ _ hs rfl _ _ hrun (h _ _ (Lib.hid ?_) ?_)
  · refine ⟨by simp [z], .inr ⟨w.heap.size, _, _, by simp [z], Nat.le_refl _, heap_top' rfl, by simp [z]; exact hge, hle, ?_, ?_⟩⟩
    · simp [Builtin.zeroCells, Value.cells]; omega
    · have e64 : (List.map (fun i => #[Value.int IntKind.u8 0][i % [Value.int IntKind.u8 0].length]!) (List.range (64 * [Value.int IntKind.u8 0].length))) = (z 64).map (Value.int .u8) := by rfl
      simp only [Builtin.zeroCells, Value.cells, List.size_toArray, Array.toList_append, Array.toList_map, Array.toList_range, List.length_append, Nat.mul_one, List.map_append]
      rw [e64, List.take_left' (by simp [z])]
  · exact below_new (Below.drew (Below.refl _ _)) _
theorem RowsIn.at {w : World} {O : Option Addr} {n r : Nat} {ds : Nat → List Int} (h : RowsIn w O n ds) (hr : r < n) :
    ∃ b off, O = some ⟨b, off, none⟩ ∧ b < w.heap.size ∧ ∃ A c, w.cell? ⟨b, off + r, none⟩ = some (.slice A (ds r).length c) ∧ (ds r).length ≤ c ∧ (ds r).length ≤ 9223372036854775807 ∧ (A = none → c = 0) ∧ Bytes8 (ds r) ∧ Read8 w A (ds r) := by
  rcases h with h | ⟨b, off, e, hlt, hh⟩
  · omega
  · exact ⟨b, off, e, hlt, hh r hr⟩
/-- The first so many are short. -/
def GoodTo (ds : Nat → List Int) (m n : Nat) : Prop := ∀ i, i < n → (ds i).length ≤ m ∧ Bytes8 (ds i)
theorem goodTo_succ {ds : Nat → List Int} {m k : Nat} {d : List Int} (h : GoodTo ds m k) (hd : ds k = d) (h8 : Bytes8 d) (hl : d.length ≤ m) : GoodTo ds m (k + 1) := fun i hi => by
  rcases Nat.lt_or_ge i k with h' | h'
  · exact h i h'
  · obtain rfl : i = k := by omega
    rw [hd]; exact ⟨hl, h8⟩
theorem join_bd (s k : Int) (ds : Nat → List Int) (m N n : Nat) (h : GoodTo ds m n) (hn : n ≤ N) (hN : N * ((m + 81) / 64) ≤ 1000) : (joinF (recsF s k ds n)).length ≤ 64000 := by
  rw [joinF_length]
  have h1 := blocksF_bd s k ds m n (fun i hi => (h i hi).1)
  have h2 : n * ((m + 81) / 64) ≤ N * ((m + 81) / 64) := Nat.mul_le_mul_right _ hn
  omega
theorem bytes8_append {a b : List Int} (ha : Bytes8 a) (hb : Bytes8 b) : Bytes8 (a ++ b) := fun x hx => by
  rcases List.mem_append.1 hx with hx | hx
  · exact ha x hx
  · exact hb x hx
theorem bytes8_z (n : Nat) : Bytes8 (z n) := fun x hx => by rw [List.eq_of_mem_replicate hx]; decide
theorem join_8 {s k : Int} {ds : Nat → List Int} {m n : Nat} (h : GoodTo ds m n) (hm : m ≤ 4294967295) (hs0 : 0 ≤ s) (hs1 : s + n ≤ 4294967295) (hk0 : 0 ≤ k) (hk1 : k ≤ 255) : Bytes8 (joinF (recsF s k ds n)) :=
  joinF_8 _ fun r hr => by
    obtain ⟨i, hi, rfl⟩ := recsF_mem hr
    obtain ⟨h1, h2⟩ := h i hi
    exact ⟨by show 0 ≤ s + (i : Int); omega, by show s + (i : Int) ≤ 4294967295; omega, hk0, hk1, by show (ds i).length ≤ _; omega, h2⟩
theorem recs_shape {a : Nat} {w : World} {v : Value} {gs : List Rec} (h : Recs a w v gs) : ∃ A c, v = .slice A gs.length c := by
  obtain ⟨xs, ⟨hx, hr⟩, hv⟩ := h
  rcases hr with ⟨rfl, hz⟩ | ⟨g, cap, cur, rfl, _⟩
  · exact ⟨none, 0, by rw [hz]⟩
  · exact ⟨_, _, rfl⟩
theorem scanF_stop {l : List Int} {q k : Int} {d : List Int} {K : Nat} {was : Option Int} (h : recAt l = some ((q, k, d), K)) (hs : stopF q was = true) (f : Nat) : scanF f l was = ([], 0) := by
  cases f with
  | zero => rfl
  | succ f => rw [scanF, h]; simp [hs]
theorem recAt_z0 : recAt [] = none := by simpa [z] using recAt_z 0
theorem recAt_head {l : List Int} (h : l.take 4 ≠ magic) : recAt l = none := by
  unfold recAt; rw [if_neg]; rintro ⟨_, h', _⟩; exact h h'
/-- Elder records behind newer ones. -/
theorem scan_stale (S E k j : Int) (da db : Nat → List Int) (n m : Nat) (hn : 0 < n) (hn5 : n ≤ 1000) (hS : 1000 ≤ S) (hS1 : S ≤ 4000000000) (hE : 0 ≤ E) (hE1 : E ≤ 900) :
    scanA (joinF (recsF S k da n) ++ joinF (recsF E j db m)) = (recsF S k da n, blocksF (recsF S k da n)) := by
  obtain ⟨hc, hl⟩ := recsF_chain S k da (by omega) hS1 n hn5
  refine scan_whole _ _ hc (fun f => ?_)
  rw [hl hn]
  cases m with
  | zero => exact scanF_none (by simpa [recsF, joinF] using recAt_z0) f _
  | succ m =>
    have e : recsF E j db (m + 1) = (E, j, db 0) :: ((List.range m).map fun (i : Nat) => (E + ((i + 1 : Nat) : Int), j, db (i + 1))) := by
      simp [recsF, List.range_succ_eq_map, List.map_map, Function.comp_def]
    rw [e, joinF]
    exact scanF_stop (recAt_pack E j (db 0) _ hE) (by simp [stopF]; omega) f
theorem scan_gap (l : List Int) : scanA (z 64 ++ l) = ([], 0) := by
  refine scanF_none (recAt_head ?_) _ _
  rw [List.take_append_of_le_length (by simp [z])]; decide
theorem scan_first (q k : Int) (d l : List Int) (hq : 1 ≤ q) : scanA (packF q k d ++ (z 64 ++ l)) = ([(q, k, d)], (d.length + 81) / 64) := by
  have := scan_whole [(q, k, d)] (z 64 ++ l) ⟨by simp [stopF]; omega, by simp; omega, trivial⟩ (fun f => scanF_none (recAt_head (by rw [List.take_append_of_le_length (by simp [z])]; decide)) f _)
  simpa [joinF, blocksF] using this
theorem scan_zero (k : Int) (d : List Int) : scanA (packF 0 k d) = ([], 0) := by
  have h := recAt_pack 0 k d [] (by decide)
  rw [List.append_nil] at h
  exact scanF_stop h (by simp [stopF]) _
end Go.Proofs.Ythdeecnppmheoaa
