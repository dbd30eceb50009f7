/- Lists of what is sent: rows of our own; what a runner sends. -/
import Derived.Test.YtpogiondpbfjkaaSend
import Derived.Laws.AppendOwnNone
import Derived.OwnWalk
namespace Go.Proofs.Ytpogiondpbfjkaa
open Go.RowKit Go.Conc
theorem info38 : (Try.prog.info? 38).map (fun i => (i.zero, i.size, i.bytes)) = some (some (.agg #[.int .i64 0, .int .i64 0]), 2, 16) := by kernel_rfl
theorem info_parts {i : Nat} {z : Value} {s b : Nat} (h : (Try.prog.info? i).map (fun i => (i.zero, i.size, i.bytes)) = some (some z, s, b)) : ∃ i0, Try.prog.info? i = some i0 ∧ i0.zero = some z ∧ i0.size = s ∧ i0.bytes = b := by
  obtain ⟨i0, h1, h2⟩ := Option.map_eq_some_iff.1 h
  simp only [Prod.mk.injEq] at h2
  exact ⟨i0, h1, h2.1, h2.2.1, h2.2.2⟩
theorem owns_block {a : Nat} {w : World} {e s n : Nat} {v : Value} {xs : List Value} (h : w.ownsRow a e s v n xs) : ∀ g, v.ownBlock = some g → a ≤ g ∧ ∃ cur, w.heap[g]? = some (.cells cur e (0, 0)) := fun g hg => by
  rcases h.2 with ⟨rfl, _⟩ | ⟨g', cap, cur, rfl, h2, h3, _⟩
  · simp [Value.ownBlock] at hg
  · simp [Value.ownBlock] at hg; subst hg; exact ⟨h2, cur, h3⟩
/-- The cells of a list of what is sent. -/
def sentCells (L : List (Int × Int)) : List Value := L.flatMap fun p => [.int .i64 p.1, .int .i64 p.2]
theorem sentCells_append (a b : List (Int × Int)) : sentCells (a ++ b) = sentCells a ++ sentCells b := by simp [sentCells]
theorem sentCells_length (L : List (Int × Int)) : (sentCells L).length = L.length * 2 := by
  induction L with
  | nil => rfl
  | cons p t ih =>
    have : sentCells (p :: t) = [.int .i64 p.1, .int .i64 p.2] ++ sentCells t := rfl
    rw [this, List.length_append, ih, List.length_cons, List.length_cons, List.length_cons, List.length_nil]; omega
theorem sentCells_get (L : List (Int × Int)) (i : Nat) (p : Int × Int) (h : L[i]? = some p) : (sentCells L)[i * 2]? = some (.int .i64 p.1) ∧ (sentCells L)[i * 2 + 1]? = some (.int .i64 p.2) := by
  induction L generalizing i with
  | nil => simp at h
  | cons q t ih =>
    cases i with
    | zero => simp at h; subst h; exact ⟨rfl, rfl⟩
    | succ i =>
      have := ih i (by simpa using h)
      rw [show (i + 1) * 2 = i * 2 + 2 by omega, show i * 2 + 2 + 1 = (i * 2 + 1) + 2 by omega]
      exact this
theorem sentCells_one (L : List (Int × Int)) : ∀ u ∈ sentCells L, u.oneCell' = true := by
  intro u hu
  simp only [sentCells, List.mem_flatMap] at hu
  obtain ⟨p, _, hu⟩ := hu
  simp at hu; rcases hu with rfl | rfl <;> rfl
/-- A list of what is sent, of our own. -/
def OwnS (B : Nat) (w : World) (v : Value) (L : List (Int × Int)) : Prop := w.ownsRow B 38 2 v L.length (sentCells L)
/-- A list of what is sent, to be read. -/
def ReadS (w : World) (A : Option Addr) (L : List (Int × Int)) : Prop := L = [] ∨ ∃ g, A = some ⟨g, 0, none⟩ ∧ g < w.heap.size ∧ ∀ j u, (sentCells L)[j]? = some u → w.cell? ⟨g, j, none⟩ = some u
theorem OwnS.nil (B : Nat) (w : World) : OwnS B w (.slice none 0 0) [] := ⟨rfl, .inl ⟨rfl, rfl⟩⟩
theorem OwnS.slice {B : Nat} {w : World} {v : Value} {L : List (Int × Int)} (h : OwnS B w v L) : ∃ A c, v = .slice A L.length c ∧ (A = none → c = 0) ∧ L.length ≤ c ∧ ReadS w A L := by
  obtain ⟨hx, hr⟩ := h
  rcases hr with ⟨rfl, hz⟩ | ⟨g, cap, cur, rfl, _, hb, hn, _, hs, ht⟩
  · exact ⟨none, 0, by rw [hz], fun _ => rfl, by omega, .inl (List.length_eq_zero_iff.1 hz)⟩
  · refine ⟨_, _, rfl, (fun h => by cases h), hn, .inr ⟨g, rfl, blk_lt hb, fun j u hj => ?_⟩⟩
    rw [← ht, List.getElem?_take] at hj
    split at hj
    · simp only [World.cell?, hb]; simpa using hj
    · cases hj
theorem OwnS.mono {B B' : Nat} {w : World} {v : Value} {L : List (Int × Int)} (h : OwnS B w v L) (hB : B' ≤ B) : OwnS B' w v L := by
  obtain ⟨hx, hr⟩ := h
  refine ⟨hx, ?_⟩
  rcases hr with h | ⟨g, cap, cur, h1, h2, h3⟩
  · exact .inl h
  · exact .inr ⟨g, cap, cur, h1, Nat.le_trans hB h2, h3⟩
/-- It stays, if its block does. -/
theorem OwnS.stays {B : Nat} {X y : World} {v : Value} {L : List (Int × Int)} (h : OwnS B X v L) (hb : ∀ g o, B ≤ g → X.heap[g]? = some (.cells o 38 (0, 0)) → y.heap[g]? = X.heap[g]?) : OwnS B y v L := by
  obtain ⟨h0, h1⟩ := h
  refine ⟨h0, ?_⟩
  rcases h1 with h1 | ⟨g, cap, cur, h1, h2, h3, h4⟩
  · exact .inl h1
  · exact .inr ⟨g, cap, cur, h1, h2, by rw [hb g _ h2 h3]; exact h3, h4⟩
theorem OwnS.keep {B : Nat} {X y : World} {v : Value} {L : List (Int × Int)} (h : OwnS B X v L) (hb : Below X.heap.size X y) : OwnS B y v L := h.stays fun g _ _ h => hb.block g (blk_lt h)
/-- ... where but for a channel all is as it was. -/
theorem OwnS.chan {B c cap : Nat} {X y : World} {v : Value} {L : List (Int × Int)} {M : List Nat} (h : OwnS B X v L) (hc : ChanAt X c cap M) (hm : Moved X y c c) : OwnS B y v L := h.stays fun g o _ hg => by
  have hne : g ≠ c := fun e => by subst e; obtain ⟨s, r, hc⟩ := hc; rw [hc] at hg; cases hg
  exact hm.block g (blk_lt hg) hne hne
/-- ... where but for what lies lower all is as it was. -/
theorem OwnS.low {B D G : Nat} {X y : World} {v : Value} {L : List (Int × Int)} (h : OwnS B X v L) (hD : D < B) (hG : G < B) (hm : Moved X y D G) : OwnS B y v L := h.stays fun g o hB hg =>
  hm.block g (blk_lt hg) (by omega) (by omega)
/-- append to a list of our own. -/
theorem appendS {ops : Array Oper} {rest : List Oper} {o : Oper} {a : Act} {w : World} {Q : Exit → Act → World → Prop} (hgd : o.guard = none) (s x : Operand)
    (ho : o.op = .call { callee := .builtin .append, args := #[s, x], argTypes := #[28, 28] }) (B : Nat) (v : Value) (l : List (Int × Int)) (hs : a.eval s = v) (hown : OwnS B w v l)
    (A : Option Addr) (n c : Nat) (data : List (Int × Int)) (hx : a.eval x = .slice A n c) (hn : n = data.length) (hA : ReadS w A data) (hAc : A = none → c = 0) (hmax : l.length + n ≤ 1000000) (hbase : B ≤ w.heap.size)
    (h : ∀ A' c' w', Hid (OwnS B w' (.slice A' (l ++ data).length c') (l ++ data)) → (∀ w0, Below B w0 w → Below B w0 w') → w.grownBy w' v.ownBlock → wpList Try.prog ops Q rest (a.put o.dst (.slice A' (l ++ data).length c')) w') : wpList Try.prog ops Q (o :: rest) a w := by
  subst hn
  obtain ⟨i0, hi, hz0, hz1, hz2⟩ := info_parts info38
  have fin : ∀ v' w', w'.ownsRow B 38 2 v' (l.length + data.length) (sentCells l ++ sentCells data) → w.grownBy w' v.ownBlock → wpList Try.prog ops Q rest (a.put o.dst v') w' := fun v' w' ho' hg => by
    have hO : OwnS B w' v' (l ++ data) := by unfold OwnS; rw [List.length_append, sentCells_append]; exact ho'
    obtain ⟨A', c', rfl, _, _⟩ := hO.slice
    exact h A' c' w' (Lib.hid hO) (fun w0 hb => hb.grown hg hbase (fun g e => (owns_block hown g e).1)) hg
  cases A with
  | none =>
    obtain rfl := hAc rfl
    have hd : data = [] := by
      rcases hA with hd | ⟨b, e, _⟩
      · exact hd
      · cases e
    subst hd
    refine wpList_append_own_none hgd s x 28 ho B 38 i0 2 Try.underlying28 hi v l.length _ hs hown hx (fin v w (by simpa [OwnS, sentCells] using hown) ⟨rfl, rfl, rfl, Nat.le_refl _, fun _ _ _ => rfl⟩)
  | some ad =>
    refine wpList_append_own w hgd s x 28 ho B 38 i0 (.agg #[.int .i64 0, .int .i64 0]) 2 16 Try.underlying28 hi hz0 hz1 hz2 rfl (by decide) v l.length _ hs hown ad data.length c (sentCells data) hx (sentCells_length data) ?_ (sentCells_one data) (by simp only [maxLen]; omega) (by omega) hbase (fun v' w' ho' hg _ => fin v' w' ho' hg)
    intro j u hj
    rcases hA with rfl | ⟨b, e, _, hc⟩
    · simp [sentCells] at hj
    · cases e
      rw [addr_add, Nat.zero_add]
      exact hc j u hj
/-- All of these are sent. -/
def sendAll (r : Rn) : List Nat → Rn × List (Int × Int)
  | [] => (r, [])
  | no :: t => ((sendAll (r.sent no) t).1, ((no : Int), wrap64 ((r.rq no).tries + 1)) :: (sendAll (r.sent no) t).2)
theorem sendAll_length (r : Rn) (L : List Nat) : (sendAll r L).2.length = L.length := by
  induction L generalizing r with
  | nil => rfl
  | cons a t ih => simp [sendAll, ih]
theorem Rn.sent_len (r : Rn) (no : Nat) : (r.sent no).l.length = r.l.length := by simp [Rn.sent, Rn.put]
theorem Rn.Ok.sent {r : Rn} (h : r.Ok) (no : Nat) : (r.sent no).Ok := h.put _ _
theorem sendAll_ok (r : Rn) (L : List Nat) (h : r.Ok) : (sendAll r L).1.Ok := by
  induction L generalizing r with
  | nil => exact h
  | cons a t ih => exact ih _ (h.sent a)
/-- The next stage. -/
def Rn.adv (r : Rn) : Rn := { r with first := r.fin, stage := r.stage + 1 }
theorem Rn.Ok.adv {r : Rn} (h : r.Ok) (hl : r.stage < r.sizes.length) : r.adv.Ok :=
  ⟨by have h1 := h.first; have h2 := sum_take_succ r.sizes r.stage hl; show r.fin = (r.sizes.take (r.stage + 1)).sum; rw [h2]; unfold Rn.fin; rw [if_neg (by omega)]; omega, h.all, h.few, h.stages, by show r.stage + 1 ≤ r.sizes.length; omega⟩
/-- What is open. -/
def Rn.opens (r : Rn) : List Nat := r.those (fun q => q.out == 0) r.first
/-- begin. -/
def beginF : Nat → Rn → Rn × List (Int × Int)
  | 0, r => (r, [])
  | f + 1, r => if r.opens = [] then beginF f r.adv else sendAll r r.opens
def Rn.begin (r : Rn) : Rn × List (Int × Int) := beginF (r.sizes.length - r.stage) r
theorem beginF_ok (f : Nat) (r : Rn) (hf : f = r.sizes.length - r.stage) (h : r.Ok) : (beginF f r).1.Ok := by
  induction f generalizing r with
  | zero => exact h
  | succ f ih =>
    unfold beginF
    split
    · exact ih _ (by simp [Rn.adv]; omega) (h.adv (by omega))
    · exact sendAll_ok _ _ h
/-- after. -/
def Rn.after (r : Rn) : Rn × List (Int × Int) := if r.sizes.length ≤ r.stage then (r, []) else if r.opens = [] then r.adv.begin else (r, [])
theorem Rn.Ok.begin {r : Rn} (h : r.Ok) : r.begin.1.Ok := beginF_ok _ _ rfl h
theorem Rn.Ok.after {r : Rn} (h : r.Ok) : r.after.1.Ok := by
  unfold Rn.after
  split
  · exact h
  · split
    · exact (h.adv (by omega)).begin
    · exact h
theorem those_bd {r : Rn} (so : Rq → Bool) (h : r.Ok) : ∀ no ∈ r.those so r.first, no < r.l.length := fun no hn => by
  have := h.fin_le
  unfold Rn.those at hn
  have := (List.mem_range'_1.1 (List.mem_filter.1 hn).1)
  omega
/-- What a method of a runner that sends gives. -/
def Gives (w : World) (R G : Nat) (A : Option Addr) (c : Nat) (S : Option Addr) (sc : Nat) (x : Rn × List (Int × Int)) (e : Ending) (w' : World) : Prop :=
  ∃ v, e = .returned v ∧ RunAt w' R G A c S sc x.1 ∧ x.1.Ok ∧ OwnS w.heap.size w' v x.2 ∧ Moved w w' R G
/-- The blocks of a runner lie lower than this. -/
def Low (B R G : Nat) (S : Option Addr) (r : Rn) : Prop := R < B ∧ G < B ∧ (r.sizes = [] ∨ ∀ a, S = some a → a.block < B)
theorem RunAt.low {w : World} {R G : Nat} {A S : Option Addr} {c sc : Nat} {r : Rn} (h : RunAt w R G A c S sc r) : Low w.heap.size R G S r := by
  obtain ⟨t, ht⟩ := h.top
  have hR := blk_lt ht
  refine ⟨hR, ?_, ?_⟩
  · rcases h.lrow with ⟨_, h⟩ | ⟨_, _, cs, t2, h3, _⟩
    · omega
    · exact blk_lt h3
  · rcases h.srow with h | ⟨sb, h1, _, _, cs, t2, h4, _⟩
    · exact .inl h
    · exact .inr fun a ha => by rw [h1] at ha; cases ha; exact blk_lt h4
/-- A runner stays, if all that lies lower does. -/
theorem RunAt.below {B : Nat} {X y : World} {R G : Nat} {A S : Option Addr} {c sc : Nat} {r : Rn} (h : RunAt X R G A c S sc r) (hl : Low B R G S r) (hb : Below B X y) : RunAt y R G A c S sc r := by
  obtain ⟨t, ht⟩ := h.top
  refine ⟨⟨t, by rw [hb.block R hl.1]; exact ht⟩, ?_, ?_⟩
  · rcases h.lrow with h | ⟨h1, h2, cs, t, h3, h4⟩
    · exact .inl h
    · exact .inr ⟨h1, h2, cs, t, by rw [hb.block G hl.2.1]; exact h3, h4⟩
  · rcases h.srow with h | ⟨sb, h1, h2, h3, cs, t, h4, h5⟩
    · exact .inl h
    · rcases hl.2.2 with hh | hh
      · exact .inl hh
      · exact .inr ⟨sb, h1, h2, h3, cs, t, by rw [hb.block sb (hh _ h1)]; exact h4, h5⟩
/-- A runner whose block is written. -/
theorem RunAt.top' {w w' : World} {R G : Nat} {A S : Option Addr} {c sc : Nat} {r r' : Rn} (h : RunAt w R G A c S sc r) (hl : r'.l = r.l) (hs : r'.sizes = r.sizes) (hm : ∀ k, k < w.heap.size → k ≠ R → w'.heap[k]? = w.heap[k]?)
    (ht : ∀ t, w.heap[R]? = some (.cells #[.slice A r.l.length c, .slice S r.sizes.length sc, .int .i64 r.stage, .int .i64 r.first, .bool r.started, .int .i64 r.now] t) → w'.heap[R]? = some (.cells #[.slice A r.l.length c, .slice S r.sizes.length sc, .int .i64 r'.stage, .int .i64 r'.first, .bool r'.started, .int .i64 r'.now] t)) :
    RunAt w' R G A c S sc r' := by
  obtain ⟨t, h0⟩ := h.top
  refine ⟨⟨t, by rw [hl, hs]; exact ht t h0⟩, ?_, ?_⟩
  · rcases h.lrow with h | ⟨h1, h2, cs, t, h3, h4⟩
    · exact .inl (by rw [hl]; exact h)
    · exact .inr ⟨h1, h2, cs, t, by rw [hm G (blk_lt h3) h1]; exact h3, by rw [hl]; exact h4⟩
  · rcases h.srow with h | ⟨sb, h1, h2, h3, cs, t, h4, h5⟩
    · exact .inl (by rw [hs]; exact h)
    · exact .inr ⟨sb, h1, h2, h3, cs, t, by rw [hm sb (blk_lt h4) h2]; exact h4, by rw [hs]; exact h5⟩
end Go.Proofs.Ytpogiondpbfjkaa
