/- The runner: what it holds, and its small functions. -/
import Derived.Test.YtpogiondpbfjkaaChan
import Derived.BigQuiet
import Derived.Deep.CutBlock
import Derived.Deep.DeepCutAuto
namespace Go.Proofs.Ytpogiondpbfjkaa
open Go.RowKit Go.Conc
/-- A request: how often it was sent, when it is due, what came of it. -/
structure Rq where
  tries : Int
  due : Int
  out : Int
deriving DecidableEq
/-- A runner. -/
structure Rn where
  l : List Rq
  sizes : List Nat
  stage : Nat
  first : Nat
  started : Bool
  now : Int
instance : Inhabited Rq := ⟨⟨0, 0, 0⟩⟩
/-- One of the requests. -/
def Rn.rq (r : Rn) (i : Nat) : Rq := r.l.getD i default
/-- A block holds these requests, three cells each. -/
def ReqRow (w : World) (g : Nat) (l : List Rq) : Prop :=
  ∃ cs t, w.heap[g]? = some (.cells cs t) ∧ ∀ i, i < l.length → cs[i * 3]? = some (.int .i64 (l.getD i default).tries) ∧ cs[i * 3 + 1]? = some (.int .i64 (l.getD i default).due) ∧ cs[i * 3 + 2]? = some (.int .i64 (l.getD i default).out)
/-- A block holds these numbers. -/
def IntRow (w : World) (g : Nat) (l : List Nat) : Prop :=
  ∃ cs t, w.heap[g]? = some (.cells cs t) ∧ ∀ i, i < l.length → cs[i]? = some (.int .i64 (l.getD i 0 : Nat))
/-- The runner at block R; its requests at block G (no requests: G is R). -/
structure RunAt (w : World) (R G : Nat) (A : Option Addr) (c : Nat) (S : Option Addr) (sc : Nat) (r : Rn) : Prop where
  top : ∃ t, w.heap[R]? = some (.cells #[.slice A r.l.length c, .slice S r.sizes.length sc, .int .i64 r.stage, .int .i64 r.first, .bool r.started, .int .i64 r.now] t)
  lrow : (r.l = [] ∧ G = R) ∨ (G ≠ R ∧ A = some ⟨G, 0, none⟩ ∧ ReqRow w G r.l)
  srow : r.sizes = [] ∨ ∃ sb, S = some ⟨sb, 0, none⟩ ∧ sb ≠ R ∧ sb ≠ G ∧ IntRow w sb r.sizes
/-- What is always so of a runner. -/
structure Rn.Ok (r : Rn) : Prop where
  first : r.first = (r.sizes.take r.stage).sum
  all : r.sizes.sum = r.l.length
  few : r.l.length ≤ 1000
  stages : r.sizes.length ≤ 1000
  stage : r.stage ≤ r.sizes.length
/-- Where the stage under way ends. -/
def Rn.fin (r : Rn) : Nat := if r.sizes.length ≤ r.stage then r.first else r.first + r.sizes.getD r.stage 0
theorem sum_take_le (l : List Nat) (n : Nat) : (l.take n).sum ≤ l.sum := by
  induction l generalizing n with
  | nil => simp
  | cons a t ih => cases n with
    | zero => simp
    | succ n => simpa using ih n
theorem sum_take_succ (l : List Nat) (n : Nat) (h : n < l.length) : (l.take (n + 1)).sum = (l.take n).sum + l.getD n 0 := by
  induction l generalizing n with
  | nil => simp at h
  | cons a t ih => cases n with
    | zero => simp
    | succ n =>
      have := ih n (by simpa using h)
      simp only [List.take_succ_cons, List.sum_cons, List.getD_cons_succ]; omega
theorem Rn.Ok.fin_le {r : Rn} (h : r.Ok) : r.first ≤ r.fin ∧ r.fin ≤ r.l.length := by
  have h1 := h.first
  have h2 := h.all
  unfold Rn.fin
  split
  · have := sum_take_le r.sizes r.stage; omega
  · have h3 := sum_take_succ r.sizes r.stage (by omega)
    have := sum_take_le r.sizes (r.stage + 1); omega
theorem RunAt.keep {X y : World} {R G : Nat} {A S : Option Addr} {c sc : Nat} {r : Rn} (h : RunAt X R G A c S sc r) (hb : Below X.heap.size X y) : RunAt y R G A c S sc r := by
  obtain ⟨t, ht⟩ := h.top
  refine ⟨⟨t, keep_blk hb ht⟩, ?_, ?_⟩
  · rcases h.lrow with h | ⟨h1, h2, cs, t, h3, h4⟩
    · exact .inl h
    · exact .inr ⟨h1, h2, cs, t, keep_blk hb h3, h4⟩
  · rcases h.srow with h | ⟨sb, h1, h2, h3, cs, t, h4, h5⟩
    · exact .inl h
    · exact .inr ⟨sb, h1, h2, h3, cs, t, keep_blk hb h4, h5⟩
theorem RunAt.drew {w : World} {R G : Nat} {A S : Option Addr} {c sc : Nat} {r : Rn} (h : RunAt w R G A c S sc r) : RunAt w.drew R G A c S sc r := ⟨h.top, h.lrow, h.srow⟩
theorem RunAt.drewN {w : World} {R G n : Nat} {A S : Option Addr} {c sc : Nat} {r : Rn} (h : RunAt w R G A c S sc r) : RunAt (w.drewN n) R G A c S sc r := ⟨h.top, h.lrow, h.srow⟩
theorem RunAt.size_at {w : World} {R G : Nat} {A S : Option Addr} {c sc : Nat} {r : Rn} (h : RunAt w R G A c S sc r) {i : Nat} (hi : i < r.sizes.length) : ∃ sb, S = some ⟨sb, 0, none⟩ ∧ w.cell? ⟨sb, i, none⟩ = some (.int .i64 (r.sizes.getD i 0 : Nat)) ∧ w.frozen? ⟨sb, i, none⟩ = false := by
  rcases h.srow with h | ⟨sb, h1, _, _, cs, t, h4, h5⟩
  · rw [h] at hi; simp at hi
  · obtain ⟨c0, z0⟩ := blk_cells h4
    exact ⟨sb, h1, (c0 i).trans (h5 i hi), z0 i⟩
theorem RunAt.req_at {w : World} {R G : Nat} {A S : Option Addr} {c sc : Nat} {r : Rn} (h : RunAt w R G A c S sc r) {i : Nat} (hi : i < r.l.length) : G ≠ R ∧ A = some ⟨G, 0, none⟩ ∧ w.cell? ⟨G, i * 3, none⟩ = some (.int .i64 (r.rq i).tries) ∧ w.cell? ⟨G, i * 3 + 1, none⟩ = some (.int .i64 (r.rq i).due) ∧ w.cell? ⟨G, i * 3 + 2, none⟩ = some (.int .i64 (r.rq i).out) ∧ ∀ j, w.frozen? ⟨G, j, none⟩ = false := by
  rcases h.lrow with ⟨h, _⟩ | ⟨h1, h2, cs, t, h3, h4⟩
  · rw [h] at hi; simp at hi
  · obtain ⟨c0, z0⟩ := blk_cells h3
    obtain ⟨a1, a2, a3⟩ := h4 i hi
    exact ⟨h1, h2, (c0 _).trans a1, (c0 _).trans a2, (c0 _).trans a3, z0⟩
set_option maxHeartbeats 400000 in
theorem open_any (q : Rq) (w : World) : Calls Try.prog 27 #[.agg #[.int .i64 q.tries, .int .i64 q.due, .int .i64 q.out]] w fun e w' => e = .returned (.bool (q.out == 0)) ∧ Below w.heap.size w w' := by
  go_enter Try.func27, Try.ntmps27
  go_wp2
  go_ret
  exact ⟨rfl, below_new (Below.refl _ _) _⟩
set_option maxHeartbeats 1000000 in
theorem end_any {R G : Nat} {A S : Option Addr} {c sc : Nat} {r : Rn} (w : World) (h : RunAt w R G A c S sc r) (hok : r.Ok) :
    Calls Try.prog 26 #[.pointer (some ⟨R, 0, none⟩)] w fun e w' => e = .returned (.int .i64 r.fin) ∧ ∃ n, w' = w.drewN n := by
  obtain ⟨t, ht⟩ := h.top
  obtain ⟨c0, z0⟩ := blk_cells ht
  have hfew := hok.few
  have hsn := hok.stage
  have hfl := hok.fin_le
  rcases Nat.lt_or_ge r.stage r.sizes.length with hlt | hge
  · obtain ⟨sb, rfl, s1, s2⟩ := h.size_at hlt
    have he : r.fin = r.first + r.sizes.getD r.stage 0 := by
      rw [Rn.fin, if_neg (by omega)]
    generalize r.sizes.getD r.stage 0 = z at *
    have hz : r.first + z ≤ 1000 := by omega
    have hd : decide ((r.sizes.length : Int) ≤ (r.stage : Int)) = false := decide_eq_false (by omega)
    have HE := Lib.hid he
    clear ht h hok he
    go_enter Try.func26, Try.ntmps26
    go_wp2_with (go_quiet (fail))
    go_ret
    exact ⟨by rw [HE.out]; rfl, _, by first | rfl | rw [World.drewN_drewN]⟩
  · have he : r.fin = r.first := by rw [Rn.fin, if_pos hge]
    have hd : decide ((r.sizes.length : Int) ≤ (r.stage : Int)) = true := decide_eq_true (by omega)
    have HE := Lib.hid he
    clear ht h hok he
    go_enter Try.func26, Try.ntmps26
    go_wp2_with (go_quiet (fail))
    go_ret
    exact ⟨by rw [HE.out]; rfl, _, rfl⟩
end Go.Proofs.Ytpogiondpbfjkaa
