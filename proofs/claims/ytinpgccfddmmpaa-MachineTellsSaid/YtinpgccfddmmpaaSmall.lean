/- Small and SmallItems at one item: they tell something, and turn nothing that was there. -/
import Derived.Test.YtinpgccfddmmpaaLists
import Derived.LoopN
namespace Go.Proofs.Ytinpgccfddmmpaa
open Go.RowKit
theorem texts_any (v : Value) (gs : List ByteArray) (w : World) (hl : gs.length ≤ 9223372036854775807) (hv : StrRow w v gs) :
    Calls Try.prog 32 #[v] w fun e w' => e = .returned (.int .i64 (textsTo gs gs.length)) ∧ w' = w := by
  rcases hv with ⟨rfl, A, c, rfl⟩ | ⟨b, off, c, _, rfl, _, hc⟩
  · exact texts_nil A c w
  · exact texts_row b off c gs w hl hc
theorem below_drewNs {a x : World} {n : Nat} (h : Below a.heap.size a x) : Below a.heap.size a (x.drewN n) := ⟨h.os, h.tape, h.output, h.size, h.block⟩
theorem quiet_again {P : Program} {f : FuncId} {args : Array Value} {w : World} {a n : Nat} {v : Value} (h : Calls P f args (w.drewN (a + n)) fun e w' => e = .returned v ∧ w' = w.drewN (a + n)) :
    Calls P f args (w.drewN (a + n)) fun e w' => e = .returned v ∧ ∃ m, w' = w.drewN (a + m) := h.mono fun _ _ hh => ⟨hh.1, n, hh.2⟩
/-- Some bool comes back. -/
def SomeBool (w : World) (e : Ending) (w' : World) : Prop := ∃ b : Bool, e = .returned (.bool b) ∧ Below w.heap.size w w'
set_option maxHeartbeats 4000000 in
theorem small_any (bh bu bi : Nat) (s0 s1 : ByteArray) (A : Option Addr) (n c : Nat) (s3 : Int) (s4 s5 : Bool) (gs : List ByteArray) (hl : gs.length ≤ 9223372036854775807) (w : World)
    (hH : w.heap[bh]? = some (.cells #[.string ⟨#[]⟩, .slice (some ⟨bu, 0, none⟩) 1 1] 53)) (hU : w.heap[bu]? = some (.cells #[.string ⟨#[]⟩, .string ⟨#[]⟩, .slice (some ⟨bi, 0, none⟩) 1 1, .slice none 0 0] 50))
    (hI : w.heap[bi]? = some (.cells #[.string s0, .string s1, .slice A n c, .int .i64 s3, .bool s4, .bool s5] 34)) (hv : StrRow w (.slice A n c) gs) :
    Calls Try.prog 22 #[.agg #[.slice (some ⟨bh, 0, none⟩) 1 1]] w (SomeBool w) := by
  have lH := blk_lt hH
  have lU := blk_lt hU
  have lI := blk_lt hI
  obtain ⟨cH, _⟩ := blk_cells hH
  obtain ⟨cU, _⟩ := blk_cells hU
  obtain ⟨cI, _⟩ := blk_cells hI
  have HV := Lib.hid hv
  have HL := Lib.hid hl
  clear hH hU hI hv hl
  go_enter Try.func22, Try.ntmps22
  go_wp2_with fail
  refine wp_loop_rounds 2 ?_
  rw [rounds_succ]
  go_wp2_with fail
  refine wp_loop_rounds 2 ?_
  rw [rounds_succ]
  go_wp2_with fail
  go_quiet ((go_at_call 32; exact Calls.quiet_of_same (texts_nil none 0 _)))
  go_wp2_with fail
  refine wp_loop_rounds 2 ?_
  rw [rounds_succ]
  go_wp2_with fail
  go_quiet ((go_at_call 32; exact quiet_again (texts_any _ gs _ HL.out (HV.out.below (by repeat (first | (with_reducible exact Below.refl _ _) | (with_reducible refine below_new ?_ _) | (with_reducible refine Below.drew ?_) | (with_reducible refine below_drewNs ?_)))))))
  go_wp2_with fail
  rw [rounds_succ]
  go_wp2_with fail
  rw [rounds_succ]
  go_wp2_with fail
  rw [rounds_succ]
  go_wp2_with fail
  go_ret
  exact ⟨_, rfl, by repeat (first | (with_reducible exact Below.refl _ _) | (with_reducible refine below_new ?_ _) | (with_reducible refine Below.drew ?_) | (with_reducible refine below_drewNs ?_))⟩
set_option maxHeartbeats 4000000 in
theorem smallItems_any (bi : Nat) (s0 s1 : ByteArray) (A : Option Addr) (n c : Nat) (s3 : Int) (s4 s5 : Bool) (gs : List ByteArray) (hl : gs.length ≤ 9223372036854775807) (w : World)
    (hI : w.heap[bi]? = some (.cells #[.string s0, .string s1, .slice A n c, .int .i64 s3, .bool s4, .bool s5] 34)) (hv : StrRow w (.slice A n c) gs) :
    Calls Try.prog 11 #[.slice (some ⟨bi, 0, none⟩) 1 1] w (SomeBool w) := by
  have HI := Lib.hid hI
  have HV := Lib.hid hv
  have HL := Lib.hid hl
  clear hI hv hl
  go_enter Try.func11, Try.ntmps11
  go_wp2_with fail
  refine (small_any _ _ bi s0 s1 A n c s3 s4 s5 gs HL.out _ (by repeat (first | ((with_reducible refine heap_top' ?_); (first | (simp; done) | rfl)) | (with_reducible refine heap_drew ?_) | (with_reducible refine heap_old ?_))) (by repeat (first | ((with_reducible refine heap_top' ?_); (first | (simp; done) | rfl)) | (with_reducible refine heap_drew ?_) | (with_reducible refine heap_old ?_))) (by repeat (first | (with_reducible exact HI.out) | (with_reducible refine heap_drew ?_) | (with_reducible refine heap_old ?_))) (HV.out.below (by repeat (first | (with_reducible exact Below.refl _ _) | (with_reducible refine below_new ?_ _) | (with_reducible refine Below.drew ?_))))).mono ?_
  rintro e w1 ⟨r, rfl, hb⟩
  go_wp2_with fail
  go_ret
  exact ⟨r, rfl, below_call (by repeat (first | (with_reducible exact Below.refl _ _) | (with_reducible refine below_new ?_ _) | (with_reducible refine Below.drew ?_))) hb⟩
end Go.Proofs.Ytinpgccfddmmpaa
