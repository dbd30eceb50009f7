/-
  No cell of these rows narrows 'for every input' (looked for: loops, veiled, ifaces, maps, wideKeys, modest, calm, conditions, laid).
  DERIVED. THE GIVEN ROWS OF THIS SEAT. 5 by the template 'for every input the law returns true; each argument reads behind the call as it read before'; 0 by the template 'total and deterministic' (their statements: YtpogiondpbfjkaaTotals.lean).
  GIVEN WITH THE SEED: the statements are not yours to turn. If you find one false, say at which input.
  Laid BY PROGRAM, IN A SANDBOX (cutbox-rows.mjs): the forced cells as the released guide's own fill.sh prints them over the translation 36ed7b4bf985f5ae… (all of the seat's roots in one cut). By AI agents, Wed Nov 11 2026. No macro, syntax, notation, axiom, sorry.
-/
import Derived.Test.YtpogiondpbfjkaaChecked
import GoSem.Claim
import GoSem.ClaimJoined
import GoSem.ClaimMapViews
import Derived.JoinedTies
import Derived.KernelRfl
namespace Go.Proofs.Ytpogiondpbfjkaa
/- THE CELL 'sum', in the pinned program and in every row, IS THE sha256 OF THE DUMP (.gsa) THAT YtpogiondpbfjkaaProg.lean LOADS. Nothing in Lean hashes anything: it is a label: what it is worth is what the hold of that sum in a sandbox is worth. -/
noncomputable def Try.pinned : Pinned := { name := "ytpogiondpbfjkaa", sum := "36ed7b4bf985f5aed87d2ed18bd019dcb019b6aba0022c0d0c4e0b8c078b59d6", checked := Try.checked }
namespace Rows
def none {H : Type} : Left H := { results := [], args := [] }

/-- 'cardexlaw23.RunnerLate': WHATEVER THE INPUT: true; the input reads as it did. -/
def runnerLateSpec : ChangeSpec := { name := "runnerLate", fn := fun _ => fun
  | [d1, d2] => { results := [.lit (.bool true)], args := [d1, d2] }
  | _ => none }
def runnerLateRow : OpenClaim := { program := "ytpogiondpbfjkaa", sum := "36ed7b4bf985f5aed87d2ed18bd019dcb019b6aba0022c0d0c4e0b8c078b59d6", func := "cardex/cardexlaw23.RunnerLate", spec := "runnerLate", unfollowed := true, recurses := true, apart := false }
def RunnerLateSaid : Prop := runnerLateRow.holds Try.pinned (OpenSpec.ofChange runnerLateSpec)

/-- ITS FALSE NEIGHBOUR: 'it returns false'. Refute it at one input. -/
def runnerLateWrong : ChangeSpec := { name := "runnerLate", fn := fun _ => fun
  | [d1, d2] => { results := [.lit (.bool false)], args := [d1, d2] }
  | _ => none }
def RunnerLateWrongFalsely : Prop := runnerLateRow.holds Try.pinned (OpenSpec.ofChange runnerLateWrong)

/-- 'cardexlaw23.RunnerTimes': WHATEVER THE INPUT: true; the input reads as it did. -/
def runnerTimesSpec : ChangeSpec := { name := "runnerTimes", fn := fun _ => fun
  | [d1, d2] => { results := [.lit (.bool true)], args := [d1, d2] }
  | _ => none }
def runnerTimesRow : OpenClaim := { program := "ytpogiondpbfjkaa", sum := "36ed7b4bf985f5aed87d2ed18bd019dcb019b6aba0022c0d0c4e0b8c078b59d6", func := "cardex/cardexlaw23.RunnerTimes", spec := "runnerTimes", unfollowed := true, recurses := true, apart := false }
def RunnerTimesSaid : Prop := runnerTimesRow.holds Try.pinned (OpenSpec.ofChange runnerTimesSpec)

/-- ITS FALSE NEIGHBOUR: 'it returns false'. Refute it at one input. -/
def runnerTimesWrong : ChangeSpec := { name := "runnerTimes", fn := fun _ => fun
  | [d1, d2] => { results := [.lit (.bool false)], args := [d1, d2] }
  | _ => none }
def RunnerTimesWrongFalsely : Prop := runnerTimesRow.holds Try.pinned (OpenSpec.ofChange runnerTimesWrong)

/-- 'cardexlaw23.RunnerPlays': WHATEVER THE INPUT: true; the input reads as it did. -/
def runnerPlaysSpec : ChangeSpec := { name := "runnerPlays", fn := fun _ => fun
  | [d1, d2] => { results := [.lit (.bool true)], args := [d1, d2] }
  | _ => none }
def runnerPlaysRow : OpenClaim := { program := "ytpogiondpbfjkaa", sum := "36ed7b4bf985f5aed87d2ed18bd019dcb019b6aba0022c0d0c4e0b8c078b59d6", func := "cardex/cardexlaw23.RunnerPlays", spec := "runnerPlays", unfollowed := true, recurses := true, apart := false }
def RunnerPlaysSaid : Prop := runnerPlaysRow.holds Try.pinned (OpenSpec.ofChange runnerPlaysSpec)

/-- ITS FALSE NEIGHBOUR: 'it returns false'. Refute it at one input. -/
def runnerPlaysWrong : ChangeSpec := { name := "runnerPlays", fn := fun _ => fun
  | [d1, d2] => { results := [.lit (.bool false)], args := [d1, d2] }
  | _ => none }
def RunnerPlaysWrongFalsely : Prop := runnerPlaysRow.holds Try.pinned (OpenSpec.ofChange runnerPlaysWrong)

/-- 'cardexlaw23.RunnerEnds': WHATEVER THE INPUT: true; the input reads as it did. -/
def runnerEndsSpec : ChangeSpec := { name := "runnerEnds", fn := fun _ => fun
  | [d1, d2, d3] => { results := [.lit (.bool true)], args := [d1, d2, d3] }
  | _ => none }
def runnerEndsRow : OpenClaim := { program := "ytpogiondpbfjkaa", sum := "36ed7b4bf985f5aed87d2ed18bd019dcb019b6aba0022c0d0c4e0b8c078b59d6", func := "cardex/cardexlaw23.RunnerEnds", spec := "runnerEnds", unfollowed := true, recurses := true, apart := false }
def RunnerEndsSaid : Prop := runnerEndsRow.holds Try.pinned (OpenSpec.ofChange runnerEndsSpec)

/-- ITS FALSE NEIGHBOUR: 'it returns false'. Refute it at one input. -/
def runnerEndsWrong : ChangeSpec := { name := "runnerEnds", fn := fun _ => fun
  | [d1, d2, d3] => { results := [.lit (.bool false)], args := [d1, d2, d3] }
  | _ => none }
def RunnerEndsWrongFalsely : Prop := runnerEndsRow.holds Try.pinned (OpenSpec.ofChange runnerEndsWrong)

/-- 'cardexlaw23.RunnerAlone': WHATEVER THE INPUT: true; the input reads as it did. -/
def runnerAloneSpec : ChangeSpec := { name := "runnerAlone", fn := fun _ => fun
  | [d1, d2] => { results := [.lit (.bool true)], args := [d1, d2] }
  | _ => none }
def runnerAloneRow : OpenClaim := { program := "ytpogiondpbfjkaa", sum := "36ed7b4bf985f5aed87d2ed18bd019dcb019b6aba0022c0d0c4e0b8c078b59d6", func := "cardex/cardexlaw23.RunnerAlone", spec := "runnerAlone", unfollowed := true, recurses := true, apart := false }
def RunnerAloneSaid : Prop := runnerAloneRow.holds Try.pinned (OpenSpec.ofChange runnerAloneSpec)

/-- ITS FALSE NEIGHBOUR: 'it returns false'. Refute it at one input. -/
def runnerAloneWrong : ChangeSpec := { name := "runnerAlone", fn := fun _ => fun
  | [d1, d2] => { results := [.lit (.bool false)], args := [d1, d2] }
  | _ => none }
def RunnerAloneWrongFalsely : Prop := runnerAloneRow.holds Try.pinned (OpenSpec.ofChange runnerAloneWrong)

/- THE SECOND FORM. 'bulk': how many values and letters a reading holds, each counted each time it is reached (what is shared counts as often as it is met; a slice's spare places count too). A statement '..UptoSaid' is the law's where the arguments, and the package variables that the reading takes, are together of bulk at most 1048576: NARROWER than '..Said'. Prove '..Said' where nothing that the law and all that it calls make is longer than what came in: it says more and counts as full. Else prove '..UptoSaid'. A law counts once. -/
mutual
def uptoBulk {H : Type} : DataW H → Nat
  | .lit (.string bytes) => bytes.length + 1
  | .lit _ => 1
  | .nil => 1
  | .ptr d => uptoBulk d + 1
  | .slice elems spare => uptoBulkAll elems + uptoBulkAll spare + 1
  | .agg parts => uptoBulkAll parts + 1
  | .iface _ d => uptoBulk d + 1
  | .map entries => uptoBulkEntries entries + 1
  | .held _ => 1
def uptoBulkAll {H : Type} : List (DataW H) → Nat
  | [] => 0
  | d :: r => uptoBulk d + uptoBulkAll r
def uptoBulkEntries {H : Type} : List (Lit × DataW H) → Nat
  | [] => 0
  | x :: r => uptoBulkEntry x + uptoBulkEntries r
def uptoBulkEntry {H : Type} : Lit × DataW H → Nat
  | (.string bytes, d) => bytes.length + uptoBulk d + 1
  | (_, d) => uptoBulk d + 1
 end
def uptoSmall : (H : Type) → List (DataW H) → Bool := fun _ ds => decide (uptoBulkAll ds ≤ 1048576)
def OpenSpec.upto (s : _root_.Go.ChangeSpec) : _root_.Go.OpenSpec := { _root_.Go.OpenSpec.ofChange s with cond := some uptoSmall }

/-- 'cardexlaw23.RunnerLate', WHERE WHAT IT READS IS OF BULK AT MOST 1048576: true; the input reads as it did. -/
def runnerLateUptoRow : OpenClaim := { program := "ytpogiondpbfjkaa", sum := "36ed7b4bf985f5aed87d2ed18bd019dcb019b6aba0022c0d0c4e0b8c078b59d6", func := "cardex/cardexlaw23.RunnerLate", spec := "runnerLate", unfollowed := true, recurses := true, apart := false, narrowed := true }
def RunnerLateUptoSaid : Prop := runnerLateUptoRow.holds Try.pinned (OpenSpec.upto runnerLateSpec)

/-- 'cardexlaw23.RunnerTimes', WHERE WHAT IT READS IS OF BULK AT MOST 1048576: true; the input reads as it did. -/
def runnerTimesUptoRow : OpenClaim := { program := "ytpogiondpbfjkaa", sum := "36ed7b4bf985f5aed87d2ed18bd019dcb019b6aba0022c0d0c4e0b8c078b59d6", func := "cardex/cardexlaw23.RunnerTimes", spec := "runnerTimes", unfollowed := true, recurses := true, apart := false, narrowed := true }
def RunnerTimesUptoSaid : Prop := runnerTimesUptoRow.holds Try.pinned (OpenSpec.upto runnerTimesSpec)

/-- 'cardexlaw23.RunnerPlays', WHERE WHAT IT READS IS OF BULK AT MOST 1048576: true; the input reads as it did. -/
def runnerPlaysUptoRow : OpenClaim := { program := "ytpogiondpbfjkaa", sum := "36ed7b4bf985f5aed87d2ed18bd019dcb019b6aba0022c0d0c4e0b8c078b59d6", func := "cardex/cardexlaw23.RunnerPlays", spec := "runnerPlays", unfollowed := true, recurses := true, apart := false, narrowed := true }
def RunnerPlaysUptoSaid : Prop := runnerPlaysUptoRow.holds Try.pinned (OpenSpec.upto runnerPlaysSpec)

/-- 'cardexlaw23.RunnerEnds', WHERE WHAT IT READS IS OF BULK AT MOST 1048576: true; the input reads as it did. -/
def runnerEndsUptoRow : OpenClaim := { program := "ytpogiondpbfjkaa", sum := "36ed7b4bf985f5aed87d2ed18bd019dcb019b6aba0022c0d0c4e0b8c078b59d6", func := "cardex/cardexlaw23.RunnerEnds", spec := "runnerEnds", unfollowed := true, recurses := true, apart := false, narrowed := true }
def RunnerEndsUptoSaid : Prop := runnerEndsUptoRow.holds Try.pinned (OpenSpec.upto runnerEndsSpec)

/-- 'cardexlaw23.RunnerAlone', WHERE WHAT IT READS IS OF BULK AT MOST 1048576: true; the input reads as it did. -/
def runnerAloneUptoRow : OpenClaim := { program := "ytpogiondpbfjkaa", sum := "36ed7b4bf985f5aed87d2ed18bd019dcb019b6aba0022c0d0c4e0b8c078b59d6", func := "cardex/cardexlaw23.RunnerAlone", spec := "runnerAlone", unfollowed := true, recurses := true, apart := false, narrowed := true }
def RunnerAloneUptoSaid : Prop := runnerAloneUptoRow.holds Try.pinned (OpenSpec.upto runnerAloneSpec)

end Rows
end Go.Proofs.Ytpogiondpbfjkaa
