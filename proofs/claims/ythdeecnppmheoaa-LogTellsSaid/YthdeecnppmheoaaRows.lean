/-
  No cell of these rows narrows 'for every input' (looked for: loops, veiled, ifaces, maps, wideKeys, modest, calm, conditions, laid).
  DERIVED. THE GIVEN ROWS OF THIS SEAT. 4 by the template 'for every input the law returns true; each argument reads behind the call as it read before'; 0 by the template 'total and deterministic' (their statements: YthdeecnppmheoaaTotals.lean).
  GIVEN WITH THE SEED: the statements are not yours to turn. If you find one false, say at which input.
  Laid BY PROGRAM, IN A SANDBOX (cutbox-rows.mjs): the forced cells as the released guide's own fill.sh prints them over the translation b8de7da5ec613135… (all of the seat's roots in one cut). By AI agents, Wed Nov 11 2026. No macro, syntax, notation, axiom, sorry.
-/
import Derived.Test.YthdeecnppmheoaaChecked
import GoSem.Claim
import GoSem.ClaimJoined
import GoSem.ClaimMapViews
import Derived.JoinedTies
import Derived.KernelRfl
namespace Go.Proofs.Ythdeecnppmheoaa
/- THE CELL 'sum', in the pinned program and in every row, IS THE sha256 OF THE DUMP (.gsa) THAT YthdeecnppmheoaaProg.lean LOADS. Nothing in Lean hashes anything: it is a label: what it is worth is what the hold of that sum in a sandbox is worth. -/
noncomputable def Try.pinned : Pinned := { name := "ythdeecnppmheoaa", sum := "b8de7da5ec613135c55ca945525f8ff676d0d709cfc0b0ec12f2d7e5b7ca681d", checked := Try.checked }
namespace Rows
def none {H : Type} : Left H := { results := [], args := [] }

/-- 'cardexlaw25.LogTells': WHATEVER THE INPUT: true; the input reads as it did. -/
def logTellsSpec : ChangeSpec := { name := "logTells", fn := fun _ => fun
  | [d1, d2, d3] => { results := [.lit (.bool true)], args := [d1, d2, d3] }
  | _ => none }
def logTellsRow : OpenClaim := { program := "ythdeecnppmheoaa", sum := "b8de7da5ec613135c55ca945525f8ff676d0d709cfc0b0ec12f2d7e5b7ca681d", func := "cardex/cardexlaw25.LogTells", spec := "logTells", unfollowed := true, recurses := true, apart := false }
def LogTellsSaid : Prop := logTellsRow.holds Try.pinned (OpenSpec.ofChange logTellsSpec)

/-- ITS FALSE NEIGHBOUR: 'it returns false'. Refute it at one input. -/
def logTellsWrong : ChangeSpec := { name := "logTells", fn := fun _ => fun
  | [d1, d2, d3] => { results := [.lit (.bool false)], args := [d1, d2, d3] }
  | _ => none }
def LogTellsWrongFalsely : Prop := logTellsRow.holds Try.pinned (OpenSpec.ofChange logTellsWrong)

/-- 'cardexlaw25.LogTorn': WHATEVER THE INPUT: true; the input reads as it did. -/
def logTornSpec : ChangeSpec := { name := "logTorn", fn := fun _ => fun
  | [d1, d2, d3, d4] => { results := [.lit (.bool true)], args := [d1, d2, d3, d4] }
  | _ => none }
def logTornRow : OpenClaim := { program := "ythdeecnppmheoaa", sum := "b8de7da5ec613135c55ca945525f8ff676d0d709cfc0b0ec12f2d7e5b7ca681d", func := "cardex/cardexlaw25.LogTorn", spec := "logTorn", apart := false }
def LogTornSaid : Prop := logTornRow.holds Try.pinned (OpenSpec.ofChange logTornSpec)

/-- ITS FALSE NEIGHBOUR: 'it returns false'. Refute it at one input. -/
def logTornWrong : ChangeSpec := { name := "logTorn", fn := fun _ => fun
  | [d1, d2, d3, d4] => { results := [.lit (.bool false)], args := [d1, d2, d3, d4] }
  | _ => none }
def LogTornWrongFalsely : Prop := logTornRow.holds Try.pinned (OpenSpec.ofChange logTornWrong)

/-- 'cardexlaw25.LogSizes': WHATEVER THE INPUT: true; the input reads as it did. -/
def logSizesSpec : ChangeSpec := { name := "logSizes", fn := fun _ => fun
  | [d1, d2, d3] => { results := [.lit (.bool true)], args := [d1, d2, d3] }
  | _ => none }
def logSizesRow : OpenClaim := { program := "ythdeecnppmheoaa", sum := "b8de7da5ec613135c55ca945525f8ff676d0d709cfc0b0ec12f2d7e5b7ca681d", func := "cardex/cardexlaw25.LogSizes", spec := "logSizes", apart := false }
def LogSizesSaid : Prop := logSizesRow.holds Try.pinned (OpenSpec.ofChange logSizesSpec)

/-- ITS FALSE NEIGHBOUR: 'it returns false'. Refute it at one input. -/
def logSizesWrong : ChangeSpec := { name := "logSizes", fn := fun _ => fun
  | [d1, d2, d3] => { results := [.lit (.bool false)], args := [d1, d2, d3] }
  | _ => none }
def LogSizesWrongFalsely : Prop := logSizesRow.holds Try.pinned (OpenSpec.ofChange logSizesWrong)

/-- 'cardexlaw25.LogStale': WHATEVER THE INPUT: true; the input reads as it did. -/
def logStaleSpec : ChangeSpec := { name := "logStale", fn := fun _ => fun
  | [d1, d2, d3, d4] => { results := [.lit (.bool true)], args := [d1, d2, d3, d4] }
  | _ => none }
def logStaleRow : OpenClaim := { program := "ythdeecnppmheoaa", sum := "b8de7da5ec613135c55ca945525f8ff676d0d709cfc0b0ec12f2d7e5b7ca681d", func := "cardex/cardexlaw25.LogStale", spec := "logStale", apart := false }
def LogStaleSaid : Prop := logStaleRow.holds Try.pinned (OpenSpec.ofChange logStaleSpec)

/-- ITS FALSE NEIGHBOUR: 'it returns false'. Refute it at one input. -/
def logStaleWrong : ChangeSpec := { name := "logStale", fn := fun _ => fun
  | [d1, d2, d3, d4] => { results := [.lit (.bool false)], args := [d1, d2, d3, d4] }
  | _ => none }
def LogStaleWrongFalsely : Prop := logStaleRow.holds Try.pinned (OpenSpec.ofChange logStaleWrong)

/- THE SECOND FORM. 'bulk': how many values and letters a reading holds, each counted each time it is reached (what is shared counts as often as it is met; a slice's spare places count too). A statement '..UptoSaid' is the law's where the arguments, and the package variables that the reading takes, are together of bulk at most 1048576: NARROWER than '..Said'. Prove '..Said' where nothing that the law and all that it calls make is longer than what came in: it says more and counts as full. Else prove '..UptoSaid'. A law counts once. -/
mutual
def uptoBulk {H : Type} : DataW H → Nat
  | .lit (.string bytes) => bytes.length + 1
  | .lit _ => 1
  | .nil => 1
  | .ptr d => uptoBulk d + 1
  | .slice elems spare => uptoBulkAll elems + uptoBulkAll spare + 1
  | .agg parts => uptoBulkAll parts + 1
  | .iface _ d => uptoBulk d + 1
  | .map entries => uptoBulkEntries entries + 1
  | .held _ => 1
def uptoBulkAll {H : Type} : List (DataW H) → Nat
  | [] => 0
  | d :: r => uptoBulk d + uptoBulkAll r
def uptoBulkEntries {H : Type} : List (Lit × DataW H) → Nat
  | [] => 0
  | x :: r => uptoBulkEntry x + uptoBulkEntries r
def uptoBulkEntry {H : Type} : Lit × DataW H → Nat
  | (.string bytes, d) => bytes.length + uptoBulk d + 1
  | (_, d) => uptoBulk d + 1
 end
def uptoSmall : (H : Type) → List (DataW H) → Bool := fun _ ds => decide (uptoBulkAll ds ≤ 1048576)
def OpenSpec.upto (s : _root_.Go.ChangeSpec) : _root_.Go.OpenSpec := { _root_.Go.OpenSpec.ofChange s with cond := some uptoSmall }

/-- 'cardexlaw25.LogTells', WHERE WHAT IT READS IS OF BULK AT MOST 1048576: true; the input reads as it did. -/
def logTellsUptoRow : OpenClaim := { program := "ythdeecnppmheoaa", sum := "b8de7da5ec613135c55ca945525f8ff676d0d709cfc0b0ec12f2d7e5b7ca681d", func := "cardex/cardexlaw25.LogTells", spec := "logTells", unfollowed := true, recurses := true, apart := false, narrowed := true }
def LogTellsUptoSaid : Prop := logTellsUptoRow.holds Try.pinned (OpenSpec.upto logTellsSpec)

/-- 'cardexlaw25.LogTorn', WHERE WHAT IT READS IS OF BULK AT MOST 1048576: true; the input reads as it did. -/
def logTornUptoRow : OpenClaim := { program := "ythdeecnppmheoaa", sum := "b8de7da5ec613135c55ca945525f8ff676d0d709cfc0b0ec12f2d7e5b7ca681d", func := "cardex/cardexlaw25.LogTorn", spec := "logTorn", apart := false, narrowed := true }
def LogTornUptoSaid : Prop := logTornUptoRow.holds Try.pinned (OpenSpec.upto logTornSpec)

/-- 'cardexlaw25.LogSizes', WHERE WHAT IT READS IS OF BULK AT MOST 1048576: true; the input reads as it did. -/
def logSizesUptoRow : OpenClaim := { program := "ythdeecnppmheoaa", sum := "b8de7da5ec613135c55ca945525f8ff676d0d709cfc0b0ec12f2d7e5b7ca681d", func := "cardex/cardexlaw25.LogSizes", spec := "logSizes", apart := false, narrowed := true }
def LogSizesUptoSaid : Prop := logSizesUptoRow.holds Try.pinned (OpenSpec.upto logSizesSpec)

/-- 'cardexlaw25.LogStale', WHERE WHAT IT READS IS OF BULK AT MOST 1048576: true; the input reads as it did. -/
def logStaleUptoRow : OpenClaim := { program := "ythdeecnppmheoaa", sum := "b8de7da5ec613135c55ca945525f8ff676d0d709cfc0b0ec12f2d7e5b7ca681d", func := "cardex/cardexlaw25.LogStale", spec := "logStale", apart := false, narrowed := true }
def LogStaleUptoSaid : Prop := logStaleUptoRow.holds Try.pinned (OpenSpec.upto logStaleSpec)

end Rows
end Go.Proofs.Ythdeecnppmheoaa
