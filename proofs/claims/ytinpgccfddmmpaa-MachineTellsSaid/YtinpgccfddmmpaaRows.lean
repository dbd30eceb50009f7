/-
  No cell of these rows narrows 'for every input' (looked for: loops, veiled, ifaces, maps, wideKeys, modest, calm, conditions, laid).
  DERIVED. THE GIVEN ROWS OF THIS SEAT. 5 by the template 'for every input the law returns true; each argument reads behind the call as it read before'; 0 by the template 'total and deterministic' (their statements: YtinpgccfddmmpaaTotals.lean).
  GIVEN WITH THE SEED: the statements are not yours to turn. If you find one false, say at which input.
  Laid BY PROGRAM, IN A SANDBOX (cutbox-rows.mjs): the forced cells as the released guide's own fill.sh prints them over the translation 24a926805f0bc489… (all of the seat's roots in one cut). By AI agents, Wed Nov 11 2026. No macro, syntax, notation, axiom, sorry.
-/
import Derived.Test.YtinpgccfddmmpaaChecked
import GoSem.Claim
import GoSem.ClaimJoined
import GoSem.ClaimMapViews
import Derived.JoinedTies
import Derived.KernelRfl
namespace Go.Proofs.Ytinpgccfddmmpaa
/- THE CELL 'sum', in the pinned program and in every row, IS THE sha256 OF THE DUMP (.gsa) THAT YtinpgccfddmmpaaProg.lean LOADS. Nothing in Lean hashes anything: it is a label: what it is worth is what the hold of that sum in a sandbox is worth. -/
noncomputable def Try.pinned : Pinned := { name := "ytinpgccfddmmpaa", sum := "24a926805f0bc4891af51c8e4141e07ca439af28b9f3067c11da82ceba755841", checked := Try.checked }
namespace Rows
def none {H : Type} : Left H := { results := [], args := [] }

/-- 'cardexlaw15.MachineStays': WHATEVER THE INPUT: true; the input reads as it did. -/
def machineStaysSpec : ChangeSpec := { name := "machineStays", fn := fun _ => fun
  | [d1, d2] => { results := [.lit (.bool true)], args := [d1, d2] }
  | _ => none }
def machineStaysRow : OpenClaim := { program := "ytinpgccfddmmpaa", sum := "24a926805f0bc4891af51c8e4141e07ca439af28b9f3067c11da82ceba755841", func := "cardex/cardexlaw15.MachineStays", spec := "machineStays", unfollowed := true, recurses := true, plainKeys := false, apart := false }
def MachineStaysSaid : Prop := machineStaysRow.holds Try.pinned (OpenSpec.ofChange machineStaysSpec)

/-- ITS FALSE NEIGHBOUR: 'it returns false'. Refute it at one input. -/
def machineStaysWrong : ChangeSpec := { name := "machineStays", fn := fun _ => fun
  | [d1, d2] => { results := [.lit (.bool false)], args := [d1, d2] }
  | _ => none }
def MachineStaysWrongFalsely : Prop := machineStaysRow.holds Try.pinned (OpenSpec.ofChange machineStaysWrong)

/-- 'cardexlaw15.MachineTwice': WHATEVER THE INPUT: true; the input reads as it did. -/
def machineTwiceSpec : ChangeSpec := { name := "machineTwice", fn := fun _ => fun
  | [d1, d2] => { results := [.lit (.bool true)], args := [d1, d2] }
  | _ => none }
def machineTwiceRow : OpenClaim := { program := "ytinpgccfddmmpaa", sum := "24a926805f0bc4891af51c8e4141e07ca439af28b9f3067c11da82ceba755841", func := "cardex/cardexlaw15.MachineTwice", spec := "machineTwice", unfollowed := true, recurses := true, plainKeys := false, apart := false }
def MachineTwiceSaid : Prop := machineTwiceRow.holds Try.pinned (OpenSpec.ofChange machineTwiceSpec)

/-- ITS FALSE NEIGHBOUR: 'it returns false'. Refute it at one input. -/
def machineTwiceWrong : ChangeSpec := { name := "machineTwice", fn := fun _ => fun
  | [d1, d2] => { results := [.lit (.bool false)], args := [d1, d2] }
  | _ => none }
def MachineTwiceWrongFalsely : Prop := machineTwiceRow.holds Try.pinned (OpenSpec.ofChange machineTwiceWrong)

/-- 'cardexlaw15.MachineTells': WHATEVER THE INPUT: true; the input reads as it did. -/
def machineTellsSpec : ChangeSpec := { name := "machineTells", fn := fun _ => fun
  | [d1, d2, d3] => { results := [.lit (.bool true)], args := [d1, d2, d3] }
  | _ => none }
def machineTellsRow : OpenClaim := { program := "ytinpgccfddmmpaa", sum := "24a926805f0bc4891af51c8e4141e07ca439af28b9f3067c11da82ceba755841", func := "cardex/cardexlaw15.MachineTells", spec := "machineTells", unfollowed := true, recurses := true, plainKeys := false, apart := false }
def MachineTellsSaid : Prop := machineTellsRow.holds Try.pinned (OpenSpec.ofChange machineTellsSpec)

/-- ITS FALSE NEIGHBOUR: 'it returns false'. Refute it at one input. -/
def machineTellsWrong : ChangeSpec := { name := "machineTells", fn := fun _ => fun
  | [d1, d2, d3] => { results := [.lit (.bool false)], args := [d1, d2, d3] }
  | _ => none }
def MachineTellsWrongFalsely : Prop := machineTellsRow.holds Try.pinned (OpenSpec.ofChange machineTellsWrong)

/-- 'cardexlaw15.MachineRounds': WHATEVER THE INPUT: true; the input reads as it did. -/
def machineRoundsSpec : ChangeSpec := { name := "machineRounds", fn := fun _ => fun
  | [d1, d2] => { results := [.lit (.bool true)], args := [d1, d2] }
  | _ => none }
def machineRoundsRow : OpenClaim := { program := "ytinpgccfddmmpaa", sum := "24a926805f0bc4891af51c8e4141e07ca439af28b9f3067c11da82ceba755841", func := "cardex/cardexlaw15.MachineRounds", spec := "machineRounds", unfollowed := true, recurses := true, plainKeys := false, apart := false }
def MachineRoundsSaid : Prop := machineRoundsRow.holds Try.pinned (OpenSpec.ofChange machineRoundsSpec)

/-- ITS FALSE NEIGHBOUR: 'it returns false'. Refute it at one input. -/
def machineRoundsWrong : ChangeSpec := { name := "machineRounds", fn := fun _ => fun
  | [d1, d2] => { results := [.lit (.bool false)], args := [d1, d2] }
  | _ => none }
def MachineRoundsWrongFalsely : Prop := machineRoundsRow.holds Try.pinned (OpenSpec.ofChange machineRoundsWrong)

/-- 'cardexlaw15.MachineKinds': WHATEVER THE INPUT: true; the input reads as it did. -/
def machineKindsSpec : ChangeSpec := { name := "machineKinds", fn := fun _ => fun
  | [d1, d2] => { results := [.lit (.bool true)], args := [d1, d2] }
  | _ => none }
def machineKindsRow : OpenClaim := { program := "ytinpgccfddmmpaa", sum := "24a926805f0bc4891af51c8e4141e07ca439af28b9f3067c11da82ceba755841", func := "cardex/cardexlaw15.MachineKinds", spec := "machineKinds", unfollowed := true, recurses := true, plainKeys := false, apart := false }
def MachineKindsSaid : Prop := machineKindsRow.holds Try.pinned (OpenSpec.ofChange machineKindsSpec)

/-- ITS FALSE NEIGHBOUR: 'it returns false'. Refute it at one input. -/
def machineKindsWrong : ChangeSpec := { name := "machineKinds", fn := fun _ => fun
  | [d1, d2] => { results := [.lit (.bool false)], args := [d1, d2] }
  | _ => none }
def MachineKindsWrongFalsely : Prop := machineKindsRow.holds Try.pinned (OpenSpec.ofChange machineKindsWrong)

/- THE SECOND FORM. 'bulk': how many values and letters a reading holds, each counted each time it is reached (what is shared counts as often as it is met; a slice's spare places count too). A statement '..UptoSaid' is the law's where the arguments, and the package variables that the reading takes, are together of bulk at most 1048576: NARROWER than '..Said'. Prove '..Said' where nothing that the law and all that it calls make is longer than what came in: it says more and counts as full. Else prove '..UptoSaid'. A law counts once. -/
mutual
def uptoBulk {H : Type} : DataW H → Nat
  | .lit (.string bytes) => bytes.length + 1
  | .lit _ => 1
  | .nil => 1
  | .ptr d => uptoBulk d + 1
  | .slice elems spare => uptoBulkAll elems + uptoBulkAll spare + 1
  | .agg parts => uptoBulkAll parts + 1
  | .iface _ d => uptoBulk d + 1
  | .map entries => uptoBulkEntries entries + 1
  | .held _ => 1
def uptoBulkAll {H : Type} : List (DataW H) → Nat
  | [] => 0
  | d :: r => uptoBulk d + uptoBulkAll r
def uptoBulkEntries {H : Type} : List (Lit × DataW H) → Nat
  | [] => 0
  | x :: r => uptoBulkEntry x + uptoBulkEntries r
def uptoBulkEntry {H : Type} : Lit × DataW H → Nat
  | (.string bytes, d) => bytes.length + uptoBulk d + 1
  | (_, d) => uptoBulk d + 1
 end
def uptoSmall : (H : Type) → List (DataW H) → Bool := fun _ ds => decide (uptoBulkAll ds ≤ 1048576)
def OpenSpec.upto (s : _root_.Go.ChangeSpec) : _root_.Go.OpenSpec := { _root_.Go.OpenSpec.ofChange s with cond := some uptoSmall }

/-- 'cardexlaw15.MachineStays', WHERE WHAT IT READS IS OF BULK AT MOST 1048576: true; the input reads as it did. -/
def machineStaysUptoRow : OpenClaim := { program := "ytinpgccfddmmpaa", sum := "24a926805f0bc4891af51c8e4141e07ca439af28b9f3067c11da82ceba755841", func := "cardex/cardexlaw15.MachineStays", spec := "machineStays", unfollowed := true, recurses := true, plainKeys := false, apart := false, narrowed := true }
def MachineStaysUptoSaid : Prop := machineStaysUptoRow.holds Try.pinned (OpenSpec.upto machineStaysSpec)

/-- 'cardexlaw15.MachineTwice', WHERE WHAT IT READS IS OF BULK AT MOST 1048576: true; the input reads as it did. -/
def machineTwiceUptoRow : OpenClaim := { program := "ytinpgccfddmmpaa", sum := "24a926805f0bc4891af51c8e4141e07ca439af28b9f3067c11da82ceba755841", func := "cardex/cardexlaw15.MachineTwice", spec := "machineTwice", unfollowed := true, recurses := true, plainKeys := false, apart := false, narrowed := true }
def MachineTwiceUptoSaid : Prop := machineTwiceUptoRow.holds Try.pinned (OpenSpec.upto machineTwiceSpec)

/-- 'cardexlaw15.MachineTells', WHERE WHAT IT READS IS OF BULK AT MOST 1048576: true; the input reads as it did. -/
def machineTellsUptoRow : OpenClaim := { program := "ytinpgccfddmmpaa", sum := "24a926805f0bc4891af51c8e4141e07ca439af28b9f3067c11da82ceba755841", func := "cardex/cardexlaw15.MachineTells", spec := "machineTells", unfollowed := true, recurses := true, plainKeys := false, apart := false, narrowed := true }
def MachineTellsUptoSaid : Prop := machineTellsUptoRow.holds Try.pinned (OpenSpec.upto machineTellsSpec)

/-- 'cardexlaw15.MachineRounds', WHERE WHAT IT READS IS OF BULK AT MOST 1048576: true; the input reads as it did. -/
def machineRoundsUptoRow : OpenClaim := { program := "ytinpgccfddmmpaa", sum := "24a926805f0bc4891af51c8e4141e07ca439af28b9f3067c11da82ceba755841", func := "cardex/cardexlaw15.MachineRounds", spec := "machineRounds", unfollowed := true, recurses := true, plainKeys := false, apart := false, narrowed := true }
def MachineRoundsUptoSaid : Prop := machineRoundsUptoRow.holds Try.pinned (OpenSpec.upto machineRoundsSpec)

/-- 'cardexlaw15.MachineKinds', WHERE WHAT IT READS IS OF BULK AT MOST 1048576: true; the input reads as it did. -/
def machineKindsUptoRow : OpenClaim := { program := "ytinpgccfddmmpaa", sum := "24a926805f0bc4891af51c8e4141e07ca439af28b9f3067c11da82ceba755841", func := "cardex/cardexlaw15.MachineKinds", spec := "machineKinds", unfollowed := true, recurses := true, plainKeys := false, apart := false, narrowed := true }
def MachineKindsUptoSaid : Prop := machineKindsUptoRow.holds Try.pinned (OpenSpec.upto machineKindsSpec)

end Rows
end Go.Proofs.Ytinpgccfddmmpaa
