/-
  No cell of these rows narrows 'for every input' (looked for: loops, veiled, ifaces, maps, wideKeys, modest, calm, conditions, laid).
  DERIVED. THE GIVEN ROWS OF THIS SEAT. 9 by the template 'for every input the law returns true; each argument reads behind the call as it read before'; 0 by the template 'total and deterministic' (their statements: YtbjgilehnlpmaaaGreatTotals.lean).
  GIVEN WITH THE SEED: the statements are not yours to turn. If you find one false, say at which input.
  Laid BY PROGRAM, IN A SANDBOX (cutbox-rows.mjs): the forced cells as the released guide's own fill.sh prints them over the translation bf79ff47e146e261… (all of the seat's roots in one cut). By AI agents, Wed Nov 11 2026. No macro, syntax, notation, axiom, sorry.
-/
import Derived.Test.YtbjgilehnlpmaaaGreatChecked
import GoSem.Claim
import GoSem.ClaimJoined
import GoSem.ClaimMapViews
import Derived.JoinedTies
import Derived.KernelRfl
namespace Go.Proofs.YtbjgilehnlpmaaaGreat
/- THE CELL 'sum', in the pinned program and in every row, IS THE sha256 OF THE DUMP (.gsa) THAT YtbjgilehnlpmaaaGreatProg.lean LOADS. Nothing in Lean hashes anything: it is a label: what it is worth is what the hold of that sum in a sandbox is worth. -/
noncomputable def Tryz.pinned : Pinned := { name := "ytbjgilehnlpmaaagreat", sum := "bf79ff47e146e2615cf65ac1af3b43ac04b840eda05a1e11983b34c27dbf764a", checked := Tryz.checked }
namespace Rows
def none {H : Type} : Left H := { results := [], args := [] }

/-- 'laws.FnTopClosed': WHATEVER THE INPUT: true; the input reads as it did. -/
def fnTopClosedSpec : ChangeSpec := { name := "fnTopClosed", fn := fun _ => fun
  | [d1, d2] => { results := [.lit (.bool true)], args := [d1, d2] }
  | _ => none }
def fnTopClosedRow : OpenClaim := { program := "ytbjgilehnlpmaaagreat", sum := "bf79ff47e146e2615cf65ac1af3b43ac04b840eda05a1e11983b34c27dbf764a", func := "loop.example/faultcleanup/laws.FnTopClosed", spec := "fnTopClosed", unfollowed := true, recurses := true, apart := false }
def FnTopClosedSaid : Prop := fnTopClosedRow.holds Tryz.pinned (OpenSpec.ofChange fnTopClosedSpec)

/-- ITS FALSE NEIGHBOUR: 'it returns false'. Refute it at one input. -/
def fnTopClosedWrong : ChangeSpec := { name := "fnTopClosed", fn := fun _ => fun
  | [d1, d2] => { results := [.lit (.bool false)], args := [d1, d2] }
  | _ => none }
def FnTopClosedWrongFalsely : Prop := fnTopClosedRow.holds Tryz.pinned (OpenSpec.ofChange fnTopClosedWrong)

/-- 'laws.FnDropDead': WHATEVER THE INPUT: true; the input reads as it did. -/
def fnDropDeadSpec : ChangeSpec := { name := "fnDropDead", fn := fun _ => fun
  | [d] => { results := [.lit (.bool true)], args := [d] }
  | _ => none }
def fnDropDeadRow : OpenClaim := { program := "ytbjgilehnlpmaaagreat", sum := "bf79ff47e146e2615cf65ac1af3b43ac04b840eda05a1e11983b34c27dbf764a", func := "loop.example/faultcleanup/laws.FnDropDead", spec := "fnDropDead", unfollowed := true, recurses := true, apart := false }
def FnDropDeadSaid : Prop := fnDropDeadRow.holds Tryz.pinned (OpenSpec.ofChange fnDropDeadSpec)

/-- ITS FALSE NEIGHBOUR: 'it returns false'. Refute it at one input. -/
def fnDropDeadWrong : ChangeSpec := { name := "fnDropDead", fn := fun _ => fun
  | [d] => { results := [.lit (.bool false)], args := [d] }
  | _ => none }
def FnDropDeadWrongFalsely : Prop := fnDropDeadRow.holds Tryz.pinned (OpenSpec.ofChange fnDropDeadWrong)

/-- 'laws.FnThenProgram': WHATEVER THE INPUT: true; the input reads as it did. -/
def fnThenProgramSpec : ChangeSpec := { name := "fnThenProgram", fn := fun _ => fun
  | [d] => { results := [.lit (.bool true)], args := [d] }
  | _ => none }
def fnThenProgramRow : OpenClaim := { program := "ytbjgilehnlpmaaagreat", sum := "bf79ff47e146e2615cf65ac1af3b43ac04b840eda05a1e11983b34c27dbf764a", func := "loop.example/faultcleanup/laws.FnThenProgram", spec := "fnThenProgram", unfollowed := true, recurses := true, apart := false }
def FnThenProgramSaid : Prop := fnThenProgramRow.holds Tryz.pinned (OpenSpec.ofChange fnThenProgramSpec)

/-- ITS FALSE NEIGHBOUR: 'it returns false'. Refute it at one input. -/
def fnThenProgramWrong : ChangeSpec := { name := "fnThenProgram", fn := fun _ => fun
  | [d] => { results := [.lit (.bool false)], args := [d] }
  | _ => none }
def FnThenProgramWrongFalsely : Prop := fnThenProgramRow.holds Tryz.pinned (OpenSpec.ofChange fnThenProgramWrong)

/-- 'laws.FnInLoop': WHATEVER THE INPUT: true; the input reads as it did. -/
def fnInLoopSpec : ChangeSpec := { name := "fnInLoop", fn := fun _ => fun
  | [d] => { results := [.lit (.bool true)], args := [d] }
  | _ => none }
def fnInLoopRow : OpenClaim := { program := "ytbjgilehnlpmaaagreat", sum := "bf79ff47e146e2615cf65ac1af3b43ac04b840eda05a1e11983b34c27dbf764a", func := "loop.example/faultcleanup/laws.FnInLoop", spec := "fnInLoop", unfollowed := true, recurses := true, apart := false }
def FnInLoopSaid : Prop := fnInLoopRow.holds Tryz.pinned (OpenSpec.ofChange fnInLoopSpec)

/-- ITS FALSE NEIGHBOUR: 'it returns false'. Refute it at one input. -/
def fnInLoopWrong : ChangeSpec := { name := "fnInLoop", fn := fun _ => fun
  | [d] => { results := [.lit (.bool false)], args := [d] }
  | _ => none }
def FnInLoopWrongFalsely : Prop := fnInLoopRow.holds Tryz.pinned (OpenSpec.ofChange fnInLoopWrong)

/-- 'laws.FnInLoopTwice': WHATEVER THE INPUT: true; the input reads as it did. -/
def fnInLoopTwiceSpec : ChangeSpec := { name := "fnInLoopTwice", fn := fun _ => fun
  | [d] => { results := [.lit (.bool true)], args := [d] }
  | _ => none }
def fnInLoopTwiceRow : OpenClaim := { program := "ytbjgilehnlpmaaagreat", sum := "bf79ff47e146e2615cf65ac1af3b43ac04b840eda05a1e11983b34c27dbf764a", func := "loop.example/faultcleanup/laws.FnInLoopTwice", spec := "fnInLoopTwice", unfollowed := true, recurses := true, apart := false }
def FnInLoopTwiceSaid : Prop := fnInLoopTwiceRow.holds Tryz.pinned (OpenSpec.ofChange fnInLoopTwiceSpec)

/-- ITS FALSE NEIGHBOUR: 'it returns false'. Refute it at one input. -/
def fnInLoopTwiceWrong : ChangeSpec := { name := "fnInLoopTwice", fn := fun _ => fun
  | [d] => { results := [.lit (.bool false)], args := [d] }
  | _ => none }
def FnInLoopTwiceWrongFalsely : Prop := fnInLoopTwiceRow.holds Tryz.pinned (OpenSpec.ofChange fnInLoopTwiceWrong)

/-- 'laws.FnWithFinally': WHATEVER THE INPUT: true; the input reads as it did. -/
def fnWithFinallySpec : ChangeSpec := { name := "fnWithFinally", fn := fun _ => fun
  | [d] => { results := [.lit (.bool true)], args := [d] }
  | _ => none }
def fnWithFinallyRow : OpenClaim := { program := "ytbjgilehnlpmaaagreat", sum := "bf79ff47e146e2615cf65ac1af3b43ac04b840eda05a1e11983b34c27dbf764a", func := "loop.example/faultcleanup/laws.FnWithFinally", spec := "fnWithFinally", unfollowed := true, recurses := true, apart := false }
def FnWithFinallySaid : Prop := fnWithFinallyRow.holds Tryz.pinned (OpenSpec.ofChange fnWithFinallySpec)

/-- ITS FALSE NEIGHBOUR: 'it returns false'. Refute it at one input. -/
def fnWithFinallyWrong : ChangeSpec := { name := "fnWithFinally", fn := fun _ => fun
  | [d] => { results := [.lit (.bool false)], args := [d] }
  | _ => none }
def FnWithFinallyWrongFalsely : Prop := fnWithFinallyRow.holds Tryz.pinned (OpenSpec.ofChange fnWithFinallyWrong)

/-- 'laws.FnPruneLines': WHATEVER THE INPUT: true; the input reads as it did. -/
def fnPruneLinesSpec : ChangeSpec := { name := "fnPruneLines", fn := fun _ => fun
  | [d] => { results := [.lit (.bool true)], args := [d] }
  | _ => none }
def fnPruneLinesRow : OpenClaim := { program := "ytbjgilehnlpmaaagreat", sum := "bf79ff47e146e2615cf65ac1af3b43ac04b840eda05a1e11983b34c27dbf764a", func := "loop.example/faultcleanup/laws.FnPruneLines", spec := "fnPruneLines", unfollowed := true, recurses := true, apart := false }
def FnPruneLinesSaid : Prop := fnPruneLinesRow.holds Tryz.pinned (OpenSpec.ofChange fnPruneLinesSpec)

/-- ITS FALSE NEIGHBOUR: 'it returns false'. Refute it at one input. -/
def fnPruneLinesWrong : ChangeSpec := { name := "fnPruneLines", fn := fun _ => fun
  | [d] => { results := [.lit (.bool false)], args := [d] }
  | _ => none }
def FnPruneLinesWrongFalsely : Prop := fnPruneLinesRow.holds Tryz.pinned (OpenSpec.ofChange fnPruneLinesWrong)

/-- 'laws.FnRunLog': WHATEVER THE INPUT: true; the input reads as it did. -/
def fnRunLogSpec : ChangeSpec := { name := "fnRunLog", fn := fun _ => fun
  | [d] => { results := [.lit (.bool true)], args := [d] }
  | _ => none }
def fnRunLogRow : OpenClaim := { program := "ytbjgilehnlpmaaagreat", sum := "bf79ff47e146e2615cf65ac1af3b43ac04b840eda05a1e11983b34c27dbf764a", func := "loop.example/faultcleanup/laws.FnRunLog", spec := "fnRunLog", unfollowed := true, recurses := true, apart := false }
def FnRunLogSaid : Prop := fnRunLogRow.holds Tryz.pinned (OpenSpec.ofChange fnRunLogSpec)

/-- ITS FALSE NEIGHBOUR: 'it returns false'. Refute it at one input. -/
def fnRunLogWrong : ChangeSpec := { name := "fnRunLog", fn := fun _ => fun
  | [d] => { results := [.lit (.bool false)], args := [d] }
  | _ => none }
def FnRunLogWrongFalsely : Prop := fnRunLogRow.holds Tryz.pinned (OpenSpec.ofChange fnRunLogWrong)

/-- 'laws.FnRunProgram': WHATEVER THE INPUT: true; the input reads as it did. -/
def fnRunProgramSpec : ChangeSpec := { name := "fnRunProgram", fn := fun _ => fun
  | [d] => { results := [.lit (.bool true)], args := [d] }
  | _ => none }
def fnRunProgramRow : OpenClaim := { program := "ytbjgilehnlpmaaagreat", sum := "bf79ff47e146e2615cf65ac1af3b43ac04b840eda05a1e11983b34c27dbf764a", func := "loop.example/faultcleanup/laws.FnRunProgram", spec := "fnRunProgram", unfollowed := true, recurses := true, apart := false }
def FnRunProgramSaid : Prop := fnRunProgramRow.holds Tryz.pinned (OpenSpec.ofChange fnRunProgramSpec)

/-- ITS FALSE NEIGHBOUR: 'it returns false'. Refute it at one input. -/
def fnRunProgramWrong : ChangeSpec := { name := "fnRunProgram", fn := fun _ => fun
  | [d] => { results := [.lit (.bool false)], args := [d] }
  | _ => none }
def FnRunProgramWrongFalsely : Prop := fnRunProgramRow.holds Tryz.pinned (OpenSpec.ofChange fnRunProgramWrong)

/- THE SECOND FORM. 'bulk': how many values and letters a reading holds, each counted each time it is reached (what is shared counts as often as it is met; a slice's spare places count too). A statement '..UptoSaid' is the law's where the arguments, and the package variables that the reading takes, are together of bulk at most 1048576: NARROWER than '..Said'. Prove '..Said' where nothing that the law and all that it calls make is longer than what came in: it says more and counts as full. Else prove '..UptoSaid'. A law counts once. -/
mutual
def uptoBulk {H : Type} : DataW H → Nat
  | .lit (.string bytes) => bytes.length + 1
  | .lit _ => 1
  | .nil => 1
  | .ptr d => uptoBulk d + 1
  | .slice elems spare => uptoBulkAll elems + uptoBulkAll spare + 1
  | .agg parts => uptoBulkAll parts + 1
  | .iface _ d => uptoBulk d + 1
  | .map entries => uptoBulkEntries entries + 1
  | .held _ => 1
def uptoBulkAll {H : Type} : List (DataW H) → Nat
  | [] => 0
  | d :: r => uptoBulk d + uptoBulkAll r
def uptoBulkEntries {H : Type} : List (Lit × DataW H) → Nat
  | [] => 0
  | x :: r => uptoBulkEntry x + uptoBulkEntries r
def uptoBulkEntry {H : Type} : Lit × DataW H → Nat
  | (.string bytes, d) => bytes.length + uptoBulk d + 1
  | (_, d) => uptoBulk d + 1
 end
def uptoSmall : (H : Type) → List (DataW H) → Bool := fun _ ds => decide (uptoBulkAll ds ≤ 1048576)
def OpenSpec.upto (s : _root_.Go.ChangeSpec) : _root_.Go.OpenSpec := { _root_.Go.OpenSpec.ofChange s with cond := some uptoSmall }

/-- 'laws.FnTopClosed', WHERE WHAT IT READS IS OF BULK AT MOST 1048576: true; the input reads as it did. -/
def fnTopClosedUptoRow : OpenClaim := { program := "ytbjgilehnlpmaaagreat", sum := "bf79ff47e146e2615cf65ac1af3b43ac04b840eda05a1e11983b34c27dbf764a", func := "loop.example/faultcleanup/laws.FnTopClosed", spec := "fnTopClosed", unfollowed := true, recurses := true, apart := false, narrowed := true }
def FnTopClosedUptoSaid : Prop := fnTopClosedUptoRow.holds Tryz.pinned (OpenSpec.upto fnTopClosedSpec)

/-- 'laws.FnDropDead', WHERE WHAT IT READS IS OF BULK AT MOST 1048576: true; the input reads as it did. -/
def fnDropDeadUptoRow : OpenClaim := { program := "ytbjgilehnlpmaaagreat", sum := "bf79ff47e146e2615cf65ac1af3b43ac04b840eda05a1e11983b34c27dbf764a", func := "loop.example/faultcleanup/laws.FnDropDead", spec := "fnDropDead", unfollowed := true, recurses := true, apart := false, narrowed := true }
def FnDropDeadUptoSaid : Prop := fnDropDeadUptoRow.holds Tryz.pinned (OpenSpec.upto fnDropDeadSpec)

/-- 'laws.FnThenProgram', WHERE WHAT IT READS IS OF BULK AT MOST 1048576: true; the input reads as it did. -/
def fnThenProgramUptoRow : OpenClaim := { program := "ytbjgilehnlpmaaagreat", sum := "bf79ff47e146e2615cf65ac1af3b43ac04b840eda05a1e11983b34c27dbf764a", func := "loop.example/faultcleanup/laws.FnThenProgram", spec := "fnThenProgram", unfollowed := true, recurses := true, apart := false, narrowed := true }
def FnThenProgramUptoSaid : Prop := fnThenProgramUptoRow.holds Tryz.pinned (OpenSpec.upto fnThenProgramSpec)

/-- 'laws.FnInLoop', WHERE WHAT IT READS IS OF BULK AT MOST 1048576: true; the input reads as it did. -/
def fnInLoopUptoRow : OpenClaim := { program := "ytbjgilehnlpmaaagreat", sum := "bf79ff47e146e2615cf65ac1af3b43ac04b840eda05a1e11983b34c27dbf764a", func := "loop.example/faultcleanup/laws.FnInLoop", spec := "fnInLoop", unfollowed := true, recurses := true, apart := false, narrowed := true }
def FnInLoopUptoSaid : Prop := fnInLoopUptoRow.holds Tryz.pinned (OpenSpec.upto fnInLoopSpec)

/-- 'laws.FnInLoopTwice', WHERE WHAT IT READS IS OF BULK AT MOST 1048576: true; the input reads as it did. -/
def fnInLoopTwiceUptoRow : OpenClaim := { program := "ytbjgilehnlpmaaagreat", sum := "bf79ff47e146e2615cf65ac1af3b43ac04b840eda05a1e11983b34c27dbf764a", func := "loop.example/faultcleanup/laws.FnInLoopTwice", spec := "fnInLoopTwice", unfollowed := true, recurses := true, apart := false, narrowed := true }
def FnInLoopTwiceUptoSaid : Prop := fnInLoopTwiceUptoRow.holds Tryz.pinned (OpenSpec.upto fnInLoopTwiceSpec)

/-- 'laws.FnWithFinally', WHERE WHAT IT READS IS OF BULK AT MOST 1048576: true; the input reads as it did. -/
def fnWithFinallyUptoRow : OpenClaim := { program := "ytbjgilehnlpmaaagreat", sum := "bf79ff47e146e2615cf65ac1af3b43ac04b840eda05a1e11983b34c27dbf764a", func := "loop.example/faultcleanup/laws.FnWithFinally", spec := "fnWithFinally", unfollowed := true, recurses := true, apart := false, narrowed := true }
def FnWithFinallyUptoSaid : Prop := fnWithFinallyUptoRow.holds Tryz.pinned (OpenSpec.upto fnWithFinallySpec)

/-- 'laws.FnPruneLines', WHERE WHAT IT READS IS OF BULK AT MOST 1048576: true; the input reads as it did. -/
def fnPruneLinesUptoRow : OpenClaim := { program := "ytbjgilehnlpmaaagreat", sum := "bf79ff47e146e2615cf65ac1af3b43ac04b840eda05a1e11983b34c27dbf764a", func := "loop.example/faultcleanup/laws.FnPruneLines", spec := "fnPruneLines", unfollowed := true, recurses := true, apart := false, narrowed := true }
def FnPruneLinesUptoSaid : Prop := fnPruneLinesUptoRow.holds Tryz.pinned (OpenSpec.upto fnPruneLinesSpec)

/-- 'laws.FnRunLog', WHERE WHAT IT READS IS OF BULK AT MOST 1048576: true; the input reads as it did. -/
def fnRunLogUptoRow : OpenClaim := { program := "ytbjgilehnlpmaaagreat", sum := "bf79ff47e146e2615cf65ac1af3b43ac04b840eda05a1e11983b34c27dbf764a", func := "loop.example/faultcleanup/laws.FnRunLog", spec := "fnRunLog", unfollowed := true, recurses := true, apart := false, narrowed := true }
def FnRunLogUptoSaid : Prop := fnRunLogUptoRow.holds Tryz.pinned (OpenSpec.upto fnRunLogSpec)

/-- 'laws.FnRunProgram', WHERE WHAT IT READS IS OF BULK AT MOST 1048576: true; the input reads as it did. -/
def fnRunProgramUptoRow : OpenClaim := { program := "ytbjgilehnlpmaaagreat", sum := "bf79ff47e146e2615cf65ac1af3b43ac04b840eda05a1e11983b34c27dbf764a", func := "loop.example/faultcleanup/laws.FnRunProgram", spec := "fnRunProgram", unfollowed := true, recurses := true, apart := false, narrowed := true }
def FnRunProgramUptoSaid : Prop := fnRunProgramUptoRow.holds Tryz.pinned (OpenSpec.upto fnRunProgramSpec)

end Rows
end Go.Proofs.YtbjgilehnlpmaaaGreat
