/-
  No cell of these rows narrows 'for every input' (looked for: loops, veiled, ifaces, maps, wideKeys, modest, calm, conditions, laid).
  DERIVED. THE GIVEN ROWS OF THIS SEAT. 6 by the template 'for every input the law returns true; each argument reads behind the call as it read before'; 0 by the template 'total and deterministic' (their statements: YtjpfgafdjlkblaaGreatTotals.lean).
  GIVEN WITH THE SEED: the statements are not yours to turn. If you find one false, say at which input.
  Laid BY PROGRAM, IN A SANDBOX (cutbox-rows.mjs): the forced cells as the released guide's own fill.sh prints them over the translation 379643c86c6f8a5d… (all of the seat's roots in one cut). By AI agents, Wed Nov 11 2026. No macro, syntax, notation, axiom, sorry.
-/
import Derived.Test.YtjpfgafdjlkblaaGreatChecked
import GoSem.Claim
import GoSem.ClaimJoined
import GoSem.ClaimMapViews
import Derived.JoinedTies
import Derived.KernelRfl
namespace Go.Proofs.YtjpfgafdjlkblaaGreat
/- THE CELL 'sum', in the pinned program and in every row, IS THE sha256 OF THE DUMP (.gsa) THAT YtjpfgafdjlkblaaGreatProg.lean LOADS. Nothing in Lean hashes anything: it is a label: what it is worth is what the hold of that sum in a sandbox is worth. -/
noncomputable def Tryz.pinned : Pinned := { name := "ytjpfgafdjlkblaagreat", sum := "379643c86c6f8a5d20078803aa8ed589379f0ea70369229bbca2dc6e4d3877fc", checked := Tryz.checked }
namespace Rows
def none {H : Type} : Left H := { results := [], args := [] }

/-- 'laws.FnCloseRunFinally': WHATEVER THE INPUT: true; the input reads as it did. -/
def fnCloseRunFinallySpec : ChangeSpec := { name := "fnCloseRunFinally", fn := fun _ => fun
  | [d] => { results := [.lit (.bool true)], args := [d] }
  | _ => none }
def fnCloseRunFinallyRow : OpenClaim := { program := "ytjpfgafdjlkblaagreat", sum := "379643c86c6f8a5d20078803aa8ed589379f0ea70369229bbca2dc6e4d3877fc", func := "loop.example/faultcleanup/laws.FnCloseRunFinally", spec := "fnCloseRunFinally", unfollowed := true, recurses := true, apart := false }
def FnCloseRunFinallySaid : Prop := fnCloseRunFinallyRow.holds Tryz.pinned (OpenSpec.ofChange fnCloseRunFinallySpec)

/-- ITS FALSE NEIGHBOUR: 'it returns false'. Refute it at one input. -/
def fnCloseRunFinallyWrong : ChangeSpec := { name := "fnCloseRunFinally", fn := fun _ => fun
  | [d] => { results := [.lit (.bool false)], args := [d] }
  | _ => none }
def FnCloseRunFinallyWrongFalsely : Prop := fnCloseRunFinallyRow.holds Tryz.pinned (OpenSpec.ofChange fnCloseRunFinallyWrong)

/-- 'laws.FnCloseRun': WHATEVER THE INPUT: true; the input reads as it did. -/
def fnCloseRunSpec : ChangeSpec := { name := "fnCloseRun", fn := fun _ => fun
  | [d] => { results := [.lit (.bool true)], args := [d] }
  | _ => none }
def fnCloseRunRow : OpenClaim := { program := "ytjpfgafdjlkblaagreat", sum := "379643c86c6f8a5d20078803aa8ed589379f0ea70369229bbca2dc6e4d3877fc", func := "loop.example/faultcleanup/laws.FnCloseRun", spec := "fnCloseRun", unfollowed := true, recurses := true, apart := false }
def FnCloseRunSaid : Prop := fnCloseRunRow.holds Tryz.pinned (OpenSpec.ofChange fnCloseRunSpec)

/-- ITS FALSE NEIGHBOUR: 'it returns false'. Refute it at one input. -/
def fnCloseRunWrong : ChangeSpec := { name := "fnCloseRun", fn := fun _ => fun
  | [d] => { results := [.lit (.bool false)], args := [d] }
  | _ => none }
def FnCloseRunWrongFalsely : Prop := fnCloseRunRow.holds Tryz.pinned (OpenSpec.ofChange fnCloseRunWrong)

/-- 'laws.FnExactRunLog': WHATEVER THE INPUT: true; the input reads as it did. -/
def fnExactRunLogSpec : ChangeSpec := { name := "fnExactRunLog", fn := fun _ => fun
  | [d1, d2] => { results := [.lit (.bool true)], args := [d1, d2] }
  | _ => none }
def fnExactRunLogRow : OpenClaim := { program := "ytjpfgafdjlkblaagreat", sum := "379643c86c6f8a5d20078803aa8ed589379f0ea70369229bbca2dc6e4d3877fc", func := "loop.example/faultcleanup/laws.FnExactRunLog", spec := "fnExactRunLog", unfollowed := true, recurses := true, apart := false }
def FnExactRunLogSaid : Prop := fnExactRunLogRow.holds Tryz.pinned (OpenSpec.ofChange fnExactRunLogSpec)

/-- ITS FALSE NEIGHBOUR: 'it returns false'. Refute it at one input. -/
def fnExactRunLogWrong : ChangeSpec := { name := "fnExactRunLog", fn := fun _ => fun
  | [d1, d2] => { results := [.lit (.bool false)], args := [d1, d2] }
  | _ => none }
def FnExactRunLogWrongFalsely : Prop := fnExactRunLogRow.holds Tryz.pinned (OpenSpec.ofChange fnExactRunLogWrong)

/-- 'laws.FnExactRunProgram': WHATEVER THE INPUT: true; the input reads as it did. -/
def fnExactRunProgramSpec : ChangeSpec := { name := "fnExactRunProgram", fn := fun _ => fun
  | [d1, d2] => { results := [.lit (.bool true)], args := [d1, d2] }
  | _ => none }
def fnExactRunProgramRow : OpenClaim := { program := "ytjpfgafdjlkblaagreat", sum := "379643c86c6f8a5d20078803aa8ed589379f0ea70369229bbca2dc6e4d3877fc", func := "loop.example/faultcleanup/laws.FnExactRunProgram", spec := "fnExactRunProgram", unfollowed := true, recurses := true, apart := false }
def FnExactRunProgramSaid : Prop := fnExactRunProgramRow.holds Tryz.pinned (OpenSpec.ofChange fnExactRunProgramSpec)

/-- ITS FALSE NEIGHBOUR: 'it returns false'. Refute it at one input. -/
def fnExactRunProgramWrong : ChangeSpec := { name := "fnExactRunProgram", fn := fun _ => fun
  | [d1, d2] => { results := [.lit (.bool false)], args := [d1, d2] }
  | _ => none }
def FnExactRunProgramWrongFalsely : Prop := fnExactRunProgramRow.holds Tryz.pinned (OpenSpec.ofChange fnExactRunProgramWrong)

/-- 'laws.FnExactCloseExits': WHATEVER THE INPUT: true; the input reads as it did. -/
def fnExactCloseExitsSpec : ChangeSpec := { name := "fnExactCloseExits", fn := fun _ => fun
  | [d1, d2, d3] => { results := [.lit (.bool true)], args := [d1, d2, d3] }
  | _ => none }
def fnExactCloseExitsRow : OpenClaim := { program := "ytjpfgafdjlkblaagreat", sum := "379643c86c6f8a5d20078803aa8ed589379f0ea70369229bbca2dc6e4d3877fc", func := "loop.example/faultcleanup/laws.FnExactCloseExits", spec := "fnExactCloseExits", unfollowed := true, recurses := true, apart := false }
def FnExactCloseExitsSaid : Prop := fnExactCloseExitsRow.holds Tryz.pinned (OpenSpec.ofChange fnExactCloseExitsSpec)

/-- ITS FALSE NEIGHBOUR: 'it returns false'. Refute it at one input. -/
def fnExactCloseExitsWrong : ChangeSpec := { name := "fnExactCloseExits", fn := fun _ => fun
  | [d1, d2, d3] => { results := [.lit (.bool false)], args := [d1, d2, d3] }
  | _ => none }
def FnExactCloseExitsWrongFalsely : Prop := fnExactCloseExitsRow.holds Tryz.pinned (OpenSpec.ofChange fnExactCloseExitsWrong)

/-- 'laws.FnExactCloseRun': WHATEVER THE INPUT: true; the input reads as it did. -/
def fnExactCloseRunSpec : ChangeSpec := { name := "fnExactCloseRun", fn := fun _ => fun
  | [d1, d2, d3] => { results := [.lit (.bool true)], args := [d1, d2, d3] }
  | _ => none }
def fnExactCloseRunRow : OpenClaim := { program := "ytjpfgafdjlkblaagreat", sum := "379643c86c6f8a5d20078803aa8ed589379f0ea70369229bbca2dc6e4d3877fc", func := "loop.example/faultcleanup/laws.FnExactCloseRun", spec := "fnExactCloseRun", unfollowed := true, recurses := true, apart := false }
def FnExactCloseRunSaid : Prop := fnExactCloseRunRow.holds Tryz.pinned (OpenSpec.ofChange fnExactCloseRunSpec)

/-- ITS FALSE NEIGHBOUR: 'it returns false'. Refute it at one input. -/
def fnExactCloseRunWrong : ChangeSpec := { name := "fnExactCloseRun", fn := fun _ => fun
  | [d1, d2, d3] => { results := [.lit (.bool false)], args := [d1, d2, d3] }
  | _ => none }
def FnExactCloseRunWrongFalsely : Prop := fnExactCloseRunRow.holds Tryz.pinned (OpenSpec.ofChange fnExactCloseRunWrong)

/- THE SECOND FORM. 'bulk': how many values and letters a reading holds, each counted each time it is reached (what is shared counts as often as it is met; a slice's spare places count too). A statement '..UptoSaid' is the law's where the arguments, and the package variables that the reading takes, are together of bulk at most 1048576: NARROWER than '..Said'. Prove '..Said' where nothing that the law and all that it calls make is longer than what came in: it says more and counts as full. Else prove '..UptoSaid'. A law counts once. -/
mutual
def uptoBulk {H : Type} : DataW H → Nat
  | .lit (.string bytes) => bytes.length + 1
  | .lit _ => 1
  | .nil => 1
  | .ptr d => uptoBulk d + 1
  | .slice elems spare => uptoBulkAll elems + uptoBulkAll spare + 1
  | .agg parts => uptoBulkAll parts + 1
  | .iface _ d => uptoBulk d + 1
  | .map entries => uptoBulkEntries entries + 1
  | .held _ => 1
def uptoBulkAll {H : Type} : List (DataW H) → Nat
  | [] => 0
  | d :: r => uptoBulk d + uptoBulkAll r
def uptoBulkEntries {H : Type} : List (Lit × DataW H) → Nat
  | [] => 0
  | x :: r => uptoBulkEntry x + uptoBulkEntries r
def uptoBulkEntry {H : Type} : Lit × DataW H → Nat
  | (.string bytes, d) => bytes.length + uptoBulk d + 1
  | (_, d) => uptoBulk d + 1
 end
def uptoSmall : (H : Type) → List (DataW H) → Bool := fun _ ds => decide (uptoBulkAll ds ≤ 1048576)
def OpenSpec.upto (s : _root_.Go.ChangeSpec) : _root_.Go.OpenSpec := { _root_.Go.OpenSpec.ofChange s with cond := some uptoSmall }

/-- 'laws.FnCloseRunFinally', WHERE WHAT IT READS IS OF BULK AT MOST 1048576: true; the input reads as it did. -/
def fnCloseRunFinallyUptoRow : OpenClaim := { program := "ytjpfgafdjlkblaagreat", sum := "379643c86c6f8a5d20078803aa8ed589379f0ea70369229bbca2dc6e4d3877fc", func := "loop.example/faultcleanup/laws.FnCloseRunFinally", spec := "fnCloseRunFinally", unfollowed := true, recurses := true, apart := false, narrowed := true }
def FnCloseRunFinallyUptoSaid : Prop := fnCloseRunFinallyUptoRow.holds Tryz.pinned (OpenSpec.upto fnCloseRunFinallySpec)

/-- 'laws.FnCloseRun', WHERE WHAT IT READS IS OF BULK AT MOST 1048576: true; the input reads as it did. -/
def fnCloseRunUptoRow : OpenClaim := { program := "ytjpfgafdjlkblaagreat", sum := "379643c86c6f8a5d20078803aa8ed589379f0ea70369229bbca2dc6e4d3877fc", func := "loop.example/faultcleanup/laws.FnCloseRun", spec := "fnCloseRun", unfollowed := true, recurses := true, apart := false, narrowed := true }
def FnCloseRunUptoSaid : Prop := fnCloseRunUptoRow.holds Tryz.pinned (OpenSpec.upto fnCloseRunSpec)

/-- 'laws.FnExactRunLog', WHERE WHAT IT READS IS OF BULK AT MOST 1048576: true; the input reads as it did. -/
def fnExactRunLogUptoRow : OpenClaim := { program := "ytjpfgafdjlkblaagreat", sum := "379643c86c6f8a5d20078803aa8ed589379f0ea70369229bbca2dc6e4d3877fc", func := "loop.example/faultcleanup/laws.FnExactRunLog", spec := "fnExactRunLog", unfollowed := true, recurses := true, apart := false, narrowed := true }
def FnExactRunLogUptoSaid : Prop := fnExactRunLogUptoRow.holds Tryz.pinned (OpenSpec.upto fnExactRunLogSpec)

/-- 'laws.FnExactRunProgram', WHERE WHAT IT READS IS OF BULK AT MOST 1048576: true; the input reads as it did. -/
def fnExactRunProgramUptoRow : OpenClaim := { program := "ytjpfgafdjlkblaagreat", sum := "379643c86c6f8a5d20078803aa8ed589379f0ea70369229bbca2dc6e4d3877fc", func := "loop.example/faultcleanup/laws.FnExactRunProgram", spec := "fnExactRunProgram", unfollowed := true, recurses := true, apart := false, narrowed := true }
def FnExactRunProgramUptoSaid : Prop := fnExactRunProgramUptoRow.holds Tryz.pinned (OpenSpec.upto fnExactRunProgramSpec)

/-- 'laws.FnExactCloseExits', WHERE WHAT IT READS IS OF BULK AT MOST 1048576: true; the input reads as it did. -/
def fnExactCloseExitsUptoRow : OpenClaim := { program := "ytjpfgafdjlkblaagreat", sum := "379643c86c6f8a5d20078803aa8ed589379f0ea70369229bbca2dc6e4d3877fc", func := "loop.example/faultcleanup/laws.FnExactCloseExits", spec := "fnExactCloseExits", unfollowed := true, recurses := true, apart := false, narrowed := true }
def FnExactCloseExitsUptoSaid : Prop := fnExactCloseExitsUptoRow.holds Tryz.pinned (OpenSpec.upto fnExactCloseExitsSpec)

/-- 'laws.FnExactCloseRun', WHERE WHAT IT READS IS OF BULK AT MOST 1048576: true; the input reads as it did. -/
def fnExactCloseRunUptoRow : OpenClaim := { program := "ytjpfgafdjlkblaagreat", sum := "379643c86c6f8a5d20078803aa8ed589379f0ea70369229bbca2dc6e4d3877fc", func := "loop.example/faultcleanup/laws.FnExactCloseRun", spec := "fnExactCloseRun", unfollowed := true, recurses := true, apart := false, narrowed := true }
def FnExactCloseRunUptoSaid : Prop := fnExactCloseRunUptoRow.holds Tryz.pinned (OpenSpec.upto fnExactCloseRunSpec)

end Rows
end Go.Proofs.YtjpfgafdjlkblaaGreat
