/-
  No cell of these rows narrows 'for every input' (looked for: loops, veiled, ifaces, maps, wideKeys, modest, calm, conditions, laid).
  DERIVED. THE GIVEN ROWS OF THIS SEAT. 6 by the template 'for every input the law returns true; each argument reads behind the call as it read before'; 0 by the template 'total and deterministic' (their statements: YtckipeopgimenaaGreatTotals.lean).
  GIVEN WITH THE SEED: the statements are not yours to turn. If you find one false, say at which input.
  Laid BY PROGRAM, IN A SANDBOX (cutbox-rows.mjs): the forced cells as the released guide's own fill.sh prints them over the translation 7247c20617b9d6e5… (all of the seat's roots in one cut). By AI agents, Wed Nov 11 2026. No macro, syntax, notation, axiom, sorry.
-/
import Derived.Test.YtckipeopgimenaaGreatChecked
import GoSem.Claim
import GoSem.ClaimJoined
import GoSem.ClaimMapViews
import Derived.JoinedTies
import Derived.KernelRfl
namespace Go.Proofs.YtckipeopgimenaaGreat
/- THE CELL 'sum', in the pinned program and in every row, IS THE sha256 OF THE DUMP (.gsa) THAT YtckipeopgimenaaGreatProg.lean LOADS. Nothing in Lean hashes anything: it is a label: what it is worth is what the hold of that sum in a sandbox is worth. -/
noncomputable def Tryz.pinned : Pinned := { name := "ytckipeopgimenaagreat", sum := "7247c20617b9d6e50347edce939e8ca3ab6528187f504ad891da5691b4f33d0d", checked := Tryz.checked }
namespace Rows
def none {H : Type} : Left H := { results := [], args := [] }

/-- 'laws.FnRunProgramOpen': WHATEVER THE INPUT: true; the input reads as it did. -/
def fnRunProgramOpenSpec : ChangeSpec := { name := "fnRunProgramOpen", fn := fun _ => fun
  | [d] => { results := [.lit (.bool true)], args := [d] }
  | _ => none }
def fnRunProgramOpenRow : OpenClaim := { program := "ytckipeopgimenaagreat", sum := "7247c20617b9d6e50347edce939e8ca3ab6528187f504ad891da5691b4f33d0d", func := "loop.example/faultcleanup/laws.FnRunProgramOpen", spec := "fnRunProgramOpen", unfollowed := true, recurses := true, apart := false }
def FnRunProgramOpenSaid : Prop := fnRunProgramOpenRow.holds Tryz.pinned (OpenSpec.ofChange fnRunProgramOpenSpec)

/-- ITS FALSE NEIGHBOUR: 'it returns false'. Refute it at one input. -/
def fnRunProgramOpenWrong : ChangeSpec := { name := "fnRunProgramOpen", fn := fun _ => fun
  | [d] => { results := [.lit (.bool false)], args := [d] }
  | _ => none }
def FnRunProgramOpenWrongFalsely : Prop := fnRunProgramOpenRow.holds Tryz.pinned (OpenSpec.ofChange fnRunProgramOpenWrong)

/-- 'laws.FnWithExcept': WHATEVER THE INPUT: true; the input reads as it did. -/
def fnWithExceptSpec : ChangeSpec := { name := "fnWithExcept", fn := fun _ => fun
  | [d] => { results := [.lit (.bool true)], args := [d] }
  | _ => none }
def fnWithExceptRow : OpenClaim := { program := "ytckipeopgimenaagreat", sum := "7247c20617b9d6e50347edce939e8ca3ab6528187f504ad891da5691b4f33d0d", func := "loop.example/faultcleanup/laws.FnWithExcept", spec := "fnWithExcept", unfollowed := true, recurses := true, apart := false }
def FnWithExceptSaid : Prop := fnWithExceptRow.holds Tryz.pinned (OpenSpec.ofChange fnWithExceptSpec)

/-- ITS FALSE NEIGHBOUR: 'it returns false'. Refute it at one input. -/
def fnWithExceptWrong : ChangeSpec := { name := "fnWithExcept", fn := fun _ => fun
  | [d] => { results := [.lit (.bool false)], args := [d] }
  | _ => none }
def FnWithExceptWrongFalsely : Prop := fnWithExceptRow.holds Tryz.pinned (OpenSpec.ofChange fnWithExceptWrong)

/-- 'laws.FnWithExceptRoot': WHATEVER THE INPUT: true; the input reads as it did. -/
def fnWithExceptRootSpec : ChangeSpec := { name := "fnWithExceptRoot", fn := fun _ => fun
  | [d] => { results := [.lit (.bool true)], args := [d] }
  | _ => none }
def fnWithExceptRootRow : OpenClaim := { program := "ytckipeopgimenaagreat", sum := "7247c20617b9d6e50347edce939e8ca3ab6528187f504ad891da5691b4f33d0d", func := "loop.example/faultcleanup/laws.FnWithExceptRoot", spec := "fnWithExceptRoot", unfollowed := true, recurses := true, apart := false }
def FnWithExceptRootSaid : Prop := fnWithExceptRootRow.holds Tryz.pinned (OpenSpec.ofChange fnWithExceptRootSpec)

/-- ITS FALSE NEIGHBOUR: 'it returns false'. Refute it at one input. -/
def fnWithExceptRootWrong : ChangeSpec := { name := "fnWithExceptRoot", fn := fun _ => fun
  | [d] => { results := [.lit (.bool false)], args := [d] }
  | _ => none }
def FnWithExceptRootWrongFalsely : Prop := fnWithExceptRootRow.holds Tryz.pinned (OpenSpec.ofChange fnWithExceptRootWrong)

/-- 'laws.FnStartOf': WHATEVER THE INPUT: true; the input reads as it did. -/
def fnStartOfSpec : ChangeSpec := { name := "fnStartOf", fn := fun _ => fun
  | [d] => { results := [.lit (.bool true)], args := [d] }
  | _ => none }
def fnStartOfRow : OpenClaim := { program := "ytckipeopgimenaagreat", sum := "7247c20617b9d6e50347edce939e8ca3ab6528187f504ad891da5691b4f33d0d", func := "loop.example/faultcleanup/laws.FnStartOf", spec := "fnStartOf", unfollowed := true, recurses := true, apart := false }
def FnStartOfSaid : Prop := fnStartOfRow.holds Tryz.pinned (OpenSpec.ofChange fnStartOfSpec)

/-- ITS FALSE NEIGHBOUR: 'it returns false'. Refute it at one input. -/
def fnStartOfWrong : ChangeSpec := { name := "fnStartOf", fn := fun _ => fun
  | [d] => { results := [.lit (.bool false)], args := [d] }
  | _ => none }
def FnStartOfWrongFalsely : Prop := fnStartOfRow.holds Tryz.pinned (OpenSpec.ofChange fnStartOfWrong)

/-- 'laws.FnCloseExits': WHATEVER THE INPUT: true; the input reads as it did. -/
def fnCloseExitsSpec : ChangeSpec := { name := "fnCloseExits", fn := fun _ => fun
  | [d] => { results := [.lit (.bool true)], args := [d] }
  | _ => none }
def fnCloseExitsRow : OpenClaim := { program := "ytckipeopgimenaagreat", sum := "7247c20617b9d6e50347edce939e8ca3ab6528187f504ad891da5691b4f33d0d", func := "loop.example/faultcleanup/laws.FnCloseExits", spec := "fnCloseExits", unfollowed := true, recurses := true, apart := false }
def FnCloseExitsSaid : Prop := fnCloseExitsRow.holds Tryz.pinned (OpenSpec.ofChange fnCloseExitsSpec)

/-- ITS FALSE NEIGHBOUR: 'it returns false'. Refute it at one input. -/
def fnCloseExitsWrong : ChangeSpec := { name := "fnCloseExits", fn := fun _ => fun
  | [d] => { results := [.lit (.bool false)], args := [d] }
  | _ => none }
def FnCloseExitsWrongFalsely : Prop := fnCloseExitsRow.holds Tryz.pinned (OpenSpec.ofChange fnCloseExitsWrong)

/-- 'laws.FnProgramOf': WHATEVER THE INPUT: true; the input reads as it did. -/
def fnProgramOfSpec : ChangeSpec := { name := "fnProgramOf", fn := fun _ => fun
  | [d] => { results := [.lit (.bool true)], args := [d] }
  | _ => none }
def fnProgramOfRow : OpenClaim := { program := "ytckipeopgimenaagreat", sum := "7247c20617b9d6e50347edce939e8ca3ab6528187f504ad891da5691b4f33d0d", func := "loop.example/faultcleanup/laws.FnProgramOf", spec := "fnProgramOf", unfollowed := true, recurses := true, apart := false }
def FnProgramOfSaid : Prop := fnProgramOfRow.holds Tryz.pinned (OpenSpec.ofChange fnProgramOfSpec)

/-- ITS FALSE NEIGHBOUR: 'it returns false'. Refute it at one input. -/
def fnProgramOfWrong : ChangeSpec := { name := "fnProgramOf", fn := fun _ => fun
  | [d] => { results := [.lit (.bool false)], args := [d] }
  | _ => none }
def FnProgramOfWrongFalsely : Prop := fnProgramOfRow.holds Tryz.pinned (OpenSpec.ofChange fnProgramOfWrong)

/- THE SECOND FORM. 'bulk': how many values and letters a reading holds, each counted each time it is reached (what is shared counts as often as it is met; a slice's spare places count too). A statement '..UptoSaid' is the law's where the arguments, and the package variables that the reading takes, are together of bulk at most 1048576: NARROWER than '..Said'. Prove '..Said' where nothing that the law and all that it calls make is longer than what came in: it says more and counts as full. Else prove '..UptoSaid'. A law counts once. -/
mutual
def uptoBulk {H : Type} : DataW H → Nat
  | .lit (.string bytes) => bytes.length + 1
  | .lit _ => 1
  | .nil => 1
  | .ptr d => uptoBulk d + 1
  | .slice elems spare => uptoBulkAll elems + uptoBulkAll spare + 1
  | .agg parts => uptoBulkAll parts + 1
  | .iface _ d => uptoBulk d + 1
  | .map entries => uptoBulkEntries entries + 1
  | .held _ => 1
def uptoBulkAll {H : Type} : List (DataW H) → Nat
  | [] => 0
  | d :: r => uptoBulk d + uptoBulkAll r
def uptoBulkEntries {H : Type} : List (Lit × DataW H) → Nat
  | [] => 0
  | x :: r => uptoBulkEntry x + uptoBulkEntries r
def uptoBulkEntry {H : Type} : Lit × DataW H → Nat
  | (.string bytes, d) => bytes.length + uptoBulk d + 1
  | (_, d) => uptoBulk d + 1
 end
def uptoSmall : (H : Type) → List (DataW H) → Bool := fun _ ds => decide (uptoBulkAll ds ≤ 1048576)
def OpenSpec.upto (s : _root_.Go.ChangeSpec) : _root_.Go.OpenSpec := { _root_.Go.OpenSpec.ofChange s with cond := some uptoSmall }

/-- 'laws.FnRunProgramOpen', WHERE WHAT IT READS IS OF BULK AT MOST 1048576: true; the input reads as it did. -/
def fnRunProgramOpenUptoRow : OpenClaim := { program := "ytckipeopgimenaagreat", sum := "7247c20617b9d6e50347edce939e8ca3ab6528187f504ad891da5691b4f33d0d", func := "loop.example/faultcleanup/laws.FnRunProgramOpen", spec := "fnRunProgramOpen", unfollowed := true, recurses := true, apart := false, narrowed := true }
def FnRunProgramOpenUptoSaid : Prop := fnRunProgramOpenUptoRow.holds Tryz.pinned (OpenSpec.upto fnRunProgramOpenSpec)

/-- 'laws.FnWithExcept', WHERE WHAT IT READS IS OF BULK AT MOST 1048576: true; the input reads as it did. -/
def fnWithExceptUptoRow : OpenClaim := { program := "ytckipeopgimenaagreat", sum := "7247c20617b9d6e50347edce939e8ca3ab6528187f504ad891da5691b4f33d0d", func := "loop.example/faultcleanup/laws.FnWithExcept", spec := "fnWithExcept", unfollowed := true, recurses := true, apart := false, narrowed := true }
def FnWithExceptUptoSaid : Prop := fnWithExceptUptoRow.holds Tryz.pinned (OpenSpec.upto fnWithExceptSpec)

/-- 'laws.FnWithExceptRoot', WHERE WHAT IT READS IS OF BULK AT MOST 1048576: true; the input reads as it did. -/
def fnWithExceptRootUptoRow : OpenClaim := { program := "ytckipeopgimenaagreat", sum := "7247c20617b9d6e50347edce939e8ca3ab6528187f504ad891da5691b4f33d0d", func := "loop.example/faultcleanup/laws.FnWithExceptRoot", spec := "fnWithExceptRoot", unfollowed := true, recurses := true, apart := false, narrowed := true }
def FnWithExceptRootUptoSaid : Prop := fnWithExceptRootUptoRow.holds Tryz.pinned (OpenSpec.upto fnWithExceptRootSpec)

/-- 'laws.FnStartOf', WHERE WHAT IT READS IS OF BULK AT MOST 1048576: true; the input reads as it did. -/
def fnStartOfUptoRow : OpenClaim := { program := "ytckipeopgimenaagreat", sum := "7247c20617b9d6e50347edce939e8ca3ab6528187f504ad891da5691b4f33d0d", func := "loop.example/faultcleanup/laws.FnStartOf", spec := "fnStartOf", unfollowed := true, recurses := true, apart := false, narrowed := true }
def FnStartOfUptoSaid : Prop := fnStartOfUptoRow.holds Tryz.pinned (OpenSpec.upto fnStartOfSpec)

/-- 'laws.FnCloseExits', WHERE WHAT IT READS IS OF BULK AT MOST 1048576: true; the input reads as it did. -/
def fnCloseExitsUptoRow : OpenClaim := { program := "ytckipeopgimenaagreat", sum := "7247c20617b9d6e50347edce939e8ca3ab6528187f504ad891da5691b4f33d0d", func := "loop.example/faultcleanup/laws.FnCloseExits", spec := "fnCloseExits", unfollowed := true, recurses := true, apart := false, narrowed := true }
def FnCloseExitsUptoSaid : Prop := fnCloseExitsUptoRow.holds Tryz.pinned (OpenSpec.upto fnCloseExitsSpec)

/-- 'laws.FnProgramOf', WHERE WHAT IT READS IS OF BULK AT MOST 1048576: true; the input reads as it did. -/
def fnProgramOfUptoRow : OpenClaim := { program := "ytckipeopgimenaagreat", sum := "7247c20617b9d6e50347edce939e8ca3ab6528187f504ad891da5691b4f33d0d", func := "loop.example/faultcleanup/laws.FnProgramOf", spec := "fnProgramOf", unfollowed := true, recurses := true, apart := false, narrowed := true }
def FnProgramOfUptoSaid : Prop := fnProgramOfUptoRow.holds Tryz.pinned (OpenSpec.upto fnProgramOfSpec)

end Rows
end Go.Proofs.YtckipeopgimenaaGreat
