/-
  No cell of these rows narrows 'for every input' (looked for: loops, veiled, ifaces, maps, wideKeys, modest, calm, conditions, laid).
  DERIVED. THE GIVEN ROWS OF THIS SEAT. 5 by the template 'for every input the law returns true; each argument reads behind the call as it read before'; 0 by the template 'total and deterministic' (their statements: YtoacjmckefahcaaGreatTotals.lean).
  GIVEN WITH THE SEED: the statements are not yours to turn. If you find one false, say at which input.
  Laid BY PROGRAM, IN A SANDBOX (cutbox-rows.mjs): the forced cells as the released guide's own fill.sh prints them over the translation b848a5bb1a762c1a… (all of the seat's roots in one cut). By AI agents, Wed Nov 11 2026. No macro, syntax, notation, axiom, sorry.
-/
import Derived.Test.YtoacjmckefahcaaGreatChecked
import GoSem.Claim
import GoSem.ClaimJoined
import GoSem.ClaimMapViews
import Derived.JoinedTies
import Derived.KernelRfl
namespace Go.Proofs.YtoacjmckefahcaaGreat
/- THE CELL 'sum', in the pinned program and in every row, IS THE sha256 OF THE DUMP (.gsa) THAT YtoacjmckefahcaaGreatProg.lean LOADS. Nothing in Lean hashes anything: it is a label: what it is worth is what the hold of that sum in a sandbox is worth. -/
noncomputable def Tryz.pinned : Pinned := { name := "ytoacjmckefahcaagreat", sum := "b848a5bb1a762c1a9745cd84aa963bd2be781aaa2760ddddb6d5492d7ccc78fc", checked := Tryz.checked }
namespace Rows
def none {H : Type} : Left H := { results := [], args := [] }

/-- 'laws.FnDropDead': WHATEVER THE INPUT: true; the input reads as it did. -/
def fnDropDeadSpec : ChangeSpec := { name := "fnDropDead", fn := fun _ => fun
  | [d] => { results := [.lit (.bool true)], args := [d] }
  | _ => none }
def fnDropDeadRow : OpenClaim := { program := "ytoacjmckefahcaagreat", sum := "b848a5bb1a762c1a9745cd84aa963bd2be781aaa2760ddddb6d5492d7ccc78fc", func := "loop.example/faultcleanup/laws.FnDropDead", spec := "fnDropDead", unfollowed := true, recurses := true, apart := false }
def FnDropDeadSaid : Prop := fnDropDeadRow.holds Tryz.pinned (OpenSpec.ofChange fnDropDeadSpec)

/-- ITS FALSE NEIGHBOUR: 'it returns false'. Refute it at one input. -/
def fnDropDeadWrong : ChangeSpec := { name := "fnDropDead", fn := fun _ => fun
  | [d] => { results := [.lit (.bool false)], args := [d] }
  | _ => none }
def FnDropDeadWrongFalsely : Prop := fnDropDeadRow.holds Tryz.pinned (OpenSpec.ofChange fnDropDeadWrong)

/-- 'laws.FnPruneLines': WHATEVER THE INPUT: true; the input reads as it did. -/
def fnPruneLinesSpec : ChangeSpec := { name := "fnPruneLines", fn := fun _ => fun
  | [d] => { results := [.lit (.bool true)], args := [d] }
  | _ => none }
def fnPruneLinesRow : OpenClaim := { program := "ytoacjmckefahcaagreat", sum := "b848a5bb1a762c1a9745cd84aa963bd2be781aaa2760ddddb6d5492d7ccc78fc", func := "loop.example/faultcleanup/laws.FnPruneLines", spec := "fnPruneLines", unfollowed := true, recurses := true, apart := false }
def FnPruneLinesSaid : Prop := fnPruneLinesRow.holds Tryz.pinned (OpenSpec.ofChange fnPruneLinesSpec)

/-- ITS FALSE NEIGHBOUR: 'it returns false'. Refute it at one input. -/
def fnPruneLinesWrong : ChangeSpec := { name := "fnPruneLines", fn := fun _ => fun
  | [d] => { results := [.lit (.bool false)], args := [d] }
  | _ => none }
def FnPruneLinesWrongFalsely : Prop := fnPruneLinesRow.holds Tryz.pinned (OpenSpec.ofChange fnPruneLinesWrong)

/-- 'laws.FnDeadLines': WHATEVER THE INPUT: true; the input reads as it did. -/
def fnDeadLinesSpec : ChangeSpec := { name := "fnDeadLines", fn := fun _ => fun
  | [d] => { results := [.lit (.bool true)], args := [d] }
  | _ => none }
def fnDeadLinesRow : OpenClaim := { program := "ytoacjmckefahcaagreat", sum := "b848a5bb1a762c1a9745cd84aa963bd2be781aaa2760ddddb6d5492d7ccc78fc", func := "loop.example/faultcleanup/laws.FnDeadLines", spec := "fnDeadLines", unfollowed := true, recurses := true, apart := false }
def FnDeadLinesSaid : Prop := fnDeadLinesRow.holds Tryz.pinned (OpenSpec.ofChange fnDeadLinesSpec)

/-- ITS FALSE NEIGHBOUR: 'it returns false'. Refute it at one input. -/
def fnDeadLinesWrong : ChangeSpec := { name := "fnDeadLines", fn := fun _ => fun
  | [d] => { results := [.lit (.bool false)], args := [d] }
  | _ => none }
def FnDeadLinesWrongFalsely : Prop := fnDeadLinesRow.holds Tryz.pinned (OpenSpec.ofChange fnDeadLinesWrong)

/-- 'laws.FnFirstJump': WHATEVER THE INPUT: true; the input reads as it did. -/
def fnFirstJumpSpec : ChangeSpec := { name := "fnFirstJump", fn := fun _ => fun
  | [d] => { results := [.lit (.bool true)], args := [d] }
  | _ => none }
def fnFirstJumpRow : OpenClaim := { program := "ytoacjmckefahcaagreat", sum := "b848a5bb1a762c1a9745cd84aa963bd2be781aaa2760ddddb6d5492d7ccc78fc", func := "loop.example/faultcleanup/laws.FnFirstJump", spec := "fnFirstJump", unfollowed := true, recurses := true, apart := false }
def FnFirstJumpSaid : Prop := fnFirstJumpRow.holds Tryz.pinned (OpenSpec.ofChange fnFirstJumpSpec)

/-- ITS FALSE NEIGHBOUR: 'it returns false'. Refute it at one input. -/
def fnFirstJumpWrong : ChangeSpec := { name := "fnFirstJump", fn := fun _ => fun
  | [d] => { results := [.lit (.bool false)], args := [d] }
  | _ => none }
def FnFirstJumpWrongFalsely : Prop := fnFirstJumpRow.holds Tryz.pinned (OpenSpec.ofChange fnFirstJumpWrong)

/-- 'laws.FnFirstJumpRaise': WHATEVER THE INPUT: true; the input reads as it did. -/
def fnFirstJumpRaiseSpec : ChangeSpec := { name := "fnFirstJumpRaise", fn := fun _ => fun
  | [d] => { results := [.lit (.bool true)], args := [d] }
  | _ => none }
def fnFirstJumpRaiseRow : OpenClaim := { program := "ytoacjmckefahcaagreat", sum := "b848a5bb1a762c1a9745cd84aa963bd2be781aaa2760ddddb6d5492d7ccc78fc", func := "loop.example/faultcleanup/laws.FnFirstJumpRaise", spec := "fnFirstJumpRaise", unfollowed := true, recurses := true, apart := false }
def FnFirstJumpRaiseSaid : Prop := fnFirstJumpRaiseRow.holds Tryz.pinned (OpenSpec.ofChange fnFirstJumpRaiseSpec)

/-- ITS FALSE NEIGHBOUR: 'it returns false'. Refute it at one input. -/
def fnFirstJumpRaiseWrong : ChangeSpec := { name := "fnFirstJumpRaise", fn := fun _ => fun
  | [d] => { results := [.lit (.bool false)], args := [d] }
  | _ => none }
def FnFirstJumpRaiseWrongFalsely : Prop := fnFirstJumpRaiseRow.holds Tryz.pinned (OpenSpec.ofChange fnFirstJumpRaiseWrong)

/- THE SECOND FORM. 'bulk': how many values and letters a reading holds, each counted each time it is reached (what is shared counts as often as it is met; a slice's spare places count too). A statement '..UptoSaid' is the law's where the arguments, and the package variables that the reading takes, are together of bulk at most 1048576: NARROWER than '..Said'. Prove '..Said' where nothing that the law and all that it calls make is longer than what came in: it says more and counts as full. Else prove '..UptoSaid'. A law counts once. -/
mutual
def uptoBulk {H : Type} : DataW H → Nat
  | .lit (.string bytes) => bytes.length + 1
  | .lit _ => 1
  | .nil => 1
  | .ptr d => uptoBulk d + 1
  | .slice elems spare => uptoBulkAll elems + uptoBulkAll spare + 1
  | .agg parts => uptoBulkAll parts + 1
  | .iface _ d => uptoBulk d + 1
  | .map entries => uptoBulkEntries entries + 1
  | .held _ => 1
def uptoBulkAll {H : Type} : List (DataW H) → Nat
  | [] => 0
  | d :: r => uptoBulk d + uptoBulkAll r
def uptoBulkEntries {H : Type} : List (Lit × DataW H) → Nat
  | [] => 0
  | x :: r => uptoBulkEntry x + uptoBulkEntries r
def uptoBulkEntry {H : Type} : Lit × DataW H → Nat
  | (.string bytes, d) => bytes.length + uptoBulk d + 1
  | (_, d) => uptoBulk d + 1
 end
def uptoSmall : (H : Type) → List (DataW H) → Bool := fun _ ds => decide (uptoBulkAll ds ≤ 1048576)
def OpenSpec.upto (s : _root_.Go.ChangeSpec) : _root_.Go.OpenSpec := { _root_.Go.OpenSpec.ofChange s with cond := some uptoSmall }

/-- 'laws.FnDropDead', WHERE WHAT IT READS IS OF BULK AT MOST 1048576: true; the input reads as it did. -/
def fnDropDeadUptoRow : OpenClaim := { program := "ytoacjmckefahcaagreat", sum := "b848a5bb1a762c1a9745cd84aa963bd2be781aaa2760ddddb6d5492d7ccc78fc", func := "loop.example/faultcleanup/laws.FnDropDead", spec := "fnDropDead", unfollowed := true, recurses := true, apart := false, narrowed := true }
def FnDropDeadUptoSaid : Prop := fnDropDeadUptoRow.holds Tryz.pinned (OpenSpec.upto fnDropDeadSpec)

/-- 'laws.FnPruneLines', WHERE WHAT IT READS IS OF BULK AT MOST 1048576: true; the input reads as it did. -/
def fnPruneLinesUptoRow : OpenClaim := { program := "ytoacjmckefahcaagreat", sum := "b848a5bb1a762c1a9745cd84aa963bd2be781aaa2760ddddb6d5492d7ccc78fc", func := "loop.example/faultcleanup/laws.FnPruneLines", spec := "fnPruneLines", unfollowed := true, recurses := true, apart := false, narrowed := true }
def FnPruneLinesUptoSaid : Prop := fnPruneLinesUptoRow.holds Tryz.pinned (OpenSpec.upto fnPruneLinesSpec)

/-- 'laws.FnDeadLines', WHERE WHAT IT READS IS OF BULK AT MOST 1048576: true; the input reads as it did. -/
def fnDeadLinesUptoRow : OpenClaim := { program := "ytoacjmckefahcaagreat", sum := "b848a5bb1a762c1a9745cd84aa963bd2be781aaa2760ddddb6d5492d7ccc78fc", func := "loop.example/faultcleanup/laws.FnDeadLines", spec := "fnDeadLines", unfollowed := true, recurses := true, apart := false, narrowed := true }
def FnDeadLinesUptoSaid : Prop := fnDeadLinesUptoRow.holds Tryz.pinned (OpenSpec.upto fnDeadLinesSpec)

/-- 'laws.FnFirstJump', WHERE WHAT IT READS IS OF BULK AT MOST 1048576: true; the input reads as it did. -/
def fnFirstJumpUptoRow : OpenClaim := { program := "ytoacjmckefahcaagreat", sum := "b848a5bb1a762c1a9745cd84aa963bd2be781aaa2760ddddb6d5492d7ccc78fc", func := "loop.example/faultcleanup/laws.FnFirstJump", spec := "fnFirstJump", unfollowed := true, recurses := true, apart := false, narrowed := true }
def FnFirstJumpUptoSaid : Prop := fnFirstJumpUptoRow.holds Tryz.pinned (OpenSpec.upto fnFirstJumpSpec)

/-- 'laws.FnFirstJumpRaise', WHERE WHAT IT READS IS OF BULK AT MOST 1048576: true; the input reads as it did. -/
def fnFirstJumpRaiseUptoRow : OpenClaim := { program := "ytoacjmckefahcaagreat", sum := "b848a5bb1a762c1a9745cd84aa963bd2be781aaa2760ddddb6d5492d7ccc78fc", func := "loop.example/faultcleanup/laws.FnFirstJumpRaise", spec := "fnFirstJumpRaise", unfollowed := true, recurses := true, apart := false, narrowed := true }
def FnFirstJumpRaiseUptoSaid : Prop := fnFirstJumpRaiseUptoRow.holds Tryz.pinned (OpenSpec.upto fnFirstJumpRaiseSpec)

end Rows
end Go.Proofs.YtoacjmckefahcaaGreat
