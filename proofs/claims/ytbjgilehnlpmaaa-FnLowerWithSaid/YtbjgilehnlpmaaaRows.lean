/-
  No cell of these rows narrows 'for every input' (looked for: loops, veiled, ifaces, maps, wideKeys, modest, calm, conditions, laid).
  DERIVED. THE GIVEN ROWS OF THIS SEAT. 3 by the template 'for every input the law returns true; each argument reads behind the call as it read before'; 0 by the template 'total and deterministic' (their statements: YtbjgilehnlpmaaaTotals.lean).
  GIVEN WITH THE SEED: the statements are not yours to turn. If you find one false, say at which input.
  Laid BY PROGRAM, IN A SANDBOX (cutbox-rows.mjs): the forced cells as the released guide's own fill.sh prints them over the translation 33737eaeb281116a… (all of the seat's roots in one cut). By AI agents, Wed Nov 11 2026. No macro, syntax, notation, axiom, sorry.
-/
import Derived.Test.YtbjgilehnlpmaaaChecked
import GoSem.Claim
import GoSem.ClaimJoined
import GoSem.ClaimMapViews
import Derived.JoinedTies
import Derived.KernelRfl
namespace Go.Proofs.Ytbjgilehnlpmaaa
/- THE CELL 'sum', in the pinned program and in every row, IS THE sha256 OF THE DUMP (.gsa) THAT YtbjgilehnlpmaaaProg.lean LOADS. Nothing in Lean hashes anything: it is a label: what it is worth is what the hold of that sum in a sandbox is worth. -/
noncomputable def Try.pinned : Pinned := { name := "ytbjgilehnlpmaaa", sum := "33737eaeb281116ab52faa392c48e27d9fdbd37824d35c5fd268046ebae59bcf", checked := Try.checked }
namespace Rows
def none {H : Type} : Left H := { results := [], args := [] }

/-- 'laws.FnTopLower': WHATEVER THE INPUT: true; the input reads as it did. -/
def fnTopLowerSpec : ChangeSpec := { name := "fnTopLower", fn := fun _ => fun
  | [d1, d2] => { results := [.lit (.bool true)], args := [d1, d2] }
  | _ => none }
def fnTopLowerRow : OpenClaim := { program := "ytbjgilehnlpmaaa", sum := "33737eaeb281116ab52faa392c48e27d9fdbd37824d35c5fd268046ebae59bcf", func := "loop.example/faultcleanup/laws.FnTopLower", spec := "fnTopLower", unfollowed := true, recurses := true, apart := false }
def FnTopLowerSaid : Prop := fnTopLowerRow.holds Try.pinned (OpenSpec.ofChange fnTopLowerSpec)

/-- ITS FALSE NEIGHBOUR: 'it returns false'. Refute it at one input. -/
def fnTopLowerWrong : ChangeSpec := { name := "fnTopLower", fn := fun _ => fun
  | [d1, d2] => { results := [.lit (.bool false)], args := [d1, d2] }
  | _ => none }
def FnTopLowerWrongFalsely : Prop := fnTopLowerRow.holds Try.pinned (OpenSpec.ofChange fnTopLowerWrong)

/-- 'laws.FnTopDead': WHATEVER THE INPUT: true; the input reads as it did. -/
def fnTopDeadSpec : ChangeSpec := { name := "fnTopDead", fn := fun _ => fun
  | [d1, d2] => { results := [.lit (.bool true)], args := [d1, d2] }
  | _ => none }
def fnTopDeadRow : OpenClaim := { program := "ytbjgilehnlpmaaa", sum := "33737eaeb281116ab52faa392c48e27d9fdbd37824d35c5fd268046ebae59bcf", func := "loop.example/faultcleanup/laws.FnTopDead", spec := "fnTopDead", unfollowed := true, recurses := true, apart := false }
def FnTopDeadSaid : Prop := fnTopDeadRow.holds Try.pinned (OpenSpec.ofChange fnTopDeadSpec)

/-- ITS FALSE NEIGHBOUR: 'it returns false'. Refute it at one input. -/
def fnTopDeadWrong : ChangeSpec := { name := "fnTopDead", fn := fun _ => fun
  | [d1, d2] => { results := [.lit (.bool false)], args := [d1, d2] }
  | _ => none }
def FnTopDeadWrongFalsely : Prop := fnTopDeadRow.holds Try.pinned (OpenSpec.ofChange fnTopDeadWrong)

/-- 'laws.FnLowerWith': WHATEVER THE INPUT: true; the input reads as it did. -/
def fnLowerWithSpec : ChangeSpec := { name := "fnLowerWith", fn := fun _ => fun
  | [d] => { results := [.lit (.bool true)], args := [d] }
  | _ => none }
def fnLowerWithRow : OpenClaim := { program := "ytbjgilehnlpmaaa", sum := "33737eaeb281116ab52faa392c48e27d9fdbd37824d35c5fd268046ebae59bcf", func := "loop.example/faultcleanup/laws.FnLowerWith", spec := "fnLowerWith", unfollowed := true, recurses := true, apart := false }
def FnLowerWithSaid : Prop := fnLowerWithRow.holds Try.pinned (OpenSpec.ofChange fnLowerWithSpec)

/-- ITS FALSE NEIGHBOUR: 'it returns false'. Refute it at one input. -/
def fnLowerWithWrong : ChangeSpec := { name := "fnLowerWith", fn := fun _ => fun
  | [d] => { results := [.lit (.bool false)], args := [d] }
  | _ => none }
def FnLowerWithWrongFalsely : Prop := fnLowerWithRow.holds Try.pinned (OpenSpec.ofChange fnLowerWithWrong)

/- THE SECOND FORM. 'bulk': how many values and letters a reading holds, each counted each time it is reached (what is shared counts as often as it is met; a slice's spare places count too). A statement '..UptoSaid' is the law's where the arguments, and the package variables that the reading takes, are together of bulk at most 1048576: NARROWER than '..Said'. Prove '..Said' where nothing that the law and all that it calls make is longer than what came in: it says more and counts as full. Else prove '..UptoSaid'. A law counts once. -/
mutual
def uptoBulk {H : Type} : DataW H → Nat
  | .lit (.string bytes) => bytes.length + 1
  | .lit _ => 1
  | .nil => 1
  | .ptr d => uptoBulk d + 1
  | .slice elems spare => uptoBulkAll elems + uptoBulkAll spare + 1
  | .agg parts => uptoBulkAll parts + 1
  | .iface _ d => uptoBulk d + 1
  | .map entries => uptoBulkEntries entries + 1
  | .held _ => 1
def uptoBulkAll {H : Type} : List (DataW H) → Nat
  | [] => 0
  | d :: r => uptoBulk d + uptoBulkAll r
def uptoBulkEntries {H : Type} : List (Lit × DataW H) → Nat
  | [] => 0
  | x :: r => uptoBulkEntry x + uptoBulkEntries r
def uptoBulkEntry {H : Type} : Lit × DataW H → Nat
  | (.string bytes, d) => bytes.length + uptoBulk d + 1
  | (_, d) => uptoBulk d + 1
 end
def uptoSmall : (H : Type) → List (DataW H) → Bool := fun _ ds => decide (uptoBulkAll ds ≤ 1048576)
def OpenSpec.upto (s : _root_.Go.ChangeSpec) : _root_.Go.OpenSpec := { _root_.Go.OpenSpec.ofChange s with cond := some uptoSmall }

/-- 'laws.FnTopLower', WHERE WHAT IT READS IS OF BULK AT MOST 1048576: true; the input reads as it did. -/
def fnTopLowerUptoRow : OpenClaim := { program := "ytbjgilehnlpmaaa", sum := "33737eaeb281116ab52faa392c48e27d9fdbd37824d35c5fd268046ebae59bcf", func := "loop.example/faultcleanup/laws.FnTopLower", spec := "fnTopLower", unfollowed := true, recurses := true, apart := false, narrowed := true }
def FnTopLowerUptoSaid : Prop := fnTopLowerUptoRow.holds Try.pinned (OpenSpec.upto fnTopLowerSpec)

/-- 'laws.FnTopDead', WHERE WHAT IT READS IS OF BULK AT MOST 1048576: true; the input reads as it did. -/
def fnTopDeadUptoRow : OpenClaim := { program := "ytbjgilehnlpmaaa", sum := "33737eaeb281116ab52faa392c48e27d9fdbd37824d35c5fd268046ebae59bcf", func := "loop.example/faultcleanup/laws.FnTopDead", spec := "fnTopDead", unfollowed := true, recurses := true, apart := false, narrowed := true }
def FnTopDeadUptoSaid : Prop := fnTopDeadUptoRow.holds Try.pinned (OpenSpec.upto fnTopDeadSpec)

/-- 'laws.FnLowerWith', WHERE WHAT IT READS IS OF BULK AT MOST 1048576: true; the input reads as it did. -/
def fnLowerWithUptoRow : OpenClaim := { program := "ytbjgilehnlpmaaa", sum := "33737eaeb281116ab52faa392c48e27d9fdbd37824d35c5fd268046ebae59bcf", func := "loop.example/faultcleanup/laws.FnLowerWith", spec := "fnLowerWith", unfollowed := true, recurses := true, apart := false, narrowed := true }
def FnLowerWithUptoSaid : Prop := fnLowerWithUptoRow.holds Try.pinned (OpenSpec.upto fnLowerWithSpec)

end Rows
end Go.Proofs.Ytbjgilehnlpmaaa
