/- The calculus: a range over a function: the loop's statement, and slices.Backward. No condition. -/
import Derived.Test.YtjpfgafdjlkblaaGreatSimT
set_option linter.unusedVariables false
set_option linter.unusedSimpArgs false
namespace Go.Sim
open Go
section
variable {P : Program} {n : Nat}

theorem StRel.ec {s : ASt} {a : Act} {w w' : World} (h : StRel s a w) (hk : Ec w w') (hd : DefOk s.H.dom a.defers w') : StRel s a w' :=
  ⟨hd, h.n, fun t => (h.tm t).ec hk, h.heap.ec hk⟩

/-- The rounds' own temporaries. -/
def putL (tm : Tm) : List (Nat × AV) → Tm
  | [] => tm
  | (p, x) :: l => putL (upd tm p x) l

/-- What stands behind a round: off its end the next one; by a jump, what the jump finds. -/
def rndQ (I : AHeap → Prop) (X : Exit → AHeap → Prop) : APost
  | .normal, _, H => I H
  | .ret, _, H => X .ret H
  | .exit id, _, H => X (.exit id) H
  | _, _, _ => False

end
end Go.Sim
