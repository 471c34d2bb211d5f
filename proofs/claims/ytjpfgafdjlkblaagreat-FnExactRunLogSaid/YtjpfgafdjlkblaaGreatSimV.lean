/- The calculus: the iterator of slices.Backward. No condition. -/
import Derived.Test.YtjpfgafdjlkblaaGreatSimU
set_option linter.unusedVariables false
set_option linter.unusedSimpArgs false
namespace Go.Sim
open Go

theorem asInt {O : Nat → Prop} {w : World} {i : Int} {v : Value} (h : Rel O w (I i) v) : v = .int .i64 i := by cases h; rfl
theorem asBool {O : Nat → Prop} {w : World} {b : Bool} {v : Value} (h : Rel O w (B b) v) : v = .bool b := by cases h; rfl
section
variable {P : Program} {n : Nat} {fz : Nat → List Nat} {im : Nat → Bool} {tm : Tm} {H : AHeap} {K : APost} {I' : AHeap → Prop} {X : Exit → AHeap → Prop}
theorem rq_normal : rndQ I' X .normal tm H = I' H := rfl
theorem rq_ret : rndQ I' X .ret tm H = X .ret H := rfl
theorem rq_exit {id : Nat} : rndQ I' X (.exit id) tm H = X (.exit id) H := rfl
theorem aw_range {g : Operand} {ps : Array Nat} {as b : Code} : awp P n fz im (.rangeFunc g ps as b) tm H K = SimT P n (.rangeFunc g ps as b) tm H K .mk := rfl
theorem putL_nil : putL tm [] = tm := rfl
theorem putL_cons {p : Nat} {x : AV} {l : List (Nat × AV)} : putL tm ((p, x) :: l) = putL (upd tm p x) l := rfl
end
end Go.Sim
