/- The calculus: what is written no more behind a piece of code. No condition. -/
import Derived.Test.YtckipeopgimenaaGreatSimX
set_option linter.unusedVariables false
set_option linter.unusedSimpArgs false
namespace Go.Sim
open Go

/-- A call that is told less: blocks of ours that nobody writes any more are let go. -/
theorem acalls_drop {P : Program} {f : FuncId} {args : List AV} {H K : AHeap} {Q : AV → AHeap → Prop} (args' : List AV) (hle : K.le H) (hz : FzL H K args args') (h : ACalls P f args' K Q) : ACalls P f args H Q := by
  refine ⟨h.1, fun w vs hh hv => ?_⟩
  have hv' : RelL K.dom w args' vs.toList := by
    refine ⟨by rw [hv.1, hz.get.1], fun i c' v hc hu => ?_⟩
    have hi : i < args.length := by
      rw [← hz.get.1]
      rcases Nat.lt_or_ge i args'.length with q | q
      · exact q
      · rw [List.getElem?_eq_none q] at hc; cases hc
    exact (hz.get.2 i args[i] c' (by simp [hi]) hc).rel hh hle (hv.2 i args[i] v (by simp [hi]) hu)
  refine (h.2 w vs (hh.sub hle) hv').mono ?_
  rintro e w' ⟨v, r, H', rfl, hq, h1, h2, h3, h4⟩
  exact ⟨v, r, H', rfl, hq, h1, h2, ⟨h3.os, h3.tape, h3.output, h3.size, fun b hb ho => h3.keep b hb (fun q => ho (hle.dom q)), h3.shape⟩, fun b hb => (h4 b hb).imp_left hle.dom⟩
end Go.Sim
