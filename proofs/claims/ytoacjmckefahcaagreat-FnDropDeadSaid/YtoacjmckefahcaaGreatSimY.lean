/- The calculus: what is written no more behind a piece of code. No condition. -/
import Derived.Test.YtoacjmckefahcaaGreatSimX
set_option linter.unusedVariables false
set_option linter.unusedSimpArgs false
namespace Go.Sim
open Go

/-- Behind the code some of our blocks may be let go. -/
theorem sim_endfrz {r0 : Option Nat} {P : Program} {n : Nat} {tm : Tm} {H : AHeap} {K : APost} {c : Code} (h : SimAt r0 P n c tm H (fun e tm H => ∃ l, frz l tm H (K e))) : SimAt r0 P n c tm H K := by
  intro a w hs
  refine wpIn_mono (h a w hs) ?_
  rintro e a' w' ⟨tm', H', ⟨l, k0⟩, k1, k2, k3, k4⟩
  obtain ⟨tm'', H'', g1, g2, g3⟩ := frz_sound l tm' H' k1 k0
  exact ⟨tm'', H'', g1, g2, k2, fun b hb => k3 b (g3.dom hb), k4⟩
theorem grow_end {α : Type} {f : α → List AV} {sz : Nat} {ty : TypeId} {H0 H : AHeap} {tm : Tm} (t : Nat) {l : List α} {K : Tm → AHeap → Prop} (hg : Grow f sz ty H0 H (tm t) l) (k : ∀ cl, K (upd tm t (.vsl (l.map f) cl)) H0) : ∃ L, frz L tm H K := by
  rcases hg with ⟨rfl, h1, rfl⟩ | ⟨b, cl', hb0, h1, rfl⟩
  · refine ⟨[], ?_⟩
    have e : upd tm t (.vsl [] true) = tm := by
      funext u; unfold upd; split
      · rename_i e; rw [e, h1]
      · rfl
    have k' := k true
    simp only [List.map_nil] at k'
    rw [e] at k'
    exact k'
  · refine ⟨[t], ?_⟩
    have k' := k cl'
    simp only [frz, h1, AHeap.set_self, set_del hb0, List.drop_zero, Nat.zero_add, List.length_map, Nat.le_refl, true_and]
    rw [List.take_of_length_le (by simp)]
    exact k'
/-- A call that is told less: blocks of ours that nobody writes any more are let go. -/
theorem acalls_drop {P : Program} {f : FuncId} {args : List AV} {H K : AHeap} {Q : AV → AHeap → Prop} (args' : List AV) (hle : K.le H) (hz : FzL H K args args') (h : ACalls P f args' K Q) : ACalls P f args H Q := by
  refine ⟨h.1, fun w vs hh hv => ?_⟩
  have hv' : RelL K.dom w args' vs.toList := by
    refine ⟨by rw [hv.1, hz.get.1], fun i c' v hc hu => ?_⟩
    have hi : i < args.length := by
      rw [← hz.get.1]
      rcases Nat.lt_or_ge i args'.length with q | q
      · exact q
      · rw [List.getElem?_eq_none q] at hc; cases hc
    exact (hz.get.2 i args[i] c' (by simp [hi]) hc).rel hh hle (hv.2 i args[i] v (by simp [hi]) hu)
  refine (h.2 w vs (hh.sub hle) hv').mono ?_
  rintro e w' ⟨v, r, H', rfl, hq, h1, h2, h3, h4⟩
  exact ⟨v, r, H', rfl, hq, h1, h2, ⟨h3.os, h3.tape, h3.output, h3.size, fun b hb ho => h3.keep b hb (fun q => ho (hle.dom q)), h3.shape⟩, fun b hb => (h4 b hb).imp_left hle.dom⟩
end Go.Sim
