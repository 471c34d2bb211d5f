/- The calculus: what is written no more behind a piece of code. No condition. -/
import Derived.Test.YtoacjmckefahcaaGreatSimX
set_option linter.unusedVariables false
set_option linter.unusedSimpArgs false
namespace Go.Sim
open Go

/-- Behind the code some of our blocks may be let go. -/
theorem sim_endfrz {r0 : Option Nat} {P : Program} {n : Nat} {tm : Tm} {H : AHeap} {K : APost} {c : Code} (h : SimAt r0 P n c tm H (fun e tm H => ∃ l, frz l tm H (K e))) : SimAt r0 P n c tm H K := by
  intro a w hs
  refine wpIn_mono (h a w hs) ?_
  rintro e a' w' ⟨tm', H', ⟨l, k0⟩, k1, k2, k3, k4⟩
  obtain ⟨tm'', H'', g1, g2, g3⟩ := frz_sound l tm' H' k1 k0
  exact ⟨tm'', H'', g1, g2, k2, fun b hb => k3 b (g3.dom hb), k4⟩
theorem grow_end {α : Type} {f : α → List AV} {sz : Nat} {ty : TypeId} {H0 H : AHeap} {tm : Tm} (t : Nat) {l : List α} {K : Tm → AHeap → Prop} (hg : Grow f sz ty H0 H (tm t) l) (k : ∀ cl, K (upd tm t (.vsl (l.map f) cl)) H0) : ∃ L, frz L tm H K := by
  rcases hg with ⟨rfl, h1, rfl⟩ | ⟨b, cl', hb0, h1, rfl⟩
  · refine ⟨[], ?_⟩
    have e : upd tm t (.vsl [] true) = tm := by
      funext u; unfold upd; split
      · rename_i e; rw [e, h1]
      · rfl
    have k' := k true
    simp only [List.map_nil] at k'
    rw [e] at k'
    exact k'
  · refine ⟨[t], ?_⟩
    have k' := k cl'
    simp only [frz, h1, AHeap.set_self, set_del hb0, List.drop_zero, Nat.zero_add, List.length_map, Nat.le_refl, true_and]
    rw [List.take_of_length_le (by simp)]
    exact k'
end Go.Sim
