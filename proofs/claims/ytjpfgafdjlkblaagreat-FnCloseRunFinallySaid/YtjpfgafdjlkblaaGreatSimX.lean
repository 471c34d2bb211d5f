/- The calculus: a reader of lent memory that makes blocks of its own. No condition. -/
import Derived.Test.YtjpfgafdjlkblaaGreatSimW
namespace Go.Sim
open Go

inductive NoV : AV → Prop where
  | lit (v : Value) : NoV (.lit v)
  | ptr (b sz i j : Nat) : NoV (.ptr b sz i j)
  | sl (b sz off len : Nat) (cl : Bool) : NoV (.sl b sz off len cl)
  | agg (cs : List AV) : (∀ c ∈ cs, NoV c) → NoV (.agg cs)
  | tup (cs : List AV) : (∀ c ∈ cs, NoV c) → NoV (.tup cs)
  | nil : NoV (.vsl [] true)
theorem NoV.rel {a : AV} (h : NoV a) {O O' : Nat → Prop} {w : World} : ∀ {v : Value}, Rel O w a v → Rel O' w a v := by
  induction h with
  | lit v => intro u hr; cases hr; exact .lit _
  | ptr b sz i j => intro u hr; cases hr; exact .ptr _ _ _ _ ‹_›
  | sl b sz off len cl => intro u hr; cases hr with | sl _ _ _ _ cap _ c t fr e1 e2 e3 e4 e5 e6 => exact .sl _ _ _ _ cap _ c t fr e1 e2 e3 e4 e5 e6
  | agg cs _ ih => intro u hr; cases hr with | agg _ vs e1 e2 e3 => exact .agg cs vs e1 e2 fun i c v hc hv => ih c (List.mem_of_getElem? hc) (e3 i c v hc hv)
  | tup cs _ ih => intro u hr; cases hr with | tup _ vs e1 e3 => exact .tup cs vs e1 fun i c v hc hv => ih c (List.mem_of_getElem? hc) (e3 i c v hc hv)
  | nil =>
    intro u hr
    cases hr with
    | vnil => exact .vnil _
    | vsl es cl b o sz cap g h1 h2 h3 h4 h5 h6 h7 h8 h9 =>
      have e := h3 rfl
      exact .vsl [] true b o sz cap g h1 h2 h3 (fun q => absurd e q) h5 h6 h7 h8 (fun p q r x hp hq => by simp at hp)
def AHeap.un (H K : AHeap) : AHeap := fun b => match K b with
  | some k => some k
  | Option.none => H b
theorem un_none (H : AHeap) : H.un AHeap.none = H := rfl
theorem un_set {H K : AHeap} {b : Nat} {k : ABlk} : H.un (K.set b k) = (H.un K).set b k := by
  funext c
  simp only [AHeap.un, AHeap.set]
  by_cases e : c = b <;> simp [e]

theorem acalls_borrowX {P : Program} {f : FuncId} {args : List AV} {H : AHeap} {Q Q0 : AV → AHeap → Prop} (args' : List AV) (hz : FrozL H args args') (h : ACalls P f args' AHeap.none Q0)
    (k : ∀ r K, Q0 r K → NoV r ∧ (∀ b kb, K b = some kb → ∀ row ∈ kb.es, ∀ x ∈ row, NoV x) ∧ ((∀ b, K b ≠ none → H b = none) → Q r (H.un K))) : ACalls P f args H Q := by
  refine ⟨h.1, fun w vs hh hv => ?_⟩
  refine (h.2 w vs hrel_none (froz_args hz hh hv)).mono ?_
  rintro e w' ⟨v, r, K, rfl, hq, h1, h2, h3, h4⟩
  obtain ⟨k1, k2, k3⟩ := k r K hq
  have hh' := hrel_of_none hh h3
  have hnew : ∀ b, K b ≠ none → w.heap.size ≤ b := fun b hb => (h4 b hb).resolve_left none_dom
  have hdis : ∀ b, K b ≠ none → H b = none := fun b hb => by
    cases hq : H b with
    | none => rfl
    | some kb => have := hh.lt (b := b) (by unfold AHeap.dom; rw [hq]; simp); have := hnew b hb; omega
  refine ⟨v, r, H.un K, rfl, k3 hdis, k1.rel h1, ⟨fun b kb hb hz => ?_, fun b kb hb hz => ?_⟩, h3.of_none, fun b hb => ?_⟩
  · unfold AHeap.un at hb
    split at hb
    · rename_i kb' hkb
      cases hb
      exact h2.mp b _ hkb hz
    · exact hh'.mp b kb hb hz
  · unfold AHeap.un at hb
    split at hb
    · rename_i kb' hkb
      cases hb
      obtain ⟨c, g1, g2, g3, g4⟩ := h2.blk b _ hkb hz
      refine ⟨c, g1, g2, g3, fun p q row x hp hx => ?_⟩
      obtain ⟨u, u1, u2, u3⟩ := g4 p q row x hp hx
      exact ⟨u, u1, u2, (k2 b _ hkb row (List.mem_of_getElem? hp) x (List.mem_of_getElem? hx)).rel u3⟩
    · rename_i hkb
      obtain ⟨c, g1, g2, g3, g4⟩ := hh'.blk b kb hb hz
      refine ⟨c, g1, g2, g3, fun p q row x hp hx => ?_⟩
      obtain ⟨u, u1, u2, u3⟩ := g4 p q row x hp hx
      have hlt := hh.lt (b := b) (by unfold AHeap.dom; rw [hb]; simp)
      obtain ⟨c0, q1, q2, q3, q4⟩ := hh.blk b kb hb hz
      have hcc : c = c0 := by
        have := h3.keep b hlt none_dom
        rw [g1, q1] at this
        simpa using this
      subst hcc
      obtain ⟨u', l1, l2, l3⟩ := q4 p q row x hp hx
      have : u = u' := by rw [u1] at l1; simpa using l1
      subst this
      refine ⟨u, u1, u2, l3.step h3.of_none fun d hd => ?_⟩
      by_cases hK : K d = none
      · left; unfold AHeap.dom AHeap.un at hd; rw [hK] at hd; exact hd
      · exact .inr (hnew d hK)
  · by_cases hK : K b = none
    · left; unfold AHeap.dom AHeap.un at hb; rw [hK] at hb; exact hb
    · exact .inr (hnew b hK)
theorem grow_un {α : Type} {g : α → List AV} {sz : Nat} {ty : TypeId} {H K : AHeap} {x : AV} {l : List α} (hg : Grow g sz ty AHeap.none K x l) (hd : ∀ b, K b ≠ none → H b = none) : Grow g sz ty H (H.un K) x l := by
  rcases hg with ⟨rfl, rfl, rfl⟩ | ⟨b, cl, hb, rfl, rfl⟩
  · exact .inl ⟨rfl, rfl, un_none H⟩
  · refine .inr ⟨b, cl, hd b (by rw [AHeap.set_self]; simp), rfl, by rw [un_set, un_none]⟩
theorem grow_nov {α : Type} {g : α → List AV} {sz : Nat} {ty : TypeId} {K : AHeap} {x : AV} {l : List α} (hg : Grow g sz ty AHeap.none K x l) (hl : l ≠ []) (hf : ∀ y, ∀ c ∈ g y, NoV c) : NoV x ∧ ∀ b kb, K b = some kb → ∀ row ∈ kb.es, ∀ x ∈ row, NoV x := by
  rcases hg with ⟨rfl, rfl, rfl⟩ | ⟨b, cl, hb, rfl, rfl⟩
  · exact (hl rfl).elim
  · refine ⟨.sl _ _ _ _ _, fun c kb hc row hr x hx => ?_⟩
    by_cases e : c = b
    · subst e
      rw [AHeap.set_self] at hc
      cases hc
      obtain ⟨y, _, rfl⟩ := List.mem_map.1 hr
      exact hf y x hx
    · rw [set_other e] at hc; cases hc
end Go.Sim
