/- The calculus: what is our own is lent to a reader. No condition. -/
import Derived.Test.YtjpfgafdjlkblaaGreatSimR
namespace Go.Sim
open Go

inductive Froz (H : AHeap) : AV → AV → Prop where
  | same (a : AV) : Froz H a a
  | sl {b sz off len : Nat} {cl : Bool} {k : ABlk} : H b = some k → k.sz = sz → off + len ≤ k.es.length → Froz H (.sl b sz off len cl) (.vsl ((k.es.drop off).take len) cl)
  | ptr {b sz i j : Nat} {k : ABlk} : H b = some k → k.sz = sz → Froz H (.ptr b sz i j) (.vptr k.es i j)
  | agg {cs cs' : List AV} : cs'.length = cs.length → (∀ (i : Nat) (c c' : AV), cs[i]? = some c → cs'[i]? = some c' → Froz H c c') → Froz H (.agg cs) (.agg cs')

theorem none_dom {b : Nat} : ¬ AHeap.none.dom b := fun h => h rfl
theorem Froz.rel {H : AHeap} {w : World} (hh : HRel H w) {a a' : AV} (h : Froz H a a') : ∀ {v : Value}, Rel H.dom w a v → Rel AHeap.none.dom w a' v := by
  induction h with
  | same a => intro v hr; exact hr.sub fun b hb => (none_dom hb).elim
  | sl h1 h2 h3 => intro v hr; exact (rel_frozen_sl hh h1 h2 h3 hr).sub fun b hb => (none_dom hb).elim
  | ptr h1 h2 => intro v hr; exact (rel_frozen hh h1 h2 hr).sub fun b hb => (none_dom hb).elim
  | @agg cs cs' hl _ ih =>
    intro v hr
    cases hr with
    | agg _ vs e1 e2 e3 =>
      refine .agg cs' vs (by rw [e1, hl]) e2 ?_
      intro i c' u hc' hu
      have hi : i < cs.length := by
        rw [← hl]
        rcases Nat.lt_or_ge i cs'.length with q | q
        · exact q
        · rw [List.getElem?_eq_none q] at hc'; cases hc'
      exact ih i cs[i] c' (by simp [hi]) hc' (e3 i _ u (by simp [hi]) hu)

def FrozL (H : AHeap) (as as' : List AV) : Prop := as'.length = as.length ∧ ∀ (i : Nat) (c c' : AV), as[i]? = some c → as'[i]? = some c' → Froz H c c'
theorem FrozL.nil {H : AHeap} : FrozL H [] [] := ⟨rfl, fun i c c' h => by simp at h⟩
theorem FrozL.cons {H : AHeap} {a a' : AV} {l l' : List AV} (h : Froz H a a') (k : FrozL H l l') : FrozL H (a :: l) (a' :: l') := by
  refine ⟨by simp [k.1], ?_⟩
  intro i c c' h1 h2
  cases i with
  | zero => simp at h1 h2; subst h1; subst h2; exact h
  | succ i => exact k.2 i c c' (by simpa using h1) (by simpa using h2)

def flat : AV → Bool
  | .lit _ => true
  | .tup cs => cs.all fun c => match c with
    | .lit _ => true
    | _ => false
  | _ => false
theorem flat_rel {a : AV} (h : flat a = true) {O O' : Nat → Prop} {w w' : World} {v : Value} (hr : Rel O w a v) : Rel O' w' a v := by
  cases a with
  | lit u => cases hr; exact .lit _
  | tup cs =>
    cases hr with
    | tup _ vs e1 e2 =>
      refine .tup cs vs e1 ?_
      intro i c u hc hu
      simp only [flat, List.all_eq_true] at h
      have := h c (List.mem_of_getElem? hc)
      have hr := e2 i c u hc hu
      cases c <;> first | (simp at this; done) | (cases hr; exact .lit _)
  | _ => simp [flat] at h

theorem Ev.of_none {O : Nat → Prop} {w w' : World} (h : Ev AHeap.none.dom w w') : Ev O w w' :=
  ⟨h.os, h.tape, h.output, h.size, fun b hb _ => h.keep b hb none_dom, h.shape⟩
theorem hrel_of_none {H : AHeap} {w w' : World} (hh : HRel H w) (h : Ev AHeap.none.dom w w') : HRel H w' := by
  refine ⟨fun b k hb hz => (hh.mp b k hb hz).same (h.keep b (hh.mp b k hb hz).lt none_dom), fun b k hb hz => ?_⟩
  obtain ⟨c, g1, g2, g3, g4⟩ := hh.blk b k hb hz
  have hlt := hh.lt (b := b) (by unfold AHeap.dom; rw [hb]; simp)
  refine ⟨c, by rw [h.keep b hlt none_dom]; exact g1, g2, g3, fun p q r x hp hq => ?_⟩
  obtain ⟨v, k1, k2, k3⟩ := g4 p q r x hp hq
  exact ⟨v, k1, k2, k3.step h.of_none (.refl _ _)⟩

section
variable {P : Program} {f : FuncId} {args args' : List AV} {H : AHeap} {Q : AV → AHeap → Prop}
theorem froz_args {w : World} {vs : List Value} (hz : FrozL H args args') (hh : HRel H w) (h : RelL H.dom w args vs) : RelL AHeap.none.dom w args' vs := by
  refine ⟨by rw [h.1, hz.1], ?_⟩
  intro i x v hx hv
  have hi : i < args.length := by
    rw [← hz.1]
    rcases Nat.lt_or_ge i args'.length with q | q
    · exact q
    · rw [List.getElem?_eq_none q] at hx; cases hx
  exact (hz.2 i args[i] x (by simp [hi]) hx).rel hh (h.2 i _ v (by simp [hi]) hv)
theorem hrel_none {w : World} : HRel AHeap.none w := ⟨(fun b k h => by cases h), (fun b k h => by cases h)⟩
theorem acalls_borrow {R : AV} {H1 : AHeap} (args' : List AV) (hz : FrozL H args args') (h : ACalls P f args' AHeap.none fun r H' => r = R ∧ H' = H1) (hR : flat R = true) (k : Q R H) : ACalls P f args H Q := by
  refine ⟨h.1, fun w vs hh hv => ?_⟩
  refine (h.2 w vs hrel_none (froz_args hz hh hv)).mono ?_
  rintro e w' ⟨v, r, H', rfl, ⟨rfl, _⟩, h1, h2, h3, h4⟩
  exact ⟨v, _, H, rfl, k, flat_rel hR h1, hrel_of_none hh h3, h3.of_none, .refl _ _⟩
theorem acalls_borrowG {α : Type} {g : α → List AV} {sz : Nat} {ty : TypeId} {l : List α} (args' : List AV) (hz : FrozL H args args') (h : ACalls P f args' AHeap.none fun r H' => Grow g sz ty AHeap.none H' r l)
    (hg : ∀ x, (g x).all flat = true) (hl : l ≠ []) (k : ∀ r H', Grow g sz ty H H' r l → Q r H') : ACalls P f args H Q := by
  refine ⟨h.1, fun w vs hh hv => ?_⟩
  refine (h.2 w vs hrel_none (froz_args hz hh hv)).mono ?_
  rintro e w' ⟨v, r, H', rfl, hgr, h1, h2, h3, h4⟩
  have hh' := hrel_of_none hh h3
  rcases hgr with ⟨rfl, rfl, rfl⟩ | ⟨b, cl, hb, rfl, rfl⟩
  · exact (hl rfl).elim
  · have hsz : w.heap.size ≤ b := (h4 b (by unfold AHeap.dom; rw [AHeap.set_self]; simp)).resolve_left none_dom
    have hHb : H b = none := by
      cases hq : H b with
      | none => rfl
      | some kb => have := hh.lt (b := b) (by unfold AHeap.dom; rw [hq]; simp); omega
    refine ⟨v, _, H.set b ⟨sz, ty, l.map g⟩, rfl, k _ _ (.inr ⟨b, cl, hHb, rfl, rfl⟩), ?_, ?_, h3.of_none, ?_⟩
    · cases h1 with
      | sl _ _ _ _ cap _ c t fr e1 e2 e3 e4 e5 e6 => exact .sl _ _ _ _ cap _ c t fr e1 e2 e3 e4 e5 e6
    · refine ⟨fun b' k' hk hz => ?_, fun b' k' hk hz => ?_⟩
      · by_cases hbb : b' = b
        · subst hbb
          rw [AHeap.set_self] at hk
          cases hk
          exact h2.mp b' _ (AHeap.set_self ..) hz
        · rw [set_other hbb] at hk
          exact hh'.mp b' k' hk hz
      by_cases hbb : b' = b
      · subst hbb
        rw [AHeap.set_self] at hk
        cases hk
        obtain ⟨c, g1, g2, g3, g4⟩ := h2.blk b' _ (AHeap.set_self ..) hz
        refine ⟨c, g1, g2, g3, fun p q r x hp hq => ?_⟩
        obtain ⟨u, k1, k2, k3⟩ := g4 p q r x hp hq
        refine ⟨u, k1, k2, flat_rel ?_ k3⟩
        simp only [List.getElem?_map, Option.map_eq_some_iff] at hp
        obtain ⟨y, _, rfl⟩ := hp
        have := hg y
        rw [List.all_eq_true] at this
        exact this x (List.mem_of_getElem? hq)
      · rw [set_other hbb] at hk
        obtain ⟨c, g1, g2, g3, g4⟩ := hh'.blk b' k' hk hz
        refine ⟨c, g1, g2, g3, fun p q r x hp hq => ?_⟩
        obtain ⟨u, k1, k2, k3⟩ := g4 p q r x hp hq
        have hlt := hh.lt (b := b') (by unfold AHeap.dom; rw [hk]; simp)
        obtain ⟨c0, q1, q2, q3, q4⟩ := hh.blk b' k' hk hz
        have hcc : c = c0 := by
          have := h3.keep b' hlt none_dom
          rw [g1, q1] at this
          simpa using this
        subst hcc
        obtain ⟨u', l1, l2, l3⟩ := q4 p q r x hp hq
        have : u = u' := by rw [k1] at l1; simpa using l1
        subst this
        refine ⟨u, k1, k2, l3.step h3.of_none ?_⟩
        intro d hd
        by_cases hdb : d = b
        · exact .inr (by omega)
        · left; unfold AHeap.dom at hd ⊢; rwa [set_other hdb] at hd
    · intro d hd
      by_cases hdb : d = b
      · exact .inr (by omega)
      · left; unfold AHeap.dom at hd ⊢; rwa [set_other hdb] at hd
end
theorem grow_froz {α : Type} {f : α → List AV} {sz : Nat} {ty : TypeId} {H0 H : AHeap} {x : AV} {l : List α} (hg : Grow f sz ty H0 H x l) : ∃ cl, Froz H x (.vsl (l.map f) cl) := by
  rcases hg with ⟨rfl, rfl, rfl⟩ | ⟨b, cl, hb, rfl, rfl⟩
  · exact ⟨true, .same _⟩
  · refine ⟨cl, ?_⟩
    have := Froz.sl (H := H0.set b ⟨sz, ty, l.map f⟩) (b := b) (sz := sz) (off := 0) (len := l.length) (cl := cl) (AHeap.set_self ..) rfl (by simp)
    simpa [List.take_of_length_le] using this

/-! ### Several slices that grow, side by side -/
section
variable {α β : Type} {f : α → List AV} {g : β → List AV} {sz sz' : Nat} {ty ty' : TypeId} {H0 H H1 H2 : AHeap} {x y : AV} {l : List α} {m : List β} {c : Nat} {K : ABlk}
theorem set_comm {b c : Nat} {k k' : ABlk} (h : b ≠ c) : (H.set b k).set c k' = (H.set c k').set b k := by
  funext d; simp only [AHeap.set]
  split
  · rename_i e1
    split
    · rename_i e2; exact (h (e2.symm.trans e1)).elim
    · rfl
  · rfl
theorem grow_in (hg : Grow f sz ty H0 H x l) (hc : H c = none) : Grow f sz ty (H0.set c K) (H.set c K) x l := by
  rcases hg with ⟨rfl, rfl, rfl⟩ | ⟨b, cl, hb, rfl, rfl⟩
  · exact .inl ⟨rfl, rfl, rfl⟩
  · rw [set_none] at hc
    exact .inr ⟨b, cl, by rw [set_other hc.2.1]; exact hb, rfl, set_comm hc.2.1⟩
theorem grow_out (hg : Grow f sz ty (H0.set c K) H x l) (hc : H0 c = none) : ∃ H', Grow f sz ty H0 H' x l ∧ H = H'.set c K ∧ H' c = none := by
  rcases hg with ⟨rfl, rfl, rfl⟩ | ⟨b, cl, hb, rfl, rfl⟩
  · exact ⟨H0, .inl ⟨rfl, rfl, rfl⟩, rfl, hc⟩
  · rw [set_none] at hb
    refine ⟨_, .inr ⟨b, cl, hb.2.2, rfl, rfl⟩, (set_comm hb.1).symm, ?_⟩
    rw [set_other hb.2.1]; exact hc
theorem grow_swap (hf : Grow f sz ty H0 H1 x l) (hg : Grow g sz' ty' H1 H2 y m) : ∃ H1', Grow g sz' ty' H0 H1' y m ∧ Grow f sz ty H1' H2 x l := by
  rcases hf with ⟨rfl, rfl, rfl⟩ | ⟨b, cl, hb, rfl, rfl⟩
  · exact ⟨_, hg, .inl ⟨rfl, rfl, rfl⟩⟩
  · obtain ⟨H', h1, rfl, h3⟩ := grow_out hg hb
    exact ⟨H', h1, .inr ⟨b, cl, h3, rfl, rfl⟩⟩
theorem grow_le (hg : Grow f sz ty H0 H x l) : AHeap.le H0 H := by
  rcases hg with ⟨rfl, rfl, rfl⟩ | ⟨b, cl, hb, rfl, rfl⟩
  · exact AHeap.le_refl _
  · exact le_set hb
end

theorem acalls_frz {P : Program} {f : FuncId} {args : List AV} {H : AHeap} {Q : AV → AHeap → Prop} {α : Type} {g : α → List AV} {sz : Nat} {ty : TypeId} {l : List α} (h : ACalls P f args H fun r H' => Grow g sz ty H H' r l) (k : ∀ cl, Q (.vsl (l.map g) cl) H) : ACalls P f args H Q := by
  refine ⟨h.1, fun w vs hh hv => (h.2 w vs hh hv).mono ?_⟩
  rintro e w' ⟨v, r, H', rfl, hg, h1, h2, h3, h4⟩
  rcases hg with ⟨rfl, rfl, rfl⟩ | ⟨b, cl, hb, rfl, rfl⟩
  · exact ⟨v, _, _, rfl, k true, h1, h2, h3, h4⟩
  · have := rel_frozen_sl h2 (AHeap.set_self ..) rfl (by simp) h1
    rw [set_del hb] at this
    refine ⟨v, .vsl (l.map g) cl, H, rfl, k cl, ?_, h2.sub (le_set hb), h3, .refl _ _⟩
    simpa [List.take_of_length_le] using this
theorem wrP {α : Type} [Inhabited α] {g : α → List AV} {H : AHeap} {b sz i j : Nat} {ty : TypeId} {l : List α} {x : List AV} {y : α} (hb : H b = some ⟨sz, ty, l.map g⟩) (hi : i < l.length) (hy : stRow (g (l.getD i default)) j x = some (g y)) :
    wrA H (.ptr b sz i j) x = some (H.set b ⟨sz, ty, (l.set i y).map g⟩) := by
  have e : (l.map g)[i]? = some (g (l.getD i default)) := by rw [List.getElem?_map, getD_getElem hi]; rfl
  unfold stRow at hy
  simp only [wrA, hb, if_true, e]
  split at hy
  · rename_i h
    rw [if_pos h]
    injection hy with hy
    rw [hy, List.map_set]
  · cases hy

theorem ld1o {P : Program} {H : AHeap} {b c sz j : Nat} {u t : TypeId} {row : List AV} {k : ABlk} (h : b ≠ c) : ldA P ((H.set b ⟨sz, u, [row]⟩).set c k) t (.ptr b sz 0 j) = ldRow P t row j := ld1 (by rw [set_other h, AHeap.set_self])
theorem wr1o {H : AHeap} {b c sz j : Nat} {u : TypeId} {row x : List AV} {k : ABlk} (h : b ≠ c) : wrA ((H.set b ⟨sz, u, [row]⟩).set c k) (.ptr b sz 0 j) x = (stRow row j x).map fun r => (H.set b ⟨sz, u, [r]⟩).set c k := by
  rw [wr1 (by rw [set_other h, AHeap.set_self])]
  congr 1
  funext r
  rw [set_comm (H := H) h, set_set, set_comm (H := H) h]
theorem grow_none {α : Type} {f : α → List AV} {sz : Nat} {ty : TypeId} {H0 H : AHeap} {x : AV} {l : List α} {c : Nat} (hg : Grow f sz ty H0 H x l) (hc : H c = none) : H0 c = none := by
  cases h : H0 c with
  | none => rfl
  | some k => rw [grow_le hg c k h] at hc; cases hc

theorem acalls_frzA {P : Program} {f : FuncId} {args : List AV} {H : AHeap} {Q : AV → AHeap → Prop} {α : Type} {g : α → List AV} {sz : Nat} {ty : TypeId} {l : List α} (h : ACalls P f args H fun r H' => ∃ x, r = .agg [x] ∧ Grow g sz ty H H' x l) (k : ∀ cl, Q (.agg [.vsl (l.map g) cl]) H) : ACalls P f args H Q := by
  refine ⟨h.1, fun w vs hh hv => (h.2 w vs hh hv).mono ?_⟩
  rintro e w' ⟨v, r, H', rfl, ⟨x, rfl, hg⟩, h1, h2, h3, h4⟩
  rcases hg with ⟨rfl, rfl, rfl⟩ | ⟨b, cl, hb, rfl, rfl⟩
  · exact ⟨v, _, _, rfl, k true, h1, h2, h3, h4⟩
  · refine ⟨v, .agg [.vsl (l.map g) cl], H, rfl, k cl, ?_, h2.sub (le_set hb), h3, .refl _ _⟩
    cases h1 with
    | agg _ vs e1 e2 e3 =>
      refine .agg _ vs (by rw [e1]; rfl) e2 ?_
      intro i c u hc hu
      cases i with
      | zero =>
        simp at hc; subst hc
        have := rel_frozen_sl h2 (AHeap.set_self ..) rfl (by simp) (e3 0 _ u rfl hu)
        rw [set_del hb] at this
        simpa [List.take_of_length_le] using this
      | succ i => simp at hc
theorem le_same {H : AHeap} : AHeap.le H H = True := by simp [AHeap.le_refl]
end Go.Sim
