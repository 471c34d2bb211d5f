/- The calculus: blocks beside blocks, looked at one by one. No condition. -/
import Derived.Test.YtjpfgafdjlkblaaGreatSimS
namespace Go.Sim
open Go
section
variable {P : Program} {H : AHeap} {t u : TypeId} {α : Type} {f : α → List AV} {l : List α} {b c d e sz i j : Nat} {k k' k1 k2 k3 k4 : ABlk} {row x : List AV}

def ldO (P : Program) (o : Option ABlk) (t : TypeId) (sz i j : Nat) : Option AV :=
  match o with
  | some k => if k.sz = sz then (match k.es[i]? with
    | some row => ldRow P t row j
    | none => none) else none
  | none => none
theorem ld_o : ldA P H t (.ptr b sz i j) = ldO P (H b) t sz i j := by
  unfold ldO
  cases hb : H b with
  | none =>
    simp only [ldA, rdA, hb]
    cases tinfo P t with
    | none => rfl
    | some ti => simp
  | some k =>
    simp only
    by_cases hs : k.sz = sz
    · rw [if_pos hs]
      cases h : k.es[i]? with
      | none => exact ld_ptr_none hb h
      | some row => exact ld_ptr hb hs h
    · rw [if_neg hs]
      simp only [ldA, rdA, hb, if_neg hs]
      cases tinfo P t with
      | none => rfl
      | some ti => simp
theorem ldO_1 : ldO P (some ⟨sz, u, [row]⟩) t sz 0 j = ldRow P t row j := by simp [ldO]
theorem ldO_l [Inhabited α] : ldO P (some ⟨sz, u, l.map f⟩) t sz i j = if i < l.length then ldRow P t (f (l.getD i default)) j else none := by
  simp only [ldO, if_true, List.getElem?_map]
  by_cases h : i < l.length
  · rw [if_pos h, getD_getElem (d := default) h]; rfl
  · rw [if_neg h, List.getElem?_eq_none (by omega)]; rfl
def wrO (o : Option ABlk) (H : AHeap) (b sz i j : Nat) (x : List AV) : Option AHeap :=
  match o with
  | some k => if k.sz = sz then (match k.es[i]? with
    | some row => (stRow row j x).map fun r => H.set b { k with es := k.es.set i r }
    | none => none) else none
  | none => none
theorem wr_o : wrA H (.ptr b sz i j) x = wrO (H b) H b sz i j x := by
  unfold wrO stRow
  simp only [wrA]
  cases H b with
  | none => rfl
  | some k =>
    simp only
    split
    · cases k.es[i]? with
      | none => rfl
      | some row =>
        simp only
        split <;> rfl
    · rfl
theorem wrO_1 : wrO (some ⟨sz, u, [row]⟩) H b sz 0 j x = (stRow row j x).map fun r => H.set b ⟨sz, u, [r]⟩ := by simp [wrO]
theorem wrO_y [Inhabited α] {y : α} (hi : i < l.length) (hy : stRow (f (l.getD i default)) j x = some (f y)) : wrO (some ⟨sz, u, l.map f⟩) H b sz i j x = some (H.set b ⟨sz, u, (l.set i y).map f⟩) := by
  simp only [wrO, if_true, List.getElem?_map, getD_getElem (d := default) hi, Option.map_some, hy, List.map_set]
theorem set_2 (h : b ≠ c) : ((H.set b k).set c k1).set b k' = (H.set b k').set c k1 := by
  rw [set_comm (Ne.symm h), set_set]
theorem set_3 (h1 : b ≠ c) (h2 : b ≠ d) : (((H.set b k).set c k1).set d k2).set b k' = ((H.set b k').set c k1).set d k2 := by
  rw [set_comm (Ne.symm h2), set_2 h1]
theorem set_4 (h1 : b ≠ c) (h2 : b ≠ d) (h3 : b ≠ e) : ((((H.set b k).set c k1).set d k2).set e k3).set b k' = (((H.set b k').set c k1).set d k2).set e k3 := by
  rw [set_comm (Ne.symm h3), set_3 h1 h2]
end

def cvI (b : Bool) (o : Option IntKind) (st : Bool) (n : Int) : Option AV :=
  if b then (match o with
    | some k => some (.lit (.int k (k.wrap n)))
    | none => if st then some (.lit (.string (Utf8.encode n))) else none) else none
theorem cv_i {P : Program} {src dst : TypeId} {kd : IntKind} {n : Int} : convA P src dst (.lit (.int kd n)) = cvI (tsome P src) (tint P dst) (tstr P dst) n := rfl
theorem cvI_t {k : IntKind} {st : Bool} {n : Int} : cvI true (some k) st n = some (.lit (.int k (k.wrap n))) := rfl
theorem frzV_set {tm : Tm} {F : Tm → AHeap → Prop} {H : AHeap} {b sz i j t : Nat} {l : List Nat} {u : TypeId} {es : List (List AV)} {g : Tag (tm, H.set b ⟨sz, u, es⟩, F)} (h : H b = none) : frzV (.ptr b sz i j) t l tm (H.set b ⟨sz, u, es⟩) F g = frz l (upd tm t (.vptr es i j)) H F := by
  simp only [frzV, frzK, AHeap.set_self, true_and, set_del h]

/-! ### Maps -/
inductive Fz (H K : AHeap) : AV → AV → Prop where
  | same (a : AV) : Fz H K a a
  | sl {b sz off len : Nat} {cl : Bool} {k : ABlk} : H b = some k → k.sz = sz → off + len ≤ k.es.length → K b = none → Fz H K (.sl b sz off len cl) (.vsl ((k.es.drop off).take len) cl)
  | ptr {b sz i j : Nat} {k : ABlk} : H b = some k → k.sz = sz → K b = none → Fz H K (.ptr b sz i j) (.vptr k.es i j)
  | agg {cs cs' : List AV} : cs'.length = cs.length → (∀ (i : Nat) (c c' : AV), cs[i]? = some c → cs'[i]? = some c' → Fz H K c c') → Fz H K (.agg cs) (.agg cs')
  | tup {cs cs' : List AV} : cs'.length = cs.length → (∀ (i : Nat) (c c' : AV), cs[i]? = some c → cs'[i]? = some c' → Fz H K c c') → Fz H K (.tup cs) (.tup cs')
theorem le_del {H K : AHeap} {b : Nat} (h : K.le H) (hb : K b = none) : K.le (H.del b) := by
  intro c k hc
  have : c ≠ b := fun e => by rw [e, hb] at hc; cases hc
  simp only [AHeap.del, if_neg this]; exact h c k hc
theorem Fz.rel {H K : AHeap} {w : World} (hh : HRel H w) (hle : K.le H) {a a' : AV} (h : Fz H K a a') : ∀ {v : Value}, Rel H.dom w a v → Rel K.dom w a' v := by
  induction h with
  | same a => intro v hr; exact hr.sub fun b hb => hle.dom hb
  | sl h1 h2 h3 h4 => intro v hr; exact (rel_frozen_sl hh h1 h2 h3 hr).sub fun b hb => (le_del hle h4).dom hb
  | ptr h1 h2 h4 => intro v hr; exact (rel_frozen hh h1 h2 hr).sub fun b hb => (le_del hle h4).dom hb
  | @agg cs cs' hl _ ih =>
    intro v hr
    cases hr with
    | agg _ vs e1 e2 e3 =>
      refine .agg cs' vs (by rw [e1, hl]) e2 ?_
      intro i c' u hc' hu
      have hi : i < cs.length := by
        rw [← hl]
        rcases Nat.lt_or_ge i cs'.length with q | q
        · exact q
        · rw [List.getElem?_eq_none q] at hc'; cases hc'
      exact ih i cs[i] c' (by simp [hi]) hc' (e3 i _ u (by simp [hi]) hu)
  | @tup cs cs' hl _ ih =>
    intro v hr
    cases hr with
    | tup _ vs e1 e3 =>
      refine .tup cs' vs (by rw [e1, hl]) ?_
      intro i c' u hc' hu
      have hi : i < cs.length := by
        rw [← hl]
        rcases Nat.lt_or_ge i cs'.length with q | q
        · exact q
        · rw [List.getElem?_eq_none q] at hc'; cases hc'
      exact ih i cs[i] c' (by simp [hi]) hc' (e3 i _ u (by simp [hi]) hu)
inductive FzL (H K : AHeap) : List AV → List AV → Prop where
  | nil : FzL H K [] []
  | cons {a a' : AV} {l l' : List AV} : Fz H K a a' → FzL H K l l' → FzL H K (a :: l) (a' :: l')
theorem FzL.get {H K : AHeap} {l l' : List AV} (h : FzL H K l l') : l'.length = l.length ∧ ∀ (i : Nat) (c c' : AV), l[i]? = some c → l'[i]? = some c' → Fz H K c c' := by
  induction h with
  | nil => exact ⟨rfl, fun i c c' h => by simp at h⟩
  | cons h _ ih =>
    refine ⟨by simp [ih.1], fun i c c' h1 h2 => ?_⟩
    cases i with
    | zero => simp at h1 h2; subst h1; subst h2; exact h
    | succ i => exact ih.2 i c c' (by simpa using h1) (by simpa using h2)
theorem fz_agg {H K : AHeap} {l l' : List AV} (h : FzL H K l l') : Fz H K (.agg l) (.agg l') := .agg h.get.1 h.get.2
theorem fz_tup {H K : AHeap} {l l' : List AV} (h : FzL H K l l') : Fz H K (.tup l) (.tup l') := .tup h.get.1 h.get.2
theorem FzL.refl {H K : AHeap} : ∀ (l : List AV), FzL H K l l
  | [] => .nil
  | a :: l => .cons (.same a) (FzL.refl l)
theorem acalls_fz {P : Program} {f : FuncId} {args : List AV} {H : AHeap} {Q Q0 : AV → AHeap → Prop} (h : ACalls P f args H Q0) (k : ∀ r H', Q0 r H' → ∃ r' K, K.le H' ∧ Fz H' K r r' ∧ Q r' K) : ACalls P f args H Q := by
  refine ⟨h.1, fun w vs hh hv => (h.2 w vs hh hv).mono ?_⟩
  rintro e w' ⟨v, r, H', rfl, hq, h1, h2, h3, h4⟩
  obtain ⟨r', K, k1, k2, k3⟩ := k r H' hq
  exact ⟨v, r', K, rfl, k3, k2.rel h2 k1 h1, h2.sub k1, h3, fun b hb => h4 b (k1.dom hb)⟩
theorem grow_fz {α : Type} {f : α → List AV} {sz : Nat} {ty : TypeId} {H0 H : AHeap} {x : AV} {l : List α} (hg : Grow f sz ty H0 H x l) : ∃ cl, Fz H H0 x (.vsl (l.map f) cl) := by
  rcases hg with ⟨rfl, rfl, rfl⟩ | ⟨b, cl, hb, rfl, rfl⟩
  · exact ⟨true, .same _⟩
  · refine ⟨cl, ?_⟩
    have := Fz.sl (H := H0.set b ⟨sz, ty, l.map f⟩) (K := H0) (b := b) (sz := sz) (off := 0) (len := l.length) (cl := cl) (AHeap.set_self ..) rfl (by simp) hb
    simpa [List.take_of_length_le] using this
end Go.Sim
