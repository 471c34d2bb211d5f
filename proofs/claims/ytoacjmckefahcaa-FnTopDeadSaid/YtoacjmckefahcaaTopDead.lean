/- The law 'FnTopDead' answers true at every input. No condition. -/
import Derived.Test.YtoacjmckefahcaaJ2
import Derived.Test.YtoacjmckefahcaaJ5
set_option linter.unusedVariables false
set_option linter.unusedSimpArgs false
namespace Go.Proofs.Ytoacjmckefahcaa
open Go Go.Sim Go.ChangeShapes Go.WideShapes Go.ChangeAt Go.RowKit Go.Deep
set_option maxRecDepth 100000
set_option linter.unusedVariables false

/-- Behind a call over nothing of its own: what was there reads as it did. -/
theorem below_of {H' : AHeap} {w w' : World} (h : Ev AHeap.none.dom w w') : Below w.heap.size w w' :=
  ⟨h.os, h.tape, h.output, h.size, fun k hk => h.keep k hk (none_dom k)⟩
/-- A law of a tree and lines that answers true, as the frame takes it. -/
theorem law2_walk {f : FuncId} (hc : ∀ (t : List Class) (cl : Bool) (p : List Line) (cl' : Bool) (H : AHeap), namesOk t → p.length ≤ 4398046511104 → ACalls Try.prog f [aTree t cl, aProg p cl'] H fun r H' => r = B true ∧ H' = H)
    {v u : Value} {w : World} {t : List Class} {p : List Line} (hn : namesOk t) (hp : p.length ≤ 4398046511104) (ht : Rel AHeap.none.dom w (.vsl (t.map rClass) false) v) (hu : Rel AHeap.none.dom w (.vsl (p.map rLine) false) u) (hv1 : v.oneCell' = true) :
    Calls Try.prog f #[.agg #[v], u] w fun e w' => e = .returned (.bool true) ∧ Below w.heap.size w w' := by
  have h1 : Rel AHeap.none.dom w (aTree t false) (.agg #[v]) := by
    refine .agg _ _ rfl (fun i x hx => ?_) (fun i c x hc hx => ?_)
    · cases i with
      | zero => simp at hx; subst hx; exact hv1
      | succ i => simp at hx
    · cases i with
      | zero => simp at hx hc; subst hx; subst hc; exact ht
      | succ i => simp at hx
  refine ((hc t false p false AHeap.none hn hp).2 w #[.agg #[v], u] (hrel_none w) (RelL.cons h1 (RelL.cons hu (RelL.nil _ _)))).mono ?_
  rintro e w' ⟨v, r, H', rfl, ⟨rfl, rfl⟩, hv, _, hev, _⟩
  cases hv
  exact ⟨rfl, below_of (H' := AHeap.none) hev⟩
theorem topDead_lifted (os : Os) (started : os.Started) (H : Type) (enc : TypeId × Value → H) :
    ReturnsInHanded {} Try.checked os 3 .any (Rows.fnTopDeadSpec.pre6 enc Try.prog Try.f3 Rows.fnTopDeadRow.domain false) (Rows.fnTopDeadSpec.post enc Try.prog Try.f3 false true false false) := by
  refine returnsInHanded_of_change_sized (C := Try.checked) own started (by kernel_rfl) Try.func3
    (ChangeSpec.witness6 (enc := enc) (C := Try.checked) false ⟨#[], #[.agg #[.slice none 0 0], .slice none 0 0], []⟩ 8 (by kernel_rfl) (by kernel_rfl) (by kernel_rfl) (by kernel_rfl)) ?_
  intro W base args ds gs before hval0 hW hcnd hsz0 _
  have hval : ∀ (j : Nat) t v, Try.f3.params[j]? = some t → args[j]? = some v → Value.okWide Try.prog W .any base t v := hval0
  have hsz : (DataW.weightsEach Try.prog (Try.f3.params.toList ++ Rows.fnTopDeadSpec.plain.varTypes Try.prog) (ds ++ gs)).all (· ≤ reachBytes) = true := hsz0
  have hW' := hW
  obtain ⟨p, q, hA0, hV, rfl, hfz, hnd⟩ := hW
  have hA : DataW.TrodAll enc Try.prog W 0 (fun _ => true) true Try.f3.params.toList args.toList ds p := hA0
  rw [Try.params3] at hA hval hsz
  obtain ⟨v0, vs0, d0, ds0, p0, q0, hargs, rfl, rfl, h0, r0⟩ := trodAll_cons hA
  obtain ⟨v1, vs1, d1, ds1, p1, q1, rfl, rfl, rfl, h1, r1⟩ := trodAll_cons r0
  obtain ⟨rfl, rfl, rfl⟩ := trodAll_nil r1
  obtain rfl : args = #[v0, v1] := by cases args; simp_all
  obtain ⟨rfl, rfl⟩ := trodVars_none hV
  have hv0 := hval 0 24 v0 rfl rfl
  have hv1 := hval 1 25 v1 rfl rfl
  have k0 := h0
  have k1 := h1
  have lt0 : ∀ x ∈ p0, x.block < W.heap.size := by obtain ⟨m, hm⟩ := k0; exact DataW.trod_lt m _ _ _ hm
  have lt1 : ∀ x ∈ p1, x.block < W.heap.size := by obtain ⟨m, hm⟩ := k1; exact DataW.trod_lt m _ _ _ hm
  have hlin : ∃ pl : List Line, pl.length ≤ 4398046511104 ∧ Rel AHeap.none.dom W (.vsl (pl.map rLine) false) v1 := by
    obtain ⟨fuel, hf⟩ := h1
    obtain ⟨a1, len1, cap1, rfl⟩ := okWide_slice Try.underlying25 hv1
    refine open_lines (x := (d1, p1)) hf hv1 fun n hn => ?_
    have := List.all_eq_true.1 hsz n (DataW.weights_mem_each (j := 1) (t := 25) rfl rfl n hn)
    simpa using this
  have htre : ∃ (tl : List Class) (c0 : Value), v0 = .agg #[c0] ∧ c0.oneCell' = true ∧ namesOk tl ∧ Rel AHeap.none.dom W (.vsl (tl.map rClass) false) c0 := by
    obtain ⟨fuel, hf⟩ := h0
    refine open_tree (x := (d0, p0)) hf hv0 fun n hn => ?_
    have := List.all_eq_true.1 hsz n (DataW.weights_mem_each (j := 0) (t := 24) rfl rfl n hn)
    simpa using this
  obtain ⟨pl, hpl, hrl⟩ := hlin
  obtain ⟨tl, c0, rfl, ho, hnt, hrt⟩ := htre
  clear hA0 hval0
  refine (law2_walk c_LawTopDead hnt hpl hrt hrl ho).mono fun e W' ⟨he, bel⟩ => ?_
  subst he
  exact ⟨_, rfl, _, _, _, [], _, [], hW', trodAll_mk1 (shut_bool Try.underlying4 _), (trodAll_cons_mk (Below.trod laidOut (by kernel_rfl) (of_decide_eq_true (by kernel_rfl)) k0 bel lt0) (trodAll_cons_mk (Below.trod laidOut (by kernel_rfl) (of_decide_eq_true (by kernel_rfl)) k1 bel lt1) trodAll_mk0)), rfl, bel.frame _, fun h => by cases h⟩
theorem topDead_over : Rows.fnTopDeadRow.holds Try.pinned (OpenSpec.ofChange Rows.fnTopDeadSpec) :=
  OpenClaim.holds_of_wide 3 Try.f3 rfl rfl rfl rfl rfl rfl rfl ⟨rfl, rfl, rfl, rfl, rfl⟩ rfl rfl rfl rfl rfl (by kernel_rfl) Try.func3 (by kernel_rfl)
    (of_decide_eq_true (by kernel_rfl)) (by unfold Func.isWrapper; first | (rw [if_pos (by decide +kernel)]; kernel_rfl) | (rw [if_neg (by decide +kernel)]; exact ⟨rfl, rfl⟩))
    (fun os started H enc _ => topDead_lifted os started H enc)
theorem topDead : Rows.FnTopDeadSaid := topDead_over
end Go.Proofs.Ytoacjmckefahcaa
