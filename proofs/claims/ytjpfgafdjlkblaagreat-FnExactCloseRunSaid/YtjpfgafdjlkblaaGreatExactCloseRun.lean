/- The law 'FnExactCloseRun' answers true at every input. No condition. -/
import Derived.Test.YtjpfgafdjlkblaaGreatJ2
import Derived.Test.YtjpfgafdjlkblaaGreatJ5
namespace Go.Proofs.YtjpfgafdjlkblaaGreat
open Go Go.Sim Go.ChangeShapes Go.WideShapes Go.ChangeAt Go.RowKit Go.Deep
set_option maxRecDepth 100000

theorem lift_fnExactCloseRun (os : Os) (started : os.Started) (H : Type) (enc : TypeId × Value → H) :
    ReturnsInHanded {} Tryz.checked os 8 .any (Rows.fnExactCloseRunSpec.pre6 enc Tryz.prog Tryz.f8 Rows.fnExactCloseRunRow.domain false) (Rows.fnExactCloseRunSpec.post enc Tryz.prog Tryz.f8 false true false false) := by
  refine returnsInHanded_of_change_sized (C := Tryz.checked) own started (by kernel_rfl) Tryz.func8
    (ChangeSpec.witness6 (enc := enc) (C := Tryz.checked) false ⟨#[], #[.agg #[.slice none 0 0], .slice none 0 0, .slice none 0 0], []⟩ 8 (by kernel_rfl) (by kernel_rfl) (by kernel_rfl) (by kernel_rfl)) ?_
  intro W base args ds gs before hval0 hW hcnd hsz0 _
  have hval : ∀ (j : Nat) t v, Tryz.f8.params[j]? = some t → args[j]? = some v → Value.okWide Tryz.prog W .any base t v := hval0
  have hsz : (DataW.weightsEach Tryz.prog (Tryz.f8.params.toList ++ Rows.fnExactCloseRunSpec.plain.varTypes Tryz.prog) (ds ++ gs)).all (· ≤ reachBytes) = true := hsz0
  have hW' := hW
  obtain ⟨p, q, hA0, hV, rfl, hfz, hnd⟩ := hW
  have hA : DataW.TrodAll enc Tryz.prog W 0 (fun _ => true) true Tryz.f8.params.toList args.toList ds p := hA0
  rw [Tryz.params8] at hA hval hsz
  obtain ⟨v0, vs0, d0, ds0, p0, q0, hargs, rfl, rfl, h0, r0⟩ := trodAll_cons hA
  obtain ⟨v1, vs1, d1, ds1, p1, q1, rfl, rfl, rfl, h1, r1⟩ := trodAll_cons r0
  obtain ⟨v2, vs2, d2, ds2, p2, q2, rfl, rfl, rfl, h2, r2⟩ := trodAll_cons r1
  obtain ⟨rfl, rfl, rfl⟩ := trodAll_nil r2
  obtain rfl : args = #[v0, v1, v2] := by cases args; simp_all
  obtain ⟨rfl, rfl⟩ := trodVars_none hV
  have hv0 := hval 0 58 v0 rfl rfl
  have hv1 := hval 1 59 v1 rfl rfl
  have hv2 := hval 2 71 v2 rfl rfl
  have k0 := h0
  have k1 := h1
  have k2 := h2
  have lt0 : ∀ x ∈ p0, x.block < W.heap.size := by obtain ⟨m, hm⟩ := k0; exact DataW.trod_lt m _ _ _ hm
  have lt1 : ∀ x ∈ p1, x.block < W.heap.size := by obtain ⟨m, hm⟩ := k1; exact DataW.trod_lt m _ _ _ hm
  have lt2 : ∀ x ∈ p2, x.block < W.heap.size := by obtain ⟨m, hm⟩ := k2; exact DataW.trod_lt m _ _ _ hm
  have ho0 : ∃ (tl : List Class) (c0 : Value), v0 = .agg #[c0] ∧ c0.oneCell' = true ∧ namesOk tl ∧ Rel AHeap.none.dom W (.vsl (tl.map rClass) false) c0 := by
    obtain ⟨fuel, hf⟩ := h0
    refine open_tree (x := (d0, p0)) hf hv0 fun n hn => ?_
    have := List.all_eq_true.1 hsz n (DataW.weights_mem_each (j := 0) (t := 58) rfl rfl n hn)
    simpa using this
  have ho1 : ∃ l : List Line, l.length ≤ 4398046511104 ∧ Rel AHeap.none.dom W (.vsl (l.map rLine) false) v1 := by
    obtain ⟨fuel, hf⟩ := h1
    obtain ⟨a1, len1, cap1, rfl⟩ := okWide_slice Tryz.underlying59 hv1
    refine open_lines (x := (d1, p1)) hf hv1 fun n hn => ?_
    have := List.all_eq_true.1 hsz n (DataW.weights_mem_each (j := 1) (t := 59) rfl rfl n hn)
    simpa using this
  have ho2 : ∃ l : List Exi, l.length ≤ 6000000000000 ∧ Rel AHeap.none.dom W (.vsl (l.map rExit) false) v2 := by
    obtain ⟨fuel, hf⟩ := h2
    obtain ⟨a1, len1, cap1, rfl⟩ := okWide_slice Tryz.underlying71 hv2
    refine open_exits (x := (d2, p2)) hf hv2 fun n hn => ?_
    have := List.all_eq_true.1 hsz n (DataW.weights_mem_each (j := 2) (t := 71) rfl rfl n hn)
    simpa using this
  obtain ⟨l0, c0, rfl, hu0, hl0, hr0⟩ := ho0
  obtain ⟨l1, hl1, hr1⟩ := ho1
  obtain ⟨l2, hl2, hr2⟩ := ho2
  clear hA0 hval0
  have hcall := (c_LawExactCloseRun l0 false l1 false l2 false AHeap.none hl0 hl1 hl2).2 W #[.agg #[c0], v1, v2] (hrel_none W) (RelL.cons (rel_tree hr0 hu0) (RelL.cons hr1 (RelL.cons hr2 (RelL.nil _ _))))
  refine hcall.mono fun e W' h => ?_
  obtain ⟨v, r, H', rfl, ⟨rfl, rfl⟩, hv, _, hev, _⟩ := h
  cases hv
  have bel := below_of (H' := AHeap.none) hev
  exact ⟨_, rfl, _, _, _, [], _, [], hW', trodAll_mk1 (shut_bool Tryz.underlying4 _), (trodAll_cons_mk (Below.trod laidOut (by kernel_rfl) (of_decide_eq_true (by kernel_rfl)) k0 bel lt0) (trodAll_cons_mk (Below.trod laidOut (by kernel_rfl) (of_decide_eq_true (by kernel_rfl)) k1 bel lt1) (trodAll_cons_mk (Below.trod laidOut (by kernel_rfl) (of_decide_eq_true (by kernel_rfl)) k2 bel lt2) trodAll_mk0))), rfl, bel.frame _, fun h => by cases h⟩
theorem joined_fnExactCloseRun : joinedFacts Tryz.pinned.checked.prog 8 Tryz.f8 Rows.fnExactCloseRunSpec Rows.fnExactCloseRunRow = true := by kernel_rfl
theorem wrap_fnExactCloseRun : Tryz.f8.isWrapper Tryz.pinned.checked.prog Rows.fnExactCloseRunRow.wrapper Rows.fnExactCloseRunRow.mainSum := by unfold Func.isWrapper; first | (rw [if_pos (by decide +kernel)]; kernel_rfl) | (rw [if_neg (by decide +kernel)]; exact ⟨rfl, rfl⟩)
theorem part0_fnExactCloseRun : namedPart Tryz.pinned.checked.prog Rows.fnExactCloseRunRow.func 8 0 40 = true := by kernel_rfl
theorem part1_fnExactCloseRun : namedPart Tryz.pinned.checked.prog Rows.fnExactCloseRunRow.func 8 40 40 = true := by kernel_rfl
theorem part2_fnExactCloseRun : namedPart Tryz.pinned.checked.prog Rows.fnExactCloseRunRow.func 8 80 40 = true := by kernel_rfl
theorem part3_fnExactCloseRun : namedPart Tryz.pinned.checked.prog Rows.fnExactCloseRunRow.func 8 120 40 = true := by kernel_rfl
theorem part4_fnExactCloseRun : namedPart Tryz.pinned.checked.prog Rows.fnExactCloseRunRow.func 8 160 40 = true := by kernel_rfl
theorem part5_fnExactCloseRun : namedPart Tryz.pinned.checked.prog Rows.fnExactCloseRunRow.func 8 200 40 = true := by kernel_rfl
theorem part6_fnExactCloseRun : namedPart Tryz.pinned.checked.prog Rows.fnExactCloseRunRow.func 8 240 40 = true := by kernel_rfl
theorem part7_fnExactCloseRun : namedPart Tryz.pinned.checked.prog Rows.fnExactCloseRunRow.func 8 280 40 = true := by kernel_rfl
theorem named_fnExactCloseRun : Tryz.pinned.checked.prog.funcNamed Rows.fnExactCloseRunRow.func = some 8 := named_of (of_decide_eq_true (by kernel_rfl)) (of_decide_eq_true (by kernel_rfl)) part0_fnExactCloseRun part1_fnExactCloseRun part2_fnExactCloseRun part3_fnExactCloseRun part4_fnExactCloseRun part5_fnExactCloseRun part6_fnExactCloseRun part7_fnExactCloseRun
theorem inst_fnExactCloseRun : Tryz.f8.isInstance Tryz.pinned.checked.prog Rows.fnExactCloseRunRow.origin Rows.fnExactCloseRunRow.targs := of_decide_eq_true (by kernel_rfl)
theorem over_fnExactCloseRun : Rows.fnExactCloseRunRow.holds Tryz.pinned (OpenSpec.ofChange Rows.fnExactCloseRunSpec) :=
  OpenClaim.holds_of_wide 8 Tryz.f8 rfl rfl rfl rfl rfl rfl rfl ⟨rfl, rfl, rfl, rfl, rfl⟩ rfl rfl rfl rfl rfl named_fnExactCloseRun Tryz.func8 joined_fnExactCloseRun
    inst_fnExactCloseRun wrap_fnExactCloseRun
    (fun os started H enc _ => lift_fnExactCloseRun os started H enc)
theorem exactCloseRun : Rows.FnExactCloseRunSaid := over_fnExactCloseRun
end Go.Proofs.YtjpfgafdjlkblaaGreat
