/- The law 'FnDeadLines' answers true at every input. No condition. -/
import Derived.Test.YtoacjmckefahcaaGreatJ2
import Derived.Test.YtoacjmckefahcaaGreatJ6
set_option linter.unusedVariables false
set_option linter.unusedSimpArgs false
namespace Go.Proofs.YtoacjmckefahcaaGreat
open Go Go.Sim Go.ChangeShapes Go.WideShapes Go.ChangeAt Go.RowKit
set_option maxRecDepth 100000
set_option linter.unusedVariables false

theorem lift_deadLines (os : Os) (started : os.Started) (H : Type) (enc : TypeId × Value → H) :
    ReturnsInHanded {} Tryz.checked os 5 .any (Rows.fnDeadLinesSpec.pre6 enc Tryz.prog Tryz.f5 Rows.fnDeadLinesRow.domain false) (Rows.fnDeadLinesSpec.post enc Tryz.prog Tryz.f5 false true false false) := by
  refine returnsInHanded_of_change (C := Tryz.checked) own started (by kernel_rfl) Tryz.func5
    (ChangeSpec.witness6 (enc := enc) (C := Tryz.checked) false ⟨#[], #[.slice none 0 0], []⟩ 8 (by kernel_rfl) (by kernel_rfl) (by kernel_rfl) (by kernel_rfl)) ?_
  intro W base args ds gs before hval0 hW hcnd _
  have hval : ∀ (j : Nat) t v, Tryz.f5.params[j]? = some t → args[j]? = some v → Value.okWide Tryz.prog W .any base t v := hval0
  have hW' := hW
  obtain ⟨p, q, hA0, hV, rfl, hfz, hnd⟩ := hW
  have hA : DataW.TrodAll enc Tryz.prog W 0 (fun _ => true) true Tryz.f5.params.toList args.toList ds p := hA0
  rw [Tryz.params5] at hA hval
  obtain ⟨v0, vs0, d0, ds0, p0, q0, hargs, rfl, rfl, h0, r0⟩ := trodAll_cons hA
  obtain ⟨rfl, rfl, rfl⟩ := trodAll_nil r0
  obtain rfl : args = #[v0] := by cases args; simp_all
  obtain ⟨rfl, rfl⟩ := trodVars_none hV
  have hv0 := hval 0 22 v0 rfl rfl
  obtain ⟨a0, len0, cap0, rfl⟩ := okWide_slice Tryz.underlying22 hv0
  have k0 := h0
  have lt0 : ∀ x ∈ p0, x.block < W.heap.size := by obtain ⟨m, hm⟩ := k0; exact DataW.trod_lt m _ _ _ hm
  obtain ⟨z0, w0⟩ : ∃ zs, IsRow .u8 W a0 len0 cap0 zs := by
    obtain ⟨fuel, hf⟩ := h0
    rcases open_ints Tryz.underlying22 Tryz.underlying5 (by kernel_rfl) hf with ⟨hcs, _⟩ | ⟨x, l, c, zs, hcs, _, hl, hm, hz, _, hcell, hwz⟩
    · simp [Value.cells] at hcs
      obtain ⟨rfl, rfl, rfl⟩ := hcs
      exact ⟨[], .inl ⟨rfl, rfl, rfl, rfl⟩⟩
    · simp [Value.cells] at hcs
      obtain ⟨rfl, rfl, rfl⟩ := hcs
      obtain ⟨b, off, spot⟩ := x
      simp only [Value.okWide, Tryz.underlying22, Cell.okWide, Cell.ok, World.has] at hv0
      obtain ⟨_, _, _, rfl, row, cells, hsh, _⟩ := hv0
      exact ⟨zs, .inr ⟨b, off, rfl, shape_lt hsh, hl, hm, by simpa using hz, fun i hi => by have q := hcell i hi; by_cases c : i = 0 <;> simpa [Addr.add, c] using q, hwz⟩⟩
  clear hA0 hval0
  refine (law_walk c_LawDeadLines w0).mono fun e W' ⟨he, bel⟩ => ?_
  subst he
  exact ⟨_, rfl, _, _, _, [], _, [], hW', trodAll_mk1 (shut_bool Tryz.underlying4 _), (trodAll_cons_mk (Below.trod laidOut (by kernel_rfl) (of_decide_eq_true (by kernel_rfl)) k0 bel lt0) trodAll_mk0), rfl, bel.frame _, fun h => by cases h⟩
theorem joined_deadLines : joinedFacts Tryz.pinned.checked.prog 5 Tryz.f5 Rows.fnDeadLinesSpec Rows.fnDeadLinesRow = true := by kernel_rfl
theorem wrap_deadLines : Tryz.f5.isWrapper Tryz.pinned.checked.prog Rows.fnDeadLinesRow.wrapper Rows.fnDeadLinesRow.mainSum := by unfold Func.isWrapper; first | (rw [if_pos (by decide +kernel)]; kernel_rfl) | (rw [if_neg (by decide +kernel)]; exact ⟨rfl, rfl⟩)
theorem part0_deadLines : namedPart Tryz.pinned.checked.prog Rows.fnDeadLinesRow.func 5 0 40 = true := by kernel_rfl
theorem part1_deadLines : namedPart Tryz.pinned.checked.prog Rows.fnDeadLinesRow.func 5 40 40 = true := by kernel_rfl
theorem part2_deadLines : namedPart Tryz.pinned.checked.prog Rows.fnDeadLinesRow.func 5 80 40 = true := by kernel_rfl
theorem part3_deadLines : namedPart Tryz.pinned.checked.prog Rows.fnDeadLinesRow.func 5 120 40 = true := by kernel_rfl
theorem part4_deadLines : namedPart Tryz.pinned.checked.prog Rows.fnDeadLinesRow.func 5 160 40 = true := by kernel_rfl
theorem part5_deadLines : namedPart Tryz.pinned.checked.prog Rows.fnDeadLinesRow.func 5 200 40 = true := by kernel_rfl
theorem part6_deadLines : namedPart Tryz.pinned.checked.prog Rows.fnDeadLinesRow.func 5 240 40 = true := by kernel_rfl
theorem part7_deadLines : namedPart Tryz.pinned.checked.prog Rows.fnDeadLinesRow.func 5 280 40 = true := by kernel_rfl
theorem named_deadLines : Tryz.pinned.checked.prog.funcNamed Rows.fnDeadLinesRow.func = some 5 := named_of (of_decide_eq_true (by kernel_rfl)) (of_decide_eq_true (by kernel_rfl)) part0_deadLines part1_deadLines part2_deadLines part3_deadLines part4_deadLines part5_deadLines part6_deadLines part7_deadLines
theorem inst_deadLines : Tryz.f5.isInstance Tryz.pinned.checked.prog Rows.fnDeadLinesRow.origin Rows.fnDeadLinesRow.targs := of_decide_eq_true (by kernel_rfl)
theorem over_deadLines : Rows.fnDeadLinesRow.holds Tryz.pinned (OpenSpec.ofChange Rows.fnDeadLinesSpec) :=
  OpenClaim.holds_of_wide 5 Tryz.f5 rfl rfl rfl rfl rfl rfl rfl ⟨rfl, rfl, rfl, rfl, rfl⟩ rfl rfl rfl rfl rfl named_deadLines Tryz.func5 joined_deadLines
    inst_deadLines wrap_deadLines
    (fun os started H enc _ => lift_deadLines os started H enc)
theorem deadLines : Rows.FnDeadLinesSaid := over_deadLines
end Go.Proofs.YtoacjmckefahcaaGreat
