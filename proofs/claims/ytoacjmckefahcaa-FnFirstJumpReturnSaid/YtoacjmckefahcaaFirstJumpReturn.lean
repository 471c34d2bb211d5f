/- The law 'FnFirstJumpReturn' answers true at every input. No condition. -/
import Derived.Test.YtoacjmckefahcaaJ1
import Derived.Test.YtoacjmckefahcaaJ6
set_option linter.unusedVariables false
set_option linter.unusedSimpArgs false
namespace Go.Proofs.Ytoacjmckefahcaa
open Go Go.Sim Go.ChangeShapes Go.WideShapes Go.ChangeAt Go.RowKit
set_option maxRecDepth 100000
set_option linter.unusedVariables false

theorem lift_firstJumpReturn (os : Os) (started : os.Started) (H : Type) (enc : TypeId × Value → H) :
    ReturnsInHanded {} Try.checked os 4 .any (Rows.fnFirstJumpReturnSpec.pre6 enc Try.prog Try.f4 Rows.fnFirstJumpReturnRow.domain false) (Rows.fnFirstJumpReturnSpec.post enc Try.prog Try.f4 false true false false) := by
  refine returnsInHanded_of_change (C := Try.checked) own started (by kernel_rfl) Try.func4
    (ChangeSpec.witness6 (enc := enc) (C := Try.checked) false ⟨#[], #[.slice none 0 0], []⟩ 8 (by kernel_rfl) (by kernel_rfl) (by kernel_rfl) (by kernel_rfl)) ?_
  intro W base args ds gs before hval0 hW hcnd _
  have hval : ∀ (j : Nat) t v, Try.f4.params[j]? = some t → args[j]? = some v → Value.okWide Try.prog W .any base t v := hval0
  have hW' := hW
  obtain ⟨p, q, hA0, hV, rfl, hfz, hnd⟩ := hW
  have hA : DataW.TrodAll enc Try.prog W 0 (fun _ => true) true Try.f4.params.toList args.toList ds p := hA0
  rw [Try.params4] at hA hval
  obtain ⟨v0, vs0, d0, ds0, p0, q0, hargs, rfl, rfl, h0, r0⟩ := trodAll_cons hA
  obtain ⟨rfl, rfl, rfl⟩ := trodAll_nil r0
  obtain rfl : args = #[v0] := by cases args; simp_all
  obtain ⟨rfl, rfl⟩ := trodVars_none hV
  have hv0 := hval 0 37 v0 rfl rfl
  obtain ⟨a0, len0, cap0, rfl⟩ := okWide_slice Try.underlying37 hv0
  have k0 := h0
  have lt0 : ∀ x ∈ p0, x.block < W.heap.size := by obtain ⟨m, hm⟩ := k0; exact DataW.trod_lt m _ _ _ hm
  obtain ⟨z0, w0⟩ : ∃ zs, IsRow .u8 W a0 len0 cap0 zs := by
    obtain ⟨fuel, hf⟩ := h0
    rcases open_ints Try.underlying37 Try.underlying5 (by kernel_rfl) hf with ⟨hcs, _⟩ | ⟨x, l, c, zs, hcs, _, hl, hm, hz, _, hcell, hwz⟩
    · simp [Value.cells] at hcs
      obtain ⟨rfl, rfl, rfl⟩ := hcs
      exact ⟨[], .inl ⟨rfl, rfl, rfl, rfl⟩⟩
    · simp [Value.cells] at hcs
      obtain ⟨rfl, rfl, rfl⟩ := hcs
      obtain ⟨b, off, spot⟩ := x
      simp only [Value.okWide, Try.underlying37, Cell.okWide, Cell.ok, World.has] at hv0
      obtain ⟨_, _, _, rfl, row, cells, hsh, _⟩ := hv0
      exact ⟨zs, .inr ⟨b, off, rfl, shape_lt hsh, hl, hm, by simpa using hz, fun i hi => by have q := hcell i hi; by_cases c : i = 0 <;> simpa [Addr.add, c] using q, hwz⟩⟩
  clear hA0 hval0
  refine (law_walk c_LawFirstJumpReturn w0).mono fun e W' ⟨he, bel⟩ => ?_
  subst he
  exact ⟨_, rfl, _, _, _, [], _, [], hW', trodAll_mk1 (shut_bool Try.underlying4 _), (trodAll_cons_mk (Below.trod laidOut (by kernel_rfl) (of_decide_eq_true (by kernel_rfl)) k0 bel lt0) trodAll_mk0), rfl, bel.frame _, fun h => by cases h⟩
theorem joined_firstJumpReturn : joinedFacts Try.pinned.checked.prog 4 Try.f4 Rows.fnFirstJumpReturnSpec Rows.fnFirstJumpReturnRow = true := by kernel_rfl
theorem wrap_firstJumpReturn : Try.f4.isWrapper Try.pinned.checked.prog Rows.fnFirstJumpReturnRow.wrapper Rows.fnFirstJumpReturnRow.mainSum := by unfold Func.isWrapper; first | (rw [if_pos (by decide +kernel)]; kernel_rfl) | (rw [if_neg (by decide +kernel)]; exact ⟨rfl, rfl⟩)
theorem part0_firstJumpReturn : namedPart Try.pinned.checked.prog Rows.fnFirstJumpReturnRow.func 4 0 40 = true := by kernel_rfl
theorem part1_firstJumpReturn : namedPart Try.pinned.checked.prog Rows.fnFirstJumpReturnRow.func 4 40 40 = true := by kernel_rfl
theorem part2_firstJumpReturn : namedPart Try.pinned.checked.prog Rows.fnFirstJumpReturnRow.func 4 80 40 = true := by kernel_rfl
theorem part3_firstJumpReturn : namedPart Try.pinned.checked.prog Rows.fnFirstJumpReturnRow.func 4 120 40 = true := by kernel_rfl
theorem part4_firstJumpReturn : namedPart Try.pinned.checked.prog Rows.fnFirstJumpReturnRow.func 4 160 40 = true := by kernel_rfl
theorem part5_firstJumpReturn : namedPart Try.pinned.checked.prog Rows.fnFirstJumpReturnRow.func 4 200 40 = true := by kernel_rfl
theorem part6_firstJumpReturn : namedPart Try.pinned.checked.prog Rows.fnFirstJumpReturnRow.func 4 240 40 = true := by kernel_rfl
theorem part7_firstJumpReturn : namedPart Try.pinned.checked.prog Rows.fnFirstJumpReturnRow.func 4 280 40 = true := by kernel_rfl
theorem named_firstJumpReturn : Try.pinned.checked.prog.funcNamed Rows.fnFirstJumpReturnRow.func = some 4 := named_of (of_decide_eq_true (by kernel_rfl)) (of_decide_eq_true (by kernel_rfl)) part0_firstJumpReturn part1_firstJumpReturn part2_firstJumpReturn part3_firstJumpReturn part4_firstJumpReturn part5_firstJumpReturn part6_firstJumpReturn part7_firstJumpReturn
theorem inst_firstJumpReturn : Try.f4.isInstance Try.pinned.checked.prog Rows.fnFirstJumpReturnRow.origin Rows.fnFirstJumpReturnRow.targs := of_decide_eq_true (by kernel_rfl)
theorem over_firstJumpReturn : Rows.fnFirstJumpReturnRow.holds Try.pinned (OpenSpec.ofChange Rows.fnFirstJumpReturnSpec) :=
  OpenClaim.holds_of_wide 4 Try.f4 rfl rfl rfl rfl rfl rfl rfl ⟨rfl, rfl, rfl, rfl, rfl⟩ rfl rfl rfl rfl rfl named_firstJumpReturn Try.func4 joined_firstJumpReturn
    inst_firstJumpReturn wrap_firstJumpReturn
    (fun os started H enc _ => lift_firstJumpReturn os started H enc)
theorem firstJumpReturn : Rows.FnFirstJumpReturnSaid := over_firstJumpReturn
end Go.Proofs.Ytoacjmckefahcaa
