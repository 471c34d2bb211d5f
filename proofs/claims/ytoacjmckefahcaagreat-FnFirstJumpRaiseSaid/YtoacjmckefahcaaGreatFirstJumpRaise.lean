/- The law 'FnFirstJumpRaise' answers true at every input. No condition. -/
import Derived.Test.YtoacjmckefahcaaGreatJ2
import Derived.Test.YtoacjmckefahcaaGreatJ6
set_option linter.unusedVariables false
set_option linter.unusedSimpArgs false
namespace Go.Proofs.YtoacjmckefahcaaGreat
open Go Go.Sim Go.ChangeShapes Go.WideShapes Go.ChangeAt Go.RowKit
set_option maxRecDepth 100000
set_option linter.unusedVariables false

theorem lift_firstJumpRaise (os : Os) (started : os.Started) (H : Type) (enc : TypeId × Value → H) :
    ReturnsInHanded {} Tryz.checked os 7 .any (Rows.fnFirstJumpRaiseSpec.pre6 enc Tryz.prog Tryz.f7 Rows.fnFirstJumpRaiseRow.domain false) (Rows.fnFirstJumpRaiseSpec.post enc Tryz.prog Tryz.f7 false true false false) := by
  refine returnsInHanded_of_change (C := Tryz.checked) own started (by kernel_rfl) Tryz.func7
    (ChangeSpec.witness6 (enc := enc) (C := Tryz.checked) false ⟨#[], #[.slice none 0 0], []⟩ 8 (by kernel_rfl) (by kernel_rfl) (by kernel_rfl) (by kernel_rfl)) ?_
  intro W base args ds gs before hval0 hW hcnd _
  have hval : ∀ (j : Nat) t v, Tryz.f7.params[j]? = some t → args[j]? = some v → Value.okWide Tryz.prog W .any base t v := hval0
  have hW' := hW
  obtain ⟨p, q, hA0, hV, rfl, hfz, hnd⟩ := hW
  have hA : DataW.TrodAll enc Tryz.prog W 0 (fun _ => true) true Tryz.f7.params.toList args.toList ds p := hA0
  rw [Tryz.params7] at hA hval
  obtain ⟨v0, vs0, d0, ds0, p0, q0, hargs, rfl, rfl, h0, r0⟩ := trodAll_cons hA
  obtain ⟨rfl, rfl, rfl⟩ := trodAll_nil r0
  obtain rfl : args = #[v0] := by cases args; simp_all
  obtain ⟨rfl, rfl⟩ := trodVars_none hV
  have hv0 := hval 0 22 v0 rfl rfl
  obtain ⟨a0, len0, cap0, rfl⟩ := okWide_slice Tryz.underlying22 hv0
  have k0 := h0
  have lt0 : ∀ x ∈ p0, x.block < W.heap.size := by obtain ⟨m, hm⟩ := k0; exact DataW.trod_lt m _ _ _ hm
  obtain ⟨z0, w0⟩ : ∃ zs, IsRow .u8 W a0 len0 cap0 zs := by
    obtain ⟨fuel, hf⟩ := h0
    rcases open_ints Tryz.underlying22 Tryz.underlying5 (by kernel_rfl) hf with ⟨hcs, _⟩ | ⟨x, l, c, zs, hcs, _, hl, hm, hz, _, hcell, hwz⟩
    · simp [Value.cells] at hcs
      obtain ⟨rfl, rfl, rfl⟩ := hcs
      exact ⟨[], .inl ⟨rfl, rfl, rfl, rfl⟩⟩
    · simp [Value.cells] at hcs
      obtain ⟨rfl, rfl, rfl⟩ := hcs
      obtain ⟨b, off, spot⟩ := x
      simp only [Value.okWide, Tryz.underlying22, Cell.okWide, Cell.ok, World.has] at hv0
      obtain ⟨_, _, _, rfl, row, cells, hsh, _⟩ := hv0
      exact ⟨zs, .inr ⟨b, off, rfl, shape_lt hsh, hl, hm, by simpa using hz, fun i hi => by have q := hcell i hi; by_cases c : i = 0 <;> simpa [Addr.add, c] using q, hwz⟩⟩
  clear hA0 hval0
  refine (law_walk c_LawFirstJumpRaise w0).mono fun e W' ⟨he, bel⟩ => ?_
  subst he
  exact ⟨_, rfl, _, _, _, [], _, [], hW', trodAll_mk1 (shut_bool Tryz.underlying4 _), (trodAll_cons_mk (Below.trod laidOut (by kernel_rfl) (of_decide_eq_true (by kernel_rfl)) k0 bel lt0) trodAll_mk0), rfl, bel.frame _, fun h => by cases h⟩
theorem joined_firstJumpRaise : joinedFacts Tryz.pinned.checked.prog 7 Tryz.f7 Rows.fnFirstJumpRaiseSpec Rows.fnFirstJumpRaiseRow = true := by kernel_rfl
theorem wrap_firstJumpRaise : Tryz.f7.isWrapper Tryz.pinned.checked.prog Rows.fnFirstJumpRaiseRow.wrapper Rows.fnFirstJumpRaiseRow.mainSum := by unfold Func.isWrapper; first | (rw [if_pos (by decide +kernel)]; kernel_rfl) | (rw [if_neg (by decide +kernel)]; exact ⟨rfl, rfl⟩)
theorem part0_firstJumpRaise : namedPart Tryz.pinned.checked.prog Rows.fnFirstJumpRaiseRow.func 7 0 40 = true := by kernel_rfl
theorem part1_firstJumpRaise : namedPart Tryz.pinned.checked.prog Rows.fnFirstJumpRaiseRow.func 7 40 40 = true := by kernel_rfl
theorem part2_firstJumpRaise : namedPart Tryz.pinned.checked.prog Rows.fnFirstJumpRaiseRow.func 7 80 40 = true := by kernel_rfl
theorem part3_firstJumpRaise : namedPart Tryz.pinned.checked.prog Rows.fnFirstJumpRaiseRow.func 7 120 40 = true := by kernel_rfl
theorem part4_firstJumpRaise : namedPart Tryz.pinned.checked.prog Rows.fnFirstJumpRaiseRow.func 7 160 40 = true := by kernel_rfl
theorem part5_firstJumpRaise : namedPart Tryz.pinned.checked.prog Rows.fnFirstJumpRaiseRow.func 7 200 40 = true := by kernel_rfl
theorem part6_firstJumpRaise : namedPart Tryz.pinned.checked.prog Rows.fnFirstJumpRaiseRow.func 7 240 40 = true := by kernel_rfl
theorem part7_firstJumpRaise : namedPart Tryz.pinned.checked.prog Rows.fnFirstJumpRaiseRow.func 7 280 40 = true := by kernel_rfl
theorem named_firstJumpRaise : Tryz.pinned.checked.prog.funcNamed Rows.fnFirstJumpRaiseRow.func = some 7 := named_of (of_decide_eq_true (by kernel_rfl)) (of_decide_eq_true (by kernel_rfl)) part0_firstJumpRaise part1_firstJumpRaise part2_firstJumpRaise part3_firstJumpRaise part4_firstJumpRaise part5_firstJumpRaise part6_firstJumpRaise part7_firstJumpRaise
theorem inst_firstJumpRaise : Tryz.f7.isInstance Tryz.pinned.checked.prog Rows.fnFirstJumpRaiseRow.origin Rows.fnFirstJumpRaiseRow.targs := of_decide_eq_true (by kernel_rfl)
theorem over_firstJumpRaise : Rows.fnFirstJumpRaiseRow.holds Tryz.pinned (OpenSpec.ofChange Rows.fnFirstJumpRaiseSpec) :=
  OpenClaim.holds_of_wide 7 Tryz.f7 rfl rfl rfl rfl rfl rfl rfl ⟨rfl, rfl, rfl, rfl, rfl⟩ rfl rfl rfl rfl rfl named_firstJumpRaise Tryz.func7 joined_firstJumpRaise
    inst_firstJumpRaise wrap_firstJumpRaise
    (fun os started H enc _ => lift_firstJumpRaise os started H enc)
theorem firstJumpRaise : Rows.FnFirstJumpRaiseSaid := over_firstJumpRaise
end Go.Proofs.YtoacjmckefahcaaGreat
