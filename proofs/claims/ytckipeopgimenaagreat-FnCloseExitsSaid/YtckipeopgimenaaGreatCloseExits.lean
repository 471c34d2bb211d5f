/- The law 'FnCloseExits' answers true at every input. No condition. -/
import Derived.Test.YtckipeopgimenaaGreatJ4
import Derived.Test.YtckipeopgimenaaGreatJ6
set_option linter.unusedVariables false
set_option linter.unusedSimpArgs false
namespace Go.Proofs.YtckipeopgimenaaGreat
open Go Go.Sim Go.ChangeShapes Go.WideShapes Go.ChangeAt Go.RowKit
set_option maxRecDepth 100000
set_option linter.unusedVariables false

theorem lift_closeExits (os : Os) (started : os.Started) (H : Type) (enc : TypeId × Value → H) :
    ReturnsInHanded {} Tryz.checked os 7 .any (Rows.fnCloseExitsSpec.pre6 enc Tryz.prog Tryz.f7 Rows.fnCloseExitsRow.domain false) (Rows.fnCloseExitsSpec.post enc Tryz.prog Tryz.f7 false true false false) := by
  refine returnsInHanded_of_change (C := Tryz.checked) own started (by kernel_rfl) Tryz.func7
    (ChangeSpec.witness6 (enc := enc) (C := Tryz.checked) false ⟨#[], #[.slice none 0 0], []⟩ 8 (by kernel_rfl) (by kernel_rfl) (by kernel_rfl) (by kernel_rfl)) ?_
  intro W base args ds gs before hval0 hW hcnd _
  have hval : ∀ (j : Nat) t v, Tryz.f7.params[j]? = some t → args[j]? = some v → Value.okWide Tryz.prog W .any base t v := hval0
  have hW' := hW
  obtain ⟨p, q, hA0, hV, rfl, hfz, hnd⟩ := hW
  have hA : DataW.TrodAll enc Tryz.prog W 0 (fun _ => true) true Tryz.f7.params.toList args.toList ds p := hA0
  rw [Tryz.params7] at hA hval
  obtain ⟨v0, vs0, d0, ds0, p0, q0, hargs, rfl, rfl, h0, r0⟩ := trodAll_cons hA
  obtain ⟨rfl, rfl, rfl⟩ := trodAll_nil r0
  obtain rfl : args = #[v0] := by cases args; simp_all
  obtain ⟨rfl, rfl⟩ := trodVars_none hV
  have hv0 := hval 0 22 v0 rfl rfl
  obtain ⟨a0, len0, cap0, rfl⟩ := okWide_slice Tryz.underlying22 hv0
  have k0 := h0
  have lt0 : ∀ x ∈ p0, x.block < W.heap.size := by obtain ⟨m, hm⟩ := k0; exact DataW.trod_lt m _ _ _ hm
  obtain ⟨z0, w0⟩ : ∃ zs, IsRow .u8 W a0 len0 cap0 zs := by
    obtain ⟨fuel, hf⟩ := h0
    rcases open_ints Tryz.underlying22 Tryz.underlying5 (by kernel_rfl) hf with ⟨hcs, _⟩ | ⟨x, l, c, zs, hcs, _, hl, hm, hz, _, hcell, hwz⟩
    · simp [Value.cells] at hcs
      obtain ⟨rfl, rfl, rfl⟩ := hcs
      exact ⟨[], .inl ⟨rfl, rfl, rfl, rfl⟩⟩
    · simp [Value.cells] at hcs
      obtain ⟨rfl, rfl, rfl⟩ := hcs
      obtain ⟨b, off, spot⟩ := x
      simp only [Value.okWide, Tryz.underlying22, Cell.okWide, Cell.ok, World.has] at hv0
      obtain ⟨_, _, _, rfl, row, cells, hsh, _⟩ := hv0
      exact ⟨zs, .inr ⟨b, off, rfl, shape_lt hsh, hl, hm, by simpa using hz, fun i hi => by have q := hcell i hi; by_cases c : i = 0 <;> simpa [Addr.add, c] using q, hwz⟩⟩
  clear hA0 hval0
  refine (law_walk c_LawCloseExits w0).mono fun e W' ⟨he, bel⟩ => ?_
  subst he
  exact ⟨_, rfl, _, _, _, [], _, [], hW', trodAll_mk1 (shut_bool Tryz.underlying4 _), (trodAll_cons_mk (Below.trod laidOut (by kernel_rfl) (of_decide_eq_true (by kernel_rfl)) k0 bel lt0) trodAll_mk0), rfl, bel.frame _, fun h => by cases h⟩
theorem joined_closeExits : joinedFacts Tryz.pinned.checked.prog 7 Tryz.f7 Rows.fnCloseExitsSpec Rows.fnCloseExitsRow = true := by kernel_rfl
theorem wrap_closeExits : Tryz.f7.isWrapper Tryz.pinned.checked.prog Rows.fnCloseExitsRow.wrapper Rows.fnCloseExitsRow.mainSum := by unfold Func.isWrapper; first | (rw [if_pos (by decide +kernel)]; kernel_rfl) | (rw [if_neg (by decide +kernel)]; exact ⟨rfl, rfl⟩)
theorem part0_closeExits : namedPart Tryz.pinned.checked.prog Rows.fnCloseExitsRow.func 7 0 40 = true := by kernel_rfl
theorem part1_closeExits : namedPart Tryz.pinned.checked.prog Rows.fnCloseExitsRow.func 7 40 40 = true := by kernel_rfl
theorem part2_closeExits : namedPart Tryz.pinned.checked.prog Rows.fnCloseExitsRow.func 7 80 40 = true := by kernel_rfl
theorem part3_closeExits : namedPart Tryz.pinned.checked.prog Rows.fnCloseExitsRow.func 7 120 40 = true := by kernel_rfl
theorem part4_closeExits : namedPart Tryz.pinned.checked.prog Rows.fnCloseExitsRow.func 7 160 40 = true := by kernel_rfl
theorem part5_closeExits : namedPart Tryz.pinned.checked.prog Rows.fnCloseExitsRow.func 7 200 40 = true := by kernel_rfl
theorem part6_closeExits : namedPart Tryz.pinned.checked.prog Rows.fnCloseExitsRow.func 7 240 40 = true := by kernel_rfl
theorem part7_closeExits : namedPart Tryz.pinned.checked.prog Rows.fnCloseExitsRow.func 7 280 40 = true := by kernel_rfl
theorem named_closeExits : Tryz.pinned.checked.prog.funcNamed Rows.fnCloseExitsRow.func = some 7 := named_of (of_decide_eq_true (by kernel_rfl)) (of_decide_eq_true (by kernel_rfl)) part0_closeExits part1_closeExits part2_closeExits part3_closeExits part4_closeExits part5_closeExits part6_closeExits part7_closeExits
theorem inst_closeExits : Tryz.f7.isInstance Tryz.pinned.checked.prog Rows.fnCloseExitsRow.origin Rows.fnCloseExitsRow.targs := of_decide_eq_true (by kernel_rfl)
theorem over_closeExits : Rows.fnCloseExitsRow.holds Tryz.pinned (OpenSpec.ofChange Rows.fnCloseExitsSpec) :=
  OpenClaim.holds_of_wide 7 Tryz.f7 rfl rfl rfl rfl rfl rfl rfl ⟨rfl, rfl, rfl, rfl, rfl⟩ rfl rfl rfl rfl rfl named_closeExits Tryz.func7 joined_closeExits
    inst_closeExits wrap_closeExits
    (fun os started H enc _ => lift_closeExits os started H enc)
theorem closeExits : Rows.FnCloseExitsSaid := over_closeExits
end Go.Proofs.YtckipeopgimenaaGreat
