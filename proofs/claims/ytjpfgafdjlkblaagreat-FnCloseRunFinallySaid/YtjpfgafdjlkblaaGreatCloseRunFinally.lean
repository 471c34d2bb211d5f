/- The law 'FnCloseRunFinally' answers true at every input. No condition. -/
import Derived.Test.YtjpfgafdjlkblaaGreatJ2
import Derived.Test.YtjpfgafdjlkblaaGreatJ5
namespace Go.Proofs.YtjpfgafdjlkblaaGreat
open Go Go.Sim Go.ChangeShapes Go.WideShapes Go.ChangeAt Go.RowKit
set_option maxRecDepth 100000

theorem lift_closeRunFinally (os : Os) (started : os.Started) (H : Type) (enc : TypeId × Value → H) :
    ReturnsInHanded {} Tryz.checked os 3 .any (Rows.fnCloseRunFinallySpec.pre6 enc Tryz.prog Tryz.f3 Rows.fnCloseRunFinallyRow.domain false) (Rows.fnCloseRunFinallySpec.post enc Tryz.prog Tryz.f3 false true false false) := by
  refine returnsInHanded_of_change (C := Tryz.checked) own started (by kernel_rfl) Tryz.func3
    (ChangeSpec.witness6 (enc := enc) (C := Tryz.checked) false ⟨#[], #[.slice none 0 0], []⟩ 8 (by kernel_rfl) (by kernel_rfl) (by kernel_rfl) (by kernel_rfl)) ?_
  intro W base args ds gs before hval0 hW hcnd _
  have hval : ∀ (j : Nat) t v, Tryz.f3.params[j]? = some t → args[j]? = some v → Value.okWide Tryz.prog W .any base t v := hval0
  have hW' := hW
  obtain ⟨p, q, hA0, hV, rfl, hfz, hnd⟩ := hW
  have hA : DataW.TrodAll enc Tryz.prog W 0 (fun _ => true) true Tryz.f3.params.toList args.toList ds p := hA0
  rw [Tryz.params3] at hA hval
  obtain ⟨v0, vs0, d0, ds0, p0, q0, hargs, rfl, rfl, h0, r0⟩ := trodAll_cons hA
  obtain ⟨rfl, rfl, rfl⟩ := trodAll_nil r0
  obtain rfl : args = #[v0] := by cases args; simp_all
  obtain ⟨rfl, rfl⟩ := trodVars_none hV
  have hv0 := hval 0 22 v0 rfl rfl
  obtain ⟨a0, len0, cap0, rfl⟩ := okWide_slice Tryz.underlying22 hv0
  have k0 := h0
  have lt0 : ∀ x ∈ p0, x.block < W.heap.size := by obtain ⟨m, hm⟩ := k0; exact DataW.trod_lt m _ _ _ hm
  obtain ⟨z0, w0⟩ : ∃ zs, IsRow .u8 W a0 len0 cap0 zs := by
    obtain ⟨fuel, hf⟩ := h0
    rcases open_ints Tryz.underlying22 Tryz.underlying5 (by kernel_rfl) hf with ⟨hcs, _⟩ | ⟨x, l, c, zs, hcs, _, hl, hm, hz, _, hcell, hwz⟩
    · simp [Value.cells] at hcs
      obtain ⟨rfl, rfl, rfl⟩ := hcs
      exact ⟨[], .inl ⟨rfl, rfl, rfl, rfl⟩⟩
    · simp [Value.cells] at hcs
      obtain ⟨rfl, rfl, rfl⟩ := hcs
      obtain ⟨b, off, spot⟩ := x
      simp only [Value.okWide, Tryz.underlying22, Cell.okWide, Cell.ok, World.has] at hv0
      obtain ⟨_, _, _, rfl, row, cells, hsh, _⟩ := hv0
      exact ⟨zs, .inr ⟨b, off, rfl, shape_lt hsh, hl, hm, by simpa using hz, fun i hi => by have q := hcell i hi; by_cases c : i = 0 <;> simpa [Addr.add, c] using q, hwz⟩⟩
  clear hA0 hval0
  refine (law_walk c_LawCloseRunFinally w0).mono fun e W' ⟨he, bel⟩ => ?_
  subst he
  exact ⟨_, rfl, _, _, _, [], _, [], hW', trodAll_mk1 (shut_bool Tryz.underlying4 _), (trodAll_cons_mk (Below.trod laidOut (by kernel_rfl) (of_decide_eq_true (by kernel_rfl)) k0 bel lt0) trodAll_mk0), rfl, bel.frame _, fun h => by cases h⟩
theorem joined_closeRunFinally : joinedFacts Tryz.pinned.checked.prog 3 Tryz.f3 Rows.fnCloseRunFinallySpec Rows.fnCloseRunFinallyRow = true := by kernel_rfl
theorem wrap_closeRunFinally : Tryz.f3.isWrapper Tryz.pinned.checked.prog Rows.fnCloseRunFinallyRow.wrapper Rows.fnCloseRunFinallyRow.mainSum := by unfold Func.isWrapper; first | (rw [if_pos (by decide +kernel)]; kernel_rfl) | (rw [if_neg (by decide +kernel)]; exact ⟨rfl, rfl⟩)
theorem part0_closeRunFinally : namedPart Tryz.pinned.checked.prog Rows.fnCloseRunFinallyRow.func 3 0 40 = true := by kernel_rfl
theorem part1_closeRunFinally : namedPart Tryz.pinned.checked.prog Rows.fnCloseRunFinallyRow.func 3 40 40 = true := by kernel_rfl
theorem part2_closeRunFinally : namedPart Tryz.pinned.checked.prog Rows.fnCloseRunFinallyRow.func 3 80 40 = true := by kernel_rfl
theorem part3_closeRunFinally : namedPart Tryz.pinned.checked.prog Rows.fnCloseRunFinallyRow.func 3 120 40 = true := by kernel_rfl
theorem part4_closeRunFinally : namedPart Tryz.pinned.checked.prog Rows.fnCloseRunFinallyRow.func 3 160 40 = true := by kernel_rfl
theorem part5_closeRunFinally : namedPart Tryz.pinned.checked.prog Rows.fnCloseRunFinallyRow.func 3 200 40 = true := by kernel_rfl
theorem part6_closeRunFinally : namedPart Tryz.pinned.checked.prog Rows.fnCloseRunFinallyRow.func 3 240 40 = true := by kernel_rfl
theorem part7_closeRunFinally : namedPart Tryz.pinned.checked.prog Rows.fnCloseRunFinallyRow.func 3 280 40 = true := by kernel_rfl
theorem named_closeRunFinally : Tryz.pinned.checked.prog.funcNamed Rows.fnCloseRunFinallyRow.func = some 3 := named_of (of_decide_eq_true (by kernel_rfl)) (of_decide_eq_true (by kernel_rfl)) part0_closeRunFinally part1_closeRunFinally part2_closeRunFinally part3_closeRunFinally part4_closeRunFinally part5_closeRunFinally part6_closeRunFinally part7_closeRunFinally
theorem inst_closeRunFinally : Tryz.f3.isInstance Tryz.pinned.checked.prog Rows.fnCloseRunFinallyRow.origin Rows.fnCloseRunFinallyRow.targs := of_decide_eq_true (by kernel_rfl)
theorem over_closeRunFinally : Rows.fnCloseRunFinallyRow.holds Tryz.pinned (OpenSpec.ofChange Rows.fnCloseRunFinallySpec) :=
  OpenClaim.holds_of_wide 3 Tryz.f3 rfl rfl rfl rfl rfl rfl rfl ⟨rfl, rfl, rfl, rfl, rfl⟩ rfl rfl rfl rfl rfl named_closeRunFinally Tryz.func3 joined_closeRunFinally
    inst_closeRunFinally wrap_closeRunFinally
    (fun os started H enc _ => lift_closeRunFinally os started H enc)
theorem closeRunFinally : Rows.FnCloseRunFinallySaid := over_closeRunFinally
end Go.Proofs.YtjpfgafdjlkblaaGreat
