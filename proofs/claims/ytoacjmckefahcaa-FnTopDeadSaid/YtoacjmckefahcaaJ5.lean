/- Walks and plain laws that the claims of this seat lean on. No condition. -/
import Derived.Test.YtoacjmckefahcaaJ4
import Derived.Test.YtoacjmckefahcaaJ1
set_option linter.unusedVariables false
set_option linter.unusedSimpArgs false
namespace Go.Proofs.Ytoacjmckefahcaa
open Go Go.Sim
section
set_option maxRecDepth 100000
attribute [local go_sem ↓] aw_skip aw_ret aw_exit aw_region aw_draw aw_seq aw_block aw_loop aw_cond frz_nil frz_cons sq_normal sq_ret sq_exit exB_normal exB_ret exB_same exB_other retQ_ret retQ_normal ret0_ret ret0_normal ao_nil go1 g_move g_assign g_pick g_build g_load g_binOp g_unOp g_convert g_fieldAddr g_field g_indexAddr g_index g_extract g_lookup g_slice g_nilCheck g_len g_makeFunc h_call h_append h_alloc h_box h_buildSlice h_makeSlice h_store gV i_box i_buildSlice i_move i_assign i_build i_load i_binOp i_unOp i_convert i_fieldAddr i_field i_indexAddr i_index i_extract i_lookup i_makeMap i_mapUpdate i_slice i_nilCheck i_makeFunc i_len i_max i_min i_alloc i_makeSlice i_store i_append i_call i_pick boxI boxA buildSliceI buildSliceA makeSliceA makeMapA allocA storeA p_move p_assign p_pick p_build p_load p_binOp p_unOp p_convert p_fieldAddr p_field p_indexAddr p_index p_extract p_lookup p_makeMap p_mapUpdate p_slice p_nilCheck p_makeFunc p_len p_max p_min p_alloc p_box p_buildSlice p_makeSlice p_store p_append p_call x_nil x_go1 x_g0 x_g1 x_g2 x_g3 x_s0 x_s1 x_s2 x_s3 u_move u_assign u_pick u_build u_load u_binOp u_unOp u_convert u_fieldAddr u_field u_indexAddr u_index u_extract u_lookup u_slice u_nilCheck u_makeFunc u_len u_buildSlice x_s4 x_g4 rq_normal rq_ret rq_exit aw_range
attribute [local go_sem] frzV_sl frzK_some set_none set_other AHeap.set_self set_del set_set cnd_t cnd_f cnd_b retA_one retA_two retA_three retA_four retA_nil gIf_b mrgV_b mrgV_wh mrgV_U gIf_U gIf_wh mrgB_f mrgB_some mrgB_if wh_true wh_false keepA_some keepA_if gD_zero gD_succ gT_some bxA_t bxA_f callA_fn ev_tmp ev_const ev_global ev_func oc_bool oc_int oc_string oc_nil oc_nilptr oc_nilfunc cl_bool cl_int cl_string cl_nil updO_some updO_none upd_same upd_other init_at pickA_b pickA_wh selA_t selA_f selA_and selA_or selA_orn selA_orm selA_bb selA_ii beqt b_add b_sub b_mul b_and b_or b_xor b_eql b_neq b_lss b_leq b_gtr b_geq b_quo b_rem b_shr b_seql b_sneq b_sadd b_beql b_bneq b_aeql b_aneq u_not u_neg isConstOp eqA eqCellV List.getD_cons_zero List.getD_cons_succ List.map_cons List.map_nil List.nil_append List.cons_append List.append_nil if_true if_false Option.map_some Option.map_none ne_eq not_false_eq_true oneA ldv ld1v ld1s wr1s ldRow stRow row_lit row_agg row_vsl row_sl row_ptr row_fn one_I one_B one_S one_vsl one_sl one_ptr one_fn extractA okA rI rS rU rClass rFault rExit rStart rLine Int.toNat_natCast List.length_cons List.length_nil List.length_map List.all_cons List.all_nil Bool.and_true Nat.zero_add List.getElem?_cons_zero List.getElem?_cons_succ List.take_succ_cons List.take_zero List.drop_succ_cons List.drop_zero and_self true_and and_true implies_true decide_eq_true_eq decide_eq_false_iff_not Bool.or_eq_true Bool.or_eq_false_iff Bool.and_eq_true Bool.not_eq_true' Bool.not_eq_false' beq_false decide_true decide_false Int.ofNat_lt Int.ofNat_le Int.natCast_nonneg Bool.or_true Bool.or_false Bool.true_or Bool.false_or beq_self_eq_true List.drop_one Bool.not_true Bool.not_false Bool.not_not Bool.false_eq_true Bool.true_eq_false false_implies true_implies Bool.true_and Bool.false_and Bool.and_false not_true_eq_false Int.natCast_eq_zero Int.natCast_pos Int.natCast_zero false_and and_false or_false false_or or_true true_or Bool.or_self none_le_iff List.replicate_zero Int.toNat_zero List.replicate_succ buildRows List.set_cons_zero List.set_cons_succ List.set_nil List.mapM_nil maxLen_eq Nat.zero_le Nat.mul_one Nat.one_mul bldA fillA spliceA List.take_nil List.drop_nil List.getElem?_nil ld1o wr1o bldSliceA le_same cv_i cvI_t quietT_fn qvd_some ld_o ldO_1 ldO_l wr_o wrO_1 set_2 set_3 set_4 putL_nil putL_cons List.zip_cons_cons List.zip_nil_left List.zip_nil_right List.toList_toArray frzV_set ti1 ti2 tk2 ti3 te3 ts3 tk3 tz3 ti4 tb4 ti5 tk5 tz5 ti9 te9 ts9 tk9 tz9 ti12 tk12 ti13 tp13 tf13_0 tf13_1 ti20 ti21 tk21 tz21 ti22 te22 ti23 tp23 tf23_0 ti24 tp24 tf24_0 ti25 te25 ti26 ti27 ti28 ti29 ti30 te30 ti31 te31 ti32 tp32 tf32_0 ti33 tp33 tf33_0 ti34 tp34 tf34_0 tf34_1 tf34_2 tf34_3 ti35 tp35 tf35_0 tf35_1 tf35_2 tf35_3 ti36 ti37 te37 tz37 ti39 ti40 ti41 tq41 tp41 tf41_0 tf41_1 tf41_2 tf41_3 ti42 tq42 tp42 tf42_0 tf42_1 tf42_2 tf42_3 ti43 ti44 ti45 ti46 ti47 ti48 ti49 ti50 ti51 ti52 ti53 ti54 ti55 ti56 ti57 ti58 ti59 tq59 tp59 tf59_0 tf59_1 ti60 tq60 tp60 tf60_0 tf60_1 ti61 ti62 ti63 ti64 ti65 tp65 tf65_0 tf65_1 tf65_2 tf65_3 tf65_4 ti66 tp66 tf66_0 tf66_1 tf66_2 tf66_3 tf66_4 ti67 ti68 ti69 ti70 ti71 ti72 ti73 ti74 ti75 ti76 tq76 tp76 tf76_0 tf76_1 ti77 tq77 tp77 tf77_0 tf77_1 ti78 ti79 ti80 tq80 tp80 tf80_0 tf80_1 tf80_2 tf80_3 tf80_4 ti81 tq81 tp81 tf81_0 tf81_1 tf81_2 tf81_3 tf81_4 ti82 ti84 ti85 ti86 ti87 ti88 ti89 ti90 ti91 tp91 tf91_0 tf91_1 ti92 tp92 tf92_0 tf92_1 ti93 ti94 ti95 ti96 ti97 ti98 ti99 ti100 ti101 ti102 ti103 ti104 te104 ti105 ti106 ti107 ti108 ti109 ti110 ti111 ti112 ti113 tk113 tz113 ti114 ti115 ti116 tk116 ti118 ti119 ti120 ti122 ti123 ti124 tk124 tz124 ti125 ti126 tk126 tz126 ti127 ti128 tk128 ti129 ti130 ti131 ti132 ti133 ti134 ti136 ti137 ti143 ti147 fp13_0 fv13_0 fp13_1 fv13_1 fp23_0 fv23_0 fp24_0 fv24_0 fp32_0 fv32_0 fp33_0 fv33_0 fp34_0 fv34_0 fp34_1 fv34_1 fp34_2 fv34_2 fp34_3 fv34_3 fp35_0 fv35_0 fp35_1 fv35_1 fp35_2 fv35_2 fp35_3 fv35_3 fp41_0 fv41_0 fp41_1 fv41_1 fp41_2 fv41_2 fp41_3 fv41_3 fp42_0 fv42_0 fp42_1 fv42_1 fp42_2 fv42_2 fp42_3 fv42_3 fp59_0 fv59_0 fp59_1 fv59_1 fp60_0 fv60_0 fp60_1 fv60_1 fp65_0 fv65_0 fp65_1 fv65_1 fp65_2 fv65_2 fp65_3 fv65_3 fp65_4 fv65_4 fp66_0 fv66_0 fp66_1 fv66_1 fp66_2 fv66_2 fp66_3 fv66_3 fp66_4 fv66_4 fp76_0 fv76_0 fp76_1 fv76_1 fp77_0 fv77_0 fp77_1 fv77_1 fp80_0 fv80_0 fp80_1 fv80_1 fp80_2 fv80_2 fp80_3 fv80_3 fp80_4 fv80_4 fp81_0 fv81_0 fp81_1 fv81_1 fp81_2 fv81_2 fp81_3 fv81_3 fp81_4 fv81_4 fp91_0 fv91_0 fp91_1 fv91_1 fp92_0 fv92_0 fp92_1 fv92_1 lv22 ll22 is22 ix22 sh22 so22 sb22 sm22 sp22 lv25 ll25 is25 ix25 sh25 so25 sb25 sm25 sp25 lv30 ll30 is30 ix30 sh30 so30 sb30 sm30 sp30 lv31 ll31 is31 ix31 sh31 so31 sb31 sm31 sp31 lv37 ll37 is37 ix37 sh37 so37 sb37 sm37 sp37 lv104 ll104 is104 ix104 sh104 so104 sb104 sm104 sp104 xs9 ls9 sx9 sy9 sz9
section
open Go Go.Sim
set_option maxRecDepth 100000
set_option maxHeartbeats 4000000

theorem valid_cls {t : List Class} {p : List Line} (h : ValidP t p) {i : Nat} (hi : i < p.length) (h8 : kd p i = 8) : hasF t (ak p i) = true := by
  obtain ⟨d, k, a, b, kids, rest, ha, hc⟩ := cx_all h hi
  obtain ⟨e1, e2, e3, _⟩ := dp_head ha
  have hn := (numsF_node hc.nums).1
  rw [e2] at h8
  subst h8
  unfold numOk at hn
  simp only [show ¬ ((8 : Int) = 1 ∨ (8 : Int) = 4) by decide, show ¬ (8 : Int) = 2 by decide, if_false, if_true, Bool.and_eq_true] at hn
  have ea : ak p i = a := e3
  rw [ea]; exact hn.1
theorem c_first1 (t : List Class) (cl : Bool) (a b : Int) (H : AHeap) (hv : validT t = true) (ha : a < t.length) : ACalls Try.prog 66 [I b, .vptr [[.vsl (t.map rClass) cl]] 0 0, .vptr [[I a]] 0 0] H fun r H' => r = B (isF t a b) ∧ H' = H := by
  refine acalls_of0 Try.func66 rfl (by kernel_rfl) rfl rfl (awp_sound (fz := fun _ => []) (im := fun _ => false) mixed _ _ _ _ (by kernel_rfl) ?_)
  simp +contextual -dsimp -implicitDefEqProofs (maxSteps := 5000000) only [go_sem, reduceIte, reduceCtorEq, Nat.reduceEqDiff, Nat.reduceBEq, Nat.reduceAdd, Nat.reduceLeDiff, Nat.reduceMul, Nat.reduceLT, Int.reduceEq, Int.reduceLT, Int.reduceLE]
  exact (c_is t cl a b _ hv ha).det (by simp +contextual -dsimp -implicitDefEqProofs (maxSteps := 5000000) only [go_sem, reduceIte, reduceCtorEq, Nat.reduceEqDiff, Nat.reduceBEq, Nat.reduceAdd, Nat.reduceLeDiff, Nat.reduceMul, Nat.reduceLT, Int.reduceEq, Int.reduceLT, Int.reduceLE]; rfl)
theorem c_first (t : List Class) (cl : Bool) (l : List Int) (cl2 : Bool) (a : Int) (H : AHeap) (hv : validT t = true) (ha : a < t.length) : ACalls Try.prog 37 [aTree t cl, .vsl (l.map rI) cl2, I a] H fun r H' => r = I (idxF (fun b => isF t a b) l) ∧ H' = H := by
  refine acalls_of0 Try.func37 rfl (by kernel_rfl) rfl rfl (awp_sound (fz := fun _ => []) (im := fun s => s == 3 || s == 5) mixed _ _ _ _ (by kernel_rfl) ?_)
  simp +contextual -dsimp -implicitDefEqProofs (maxSteps := 5000000) only [go_sem, reduceIte, reduceCtorEq, Nat.reduceEqDiff, Nat.reduceBEq, Nat.reduceAdd, Nat.reduceLeDiff, Nat.reduceMul, Nat.reduceLT, Int.reduceEq, Int.reduceLT, Int.reduceLE]
  exact (c_IndexFuncInt l cl2 _ _ (fun b => isF t a b) _ fun c => c_first1 t cl a c _ hv ha).det (by simp +contextual -dsimp -implicitDefEqProofs (maxSteps := 5000000) only [go_sem, reduceIte, reduceCtorEq, Nat.reduceEqDiff, Nat.reduceBEq, Nat.reduceAdd, Nat.reduceLeDiff, Nat.reduceMul, Nat.reduceLT, Int.reduceEq, Int.reduceLT, Int.reduceLE])
theorem c_firstG (t : List Class) (cl : Bool) (l : List Int) (x : AV) (a : Int) (H0 H : AHeap) (hg : Grow rI 1 3 H0 H x l) (hv : validT t = true) (ha : a < t.length) : ACalls Try.prog 37 [aTree t cl, x, I a] H fun r H' => r = I (idxF (fun b => isF t a b) l) ∧ H' = H := by
  obtain ⟨cl2, hz⟩ := grow_froz hg
  exact acalls_borrow [aTree t cl, .vsl (l.map rI) cl2, I a] (.cons (.same _) (.cons hz (.cons (.same _) .nil))) (c_first _ _ _ _ _ _ hv ha) rfl ⟨rfl, rfl⟩
theorem c_firstCatch (t : List Class) (cl : Bool) (l : List Int) (cl2 : Bool) (a : Int) (H : AHeap) (hv : validT t = true) (ha : a < t.length) : ACalls Try.prog 43 [aTree t cl, .vsl (l.map rI) cl2, I a] H fun r H' => r = I (idxF (fun b => isF t a b) l) ∧ H' = H := by
  refine acalls_len (by kernel_rfl) (List.mem_cons_of_mem _ (List.mem_cons_self ..)) fun hl => ?_
  rw [List.length_map] at hl
  refine acalls_of0 Try.func43 rfl (by kernel_rfl) rfl rfl (awp_sound (fz := fun _ => []) (im := fun s => s == 3) mixed _ _ _ _ (by kernel_rfl) ?_)
  simp +contextual -dsimp -implicitDefEqProofs (maxSteps := 5000000) only [go_sem, reduceIte, reduceCtorEq, Nat.reduceEqDiff, Nat.reduceBEq, Nat.reduceAdd, Nat.reduceLeDiff, Nat.reduceMul, Nat.reduceLT, Int.reduceEq, Int.reduceLT, Int.reduceLE]
  refine aloop mixed (fz := fun _ => []) (im := fun s => s == 3) (by kernel_rfl) (fun m tm H' => ∃ k : Nat, m = l.length - k ∧ k ≤ l.length ∧ H' = H ∧ tm 1 = .vsl (l.map rI) cl2 ∧ tm 2 = I a ∧ tm 3 = .vptr [[.vsl (t.map rClass) cl]] 0 0 ∧ tm 7 = I k ∧ (l.take k).any (fun b => isF t a b) = false) l.length ⟨0, by omega, by omega, rfl, ?_⟩ ?_
  · simp +contextual -dsimp -implicitDefEqProofs (maxSteps := 5000000) only [go_sem, reduceIte, reduceCtorEq, Nat.reduceEqDiff, Nat.reduceBEq, Nat.reduceAdd, Nat.reduceLeDiff, Nat.reduceMul, Nat.reduceLT, Int.reduceEq, Int.reduceLT, Int.reduceLE]
    rfl
  · rintro m tm H ⟨k, rfl, hk, rfl, t1, t2, t3, t7, hn⟩
    by_cases h : k < l.length
    · simp +contextual -dsimp -implicitDefEqProofs (maxSteps := 5000000) only [go_sem, reduceIte, reduceCtorEq, Nat.reduceEqDiff, Nat.reduceBEq, Nat.reduceAdd, Nat.reduceLeDiff, Nat.reduceMul, Nat.reduceLT, Int.reduceEq, Int.reduceLT, Int.reduceLE, t1, t2, t3, t7, h]
      refine draw_intro [0, 0, 0, 0, 0, 0, 2] AHeap.none (by kernel_rfl) none_le ?_
      simp +contextual -dsimp -implicitDefEqProofs (maxSteps := 5000000) only [go_sem, reduceIte, reduceCtorEq, Nat.reduceEqDiff, Nat.reduceBEq, Nat.reduceAdd, Nat.reduceLeDiff, Nat.reduceMul, Nat.reduceLT, Int.reduceEq, Int.reduceLT, Int.reduceLE, t1, t2, t3, t7, h]
      refine (c_isA t cl a _ _ hv ha).det ?_
      simp +contextual -dsimp -implicitDefEqProofs (maxSteps := 5000000) only [go_sem, reduceIte, reduceCtorEq, Nat.reduceEqDiff, Nat.reduceBEq, Nat.reduceAdd, Nat.reduceLeDiff, Nat.reduceMul, Nat.reduceLT, Int.reduceEq, Int.reduceLT, Int.reduceLE, t1, t2, t3, t7, h]
      refine ⟨fun hb => ?_, fun hb => ⟨_, by omega, k + 1, rfl, h, I_wrap (by omega) (by omega) (by omega), any_take h hn (d := default) hb⟩⟩
      rw [idxF_at h hn (d := default) hb]
    · simp +contextual -dsimp -implicitDefEqProofs (maxSteps := 5000000) only [go_sem, reduceIte, reduceCtorEq, Nat.reduceEqDiff, Nat.reduceBEq, Nat.reduceAdd, Nat.reduceLeDiff, Nat.reduceMul, Nat.reduceLT, Int.reduceEq, Int.reduceLT, Int.reduceLE, t1, t2, t3, t7, h]
      rw [idxF_none (by omega) hn]
theorem c_firstCatchG (t : List Class) (cl : Bool) (l : List Int) (x : AV) (a : Int) (H0 H : AHeap) (hg : Grow rI 1 3 H0 H x l) (hv : validT t = true) (ha : a < t.length) : ACalls Try.prog 43 [aTree t cl, x, I a] H fun r H' => r = I (idxF (fun b => isF t a b) l) ∧ H' = H := by
  obtain ⟨cl2, hz⟩ := grow_froz hg
  exact acalls_borrow [aTree t cl, .vsl (l.map rI) cl2, I a] (.cons (.same _) (.cons hz (.cons (.same _) .nil))) (c_firstCatch _ _ _ _ _ _ hv ha) rfl ⟨rfl, rfl⟩
theorem c_ClipLG (l : List Line) (x : AV) (H0 H : AHeap) (hg : Grow rLine 4 42 H0 H x l) : ACalls Try.prog 39 [x] H fun r H' => Grow rLine 4 42 H0 H' r l := by
  have hn := grow_len te25 hg
  obtain ⟨x', hx, hg'⟩ := grow_slice (ka := .i64) (kb := .i64) te25 ti42 rLine_len hg
  refine acalls_of0 Try.func39 rfl (by kernel_rfl) rfl rfl (awp_sound (fz := fun _ => []) (im := fun _ => false) mixed _ _ _ _ (by kernel_rfl) ?_)
  simp +contextual -dsimp -implicitDefEqProofs (maxSteps := 5000000) only [go_sem, reduceIte, reduceCtorEq, Nat.reduceEqDiff, Nat.reduceBEq, Nat.reduceAdd, Nat.reduceLeDiff, Nat.reduceMul, Nat.reduceLT, Int.reduceEq, Int.reduceLT, Int.reduceLE, hn, hx]
  exact hg'
theorem c_withoutG (p : List Line) (cl : Bool) (g : FuncId) (caps : List AV) (gf : Nat → Bool) (H : AHeap) (hp : p.length ≤ 1000)
    (hgf : ∀ (i : Nat) H', i < p.length → AHeap.le H H' → ACalls Try.prog g (I i :: caps) H' fun r H'' => r = B (gf i) ∧ H'' = H') : ACalls Try.prog 17 [aProg p cl, .fn g [] caps] H fun r H' => Grow rLine 4 42 H H' r (woX p gf 0) := by
  refine acalls_of0 Try.func17 rfl (by kernel_rfl) rfl rfl (awp_sound (fz := fun _ => []) (im := fun s => s == 25) mixed _ _ _ _ (by kernel_rfl) ?_)
  simp +contextual -dsimp -implicitDefEqProofs (maxSteps := 5000000) only [go_sem, reduceIte, reduceCtorEq, Nat.reduceEqDiff, Nat.reduceBEq, Nat.reduceAdd, Nat.reduceLeDiff, Nat.reduceMul, Nat.reduceLT, Int.reduceEq, Int.reduceLT, Int.reduceLE]
  refine ⟨by omega, by omega, fun b hb => ?_⟩
  refine aloop mixed (fz := fun _ => []) (im := fun s => s == 25) (by kernel_rfl) (fun m tm H' => ∃ (k : Nat) (out : List Line), m = p.length - k ∧ k ≤ p.length ∧ Grow rLine 4 42 H H' (tm 5) out ∧ out.length ≤ k ∧ out ++ woX p gf k = woX p gf 0 ∧ tm 0 = aProg p cl ∧ tm 1 = .fn g [] caps ∧ tm 6 = I k) p.length ⟨0, [], rfl, by omega, ?_⟩ ?_
  · simp +contextual -dsimp -implicitDefEqProofs (maxSteps := 5000000) only [go_sem, reduceIte, reduceCtorEq, Nat.reduceEqDiff, Nat.reduceBEq, Nat.reduceAdd, Nat.reduceLeDiff, Nat.reduceMul, Nat.reduceLT, Int.reduceEq, Int.reduceLT, Int.reduceLE]
    exact grow_new hb
  · rintro m tm H' ⟨k, out, rfl, hk, hg, ho, he, t0, t1, t6⟩
    by_cases h : k < p.length
    · have hs := woX_step (g := gf) h
      have hel := endP_le h
      have heg := endP_gt p k
      simp +contextual -dsimp -implicitDefEqProofs (maxSteps := 5000000) only [go_sem, reduceIte, reduceCtorEq, Nat.reduceEqDiff, Nat.reduceBEq, Nat.reduceAdd, Nat.reduceLeDiff, Nat.reduceMul, Nat.reduceLT, Int.reduceEq, Int.reduceLT, Int.reduceLE, t0, t1, t6, h]
      refine (hgf k H' h (grow_le hg)).det ?_
      simp +contextual -dsimp -implicitDefEqProofs (maxSteps := 5000000) only [go_sem, reduceIte, reduceCtorEq, Nat.reduceEqDiff, Nat.reduceBEq, Nat.reduceAdd, Nat.reduceLeDiff, Nat.reduceMul, Nat.reduceLT, Int.reduceEq, Int.reduceLT, Int.reduceLE, t0, t1, t6, h]
      refine ⟨fun hb => ?_, fun hb => ?_⟩
      · rw [if_pos hb] at hs
        refine (c_endOf p cl k _ h).det ?_
        simp +contextual -dsimp -implicitDefEqProofs (maxSteps := 5000000) only [go_sem, reduceIte, reduceCtorEq, Nat.reduceEqDiff, Nat.reduceBEq, Nat.reduceAdd, Nat.reduceLeDiff, Nat.reduceMul, Nat.reduceLT, Int.reduceEq, Int.reduceLT, Int.reduceLE, t0, t1, t6, h]
        exact ⟨_, by omega, endP p k, out, rfl, hel, hg, by omega, by rw [← hs]; exact he, rfl⟩
      · rw [if_neg (by rw [hb]; decide)] at hs
        refine app_lines (m := [p.getD k default]) hg (by simp; omega) rfl fun x' H'' hg' => ?_
        simp +contextual -dsimp -implicitDefEqProofs (maxSteps := 5000000) only [go_sem, reduceIte, reduceCtorEq, Nat.reduceEqDiff, Nat.reduceBEq, Nat.reduceAdd, Nat.reduceLeDiff, Nat.reduceMul, Nat.reduceLT, Int.reduceEq, Int.reduceLT, Int.reduceLE, t0, t1, t6, h]
        exact ⟨_, by omega, k + 1, out ++ [p.getD k default], rfl, h, hg', by simp; omega, by rw [← he, hs]; simp, I_wrap (by omega) (by omega) (by omega)⟩
    · have hk2 : k = p.length := by omega
      rw [woX_end (by omega), List.append_nil] at he
      subst he
      simp +contextual -dsimp -implicitDefEqProofs (maxSteps := 5000000) only [go_sem, reduceIte, reduceCtorEq, Nat.reduceEqDiff, Nat.reduceBEq, Nat.reduceAdd, Nat.reduceLeDiff, Nat.reduceMul, Nat.reduceLT, Int.reduceEq, Int.reduceLT, Int.reduceLE, t0, t1, t6, h]
      refine (c_ClipLG _ _ _ _ hg).mono ?_
      rintro r H2 hg2
      simp +contextual -dsimp -implicitDefEqProofs (maxSteps := 5000000) only [go_sem, reduceIte, reduceCtorEq, Nat.reduceEqDiff, Nat.reduceBEq, Nat.reduceAdd, Nat.reduceLeDiff, Nat.reduceMul, Nat.reduceLT, Int.reduceEq, Int.reduceLT, Int.reduceLE, t0, t1, t6, h]
      exact hg2
theorem c_without (p : List Line) (cl : Bool) (g : FuncId) (caps : List AV) (gf : Nat → Bool) (H : AHeap) (hp : p.length ≤ 1000)
    (hg : ∀ (i : Nat) H', i < p.length → AHeap.le H H' → ACalls Try.prog g (I i :: caps) H' fun r H'' => r = B (gf i) ∧ H'' = H') : ACalls Try.prog 17 [aProg p cl, .fn g [] caps] H fun r H' => (∃ c, r = aProg (woX p gf 0) c) ∧ H' = H := by
  refine acalls_fz (c_withoutG p cl g caps gf H hp hg) ?_
  rintro _ H' hg
  obtain ⟨c1, hz⟩ := grow_fz hg
  exact ⟨_, H, grow_le hg, hz, ⟨c1, rfl⟩, rfl⟩
theorem c_deadExcepts (t : List Class) (cl : Bool) (p : List Line) (cl' : Bool) (H : AHeap) (h : ValidP t p) : ACalls Try.prog 16 [aTree t cl, aProg p cl'] H fun r H' => ∃ b, H b = none ∧ r = .lit (.map (some b)) ∧ H' = H.set b ⟨0, 46, (mapE t p p.length).map rKV⟩ := by
  have tm0 : tmap Try.prog 46 = true := by kernel_rfl
  have hp := h.2.1
  refine acalls_of0 Try.func16 rfl (by kernel_rfl) rfl rfl (awp_sound (fz := fun r => if r = 4 then [7] else []) (im := fun s => s == 2 || s == 22 || s == 54) mixed _ _ _ _ (by kernel_rfl) ?_)
  simp +contextual -dsimp -implicitDefEqProofs (maxSteps := 5000000) only [go_sem, reduceIte, reduceCtorEq, Nat.reduceEqDiff, Nat.reduceBEq, Nat.reduceAdd, Nat.reduceLeDiff, Nat.reduceMul, Nat.reduceLT, Int.reduceEq, Int.reduceLT, Int.reduceLE]
  intro b hb
  refine aloop mixed (fz := fun r => if r = 4 then [7] else []) (im := fun s => s == 2 || s == 22 || s == 54) (by kernel_rfl) (fun m tm H' => ∃ k : Nat, m = p.length - k ∧ k ≤ p.length ∧ H' = H.set b ⟨0, 46, (mapE t p k).map rKV⟩ ∧ tm 1 = aProg p cl' ∧ tm 2 = .vptr [[.vsl (t.map rClass) cl]] 0 0 ∧ tm 5 = .lit (.map (some b)) ∧ tm 12 = aProg p cl' ∧ tm 13 = I p.length ∧ tm 14 = I k) p.length ⟨0, rfl, by omega, rfl, ?_⟩ ?_
  · simp +contextual -dsimp -implicitDefEqProofs (maxSteps := 5000000) only [go_sem, reduceIte, reduceCtorEq, Nat.reduceEqDiff, Nat.reduceBEq, Nat.reduceAdd, Nat.reduceLeDiff, Nat.reduceMul, Nat.reduceLT, Int.reduceEq, Int.reduceLT, Int.reduceLE]
  · rintro m tm H' ⟨k, rfl, hk, rfl, t1, t2, t5, t12, t13, t14⟩
    by_cases hlt : k < p.length
    · by_cases h7 : kd p k = 7
      · have h7' : (p.getD k default).kind = 7 := h7
        have hme : mapE t p (k + 1) = putC t p (chainP p k) [] (mapE t p k) := by simp only [mapE]; rw [if_pos h7]
        have hcm := chainP_mem hlt
        have hcl := endP_len hlt
        simp +contextual -dsimp -implicitDefEqProofs (maxSteps := 5000000) only [go_sem, reduceIte, reduceCtorEq, Nat.reduceEqDiff, Nat.reduceBEq, Nat.reduceAdd, Nat.reduceLeDiff, Nat.reduceMul, Nat.reduceLT, Int.reduceEq, Int.reduceLT, Int.reduceLE, t1, t2, t5, t12, t13, t14, hlt, h7']
        intro b7 hb7
        refine acalls_frz (c_tryFrom p cl' k _ hlt (by omega)) fun c25 => ?_
        generalize chainP p k = ch at hme hcm hcl
        simp +contextual -dsimp -implicitDefEqProofs (maxSteps := 5000000) only [go_sem, reduceIte, reduceCtorEq, Nat.reduceEqDiff, Nat.reduceBEq, Nat.reduceAdd, Nat.reduceLeDiff, Nat.reduceMul, Nat.reduceLT, Int.reduceEq, Int.reduceLT, Int.reduceLE, t1, t2, t5, t12, t13, t14, hlt, h7', toI_len]
        refine sim_endfrz ?_
        refine aloop mixed (fz := fun r => if r = 4 then [7] else []) (im := fun s => s == 2 || s == 22 || s == 54) (by kernel_rfl) (fun m tm H' => ∃ (j : Nat) (cs : List Int) (es : List (Int × Bool)) (G : AHeap), m = ch.length - j ∧ j ≤ ch.length ∧ Grow rI 1 3 H G (tm 8) cs ∧ G b = none ∧ H' = G.set b ⟨0, 46, es.map rKV⟩ ∧ cs.length ≤ j ∧ putC t p (ch.drop j) cs es = mapE t p (k + 1) ∧ tm 1 = aProg p cl' ∧ tm 2 = .vptr [[.vsl (t.map rClass) cl]] 0 0 ∧ tm 5 = .lit (.map (some b)) ∧ tm 12 = aProg p cl' ∧ tm 13 = I p.length ∧ tm 14 = I k ∧ tm 25 = .vsl ((toI ch).map rI) c25 ∧ tm 26 = I ch.length ∧ tm 27 = I j) ch.length ⟨0, [], mapE t p k, H, rfl, by omega, ?_⟩ ?_
        · simp +contextual -dsimp -implicitDefEqProofs (maxSteps := 5000000) only [go_sem, reduceIte, reduceCtorEq, Nat.reduceEqDiff, Nat.reduceBEq, Nat.reduceAdd, Nat.reduceLeDiff, Nat.reduceMul, Nat.reduceLT, Int.reduceEq, Int.reduceLT, Int.reduceLE]
          exact ⟨grow_nil, hb, hme.symm, t1, t2, t5, t12, t13, t14⟩
        · rintro m tm H' ⟨j, cs, es, G, rfl, hj, hg, hG, rfl, hcs, he, t1, t2, t5, t12, t13, t14, t25, t26, t27⟩
          by_cases hjl : j < ch.length
          · have hmem := hcm (ch.getD j default) (by rw [List.getD_eq_getElem?_getD, List.getElem?_eq_getElem hjl]; exact List.getElem_mem hjl)
            have hdr : ch.drop j = ch.getD j default :: ch.drop (j + 1) := by rw [List.drop_eq_getElem_cons hjl]; simp [List.getD_eq_getElem?_getD, hjl]
            rw [hdr] at he
            simp only [putC] at he
            by_cases k8 : kd p (ch.getD j default) = 8
            · have k8' : (p.getD (ch.getD j default) default).kind = 8 := k8
              rw [if_pos k8] at he
              simp +contextual -dsimp -implicitDefEqProofs (maxSteps := 5000000) only [go_sem, reduceIte, reduceCtorEq, Nat.reduceEqDiff, Nat.reduceBEq, Nat.reduceAdd, Nat.reduceLeDiff, Nat.reduceMul, Nat.reduceLT, Int.reduceEq, Int.reduceLT, Int.reduceLE, t1, t2, t5, t12, t13, t14, t25, t26, t27, hjl, toI_len, toI_at, hmem, k8']
              have hcls := hasF_spec (valid_cls h hmem k8)
              refine draw_intro [0, 0, 0, 0, 0, 0, 0, 0, 0, 2, 0, 2] AHeap.none (by kernel_rfl) none_le ?_
              simp +contextual -dsimp -implicitDefEqProofs (maxSteps := 5000000) only [go_sem, reduceIte, reduceCtorEq, Nat.reduceEqDiff, Nat.reduceBEq, Nat.reduceAdd, Nat.reduceLeDiff, Nat.reduceMul, Nat.reduceLT, Int.reduceEq, Int.reduceLT, Int.reduceLE, t1, t2, t5, t12, t13, t14, t25, t26, t27, hjl, toI_len, toI_at, hmem, k8']
              refine (c_firstG t cl cs _ _ _ _ (grow_in hg hG) h.1 hcls.2).det ?_
              simp +contextual -dsimp -implicitDefEqProofs (maxSteps := 5000000) only [go_sem, reduceIte, reduceCtorEq, Nat.reduceEqDiff, Nat.reduceBEq, Nat.reduceAdd, Nat.reduceLeDiff, Nat.reduceMul, Nat.reduceLT, Int.reduceEq, Int.reduceLT, Int.reduceLE, t1, t2, t5, t12, t13, t14, t25, t26, t27, hjl, toI_len, toI_at, hmem, k8', idxF_nonneg, put_s tm0]
              refine grow_append (m := [ak p (ch.getD j default)]) te30 ti3 rI_len (by decide) (grow_in (K := ⟨0, 46, (putKV es (ch.getD j default : Nat) (cs.any fun b => isF t (ak p (ch.getD j default)) b)).map rKV⟩) hg hG) (by simp; omega) (by simp; omega) rfl fun x1 H1 hg1 => ?_
              obtain ⟨G1, hg2, rfl, hG1⟩ := grow_out hg1 hb
              simp +contextual -dsimp -implicitDefEqProofs (maxSteps := 5000000) only [go_sem, reduceIte, reduceCtorEq, Nat.reduceEqDiff, Nat.reduceBEq, Nat.reduceAdd, Nat.reduceLeDiff, Nat.reduceMul, Nat.reduceLT, Int.reduceEq, Int.reduceLT, Int.reduceLE, t1, t2, t5, t12, t13, t14, t25, t26, t27, hjl, toI_len, toI_at, hmem, k8']
              exact ⟨_, by omega, j + 1, _, _, G1, rfl, hjl, hg2, hG1, rfl, by simp; omega, he, I_wrap (by omega) (by omega) (by omega)⟩
            · have k8' : ¬ (p.getD (ch.getD j default) default).kind = 8 := k8
              rw [if_neg k8] at he
              simp +contextual -dsimp -implicitDefEqProofs (maxSteps := 5000000) only [go_sem, reduceIte, reduceCtorEq, Nat.reduceEqDiff, Nat.reduceBEq, Nat.reduceAdd, Nat.reduceLeDiff, Nat.reduceMul, Nat.reduceLT, Int.reduceEq, Int.reduceLT, Int.reduceLE, t1, t2, t5, t12, t13, t14, t25, t26, t27, hjl, toI_len, toI_at, hmem, k8']
              exact ⟨_, by omega, j + 1, cs, es, G, rfl, hjl, hg, hG, rfl, by omega, he, I_wrap (by omega) (by omega) (by omega)⟩
          · have hj2 : j = ch.length := by omega
            rw [hj2, List.drop_length] at he
            simp only [putC] at he
            subst he
            simp +contextual -dsimp -implicitDefEqProofs (maxSteps := 5000000) only [go_sem, reduceIte, reduceCtorEq, Nat.reduceEqDiff, Nat.reduceBEq, Nat.reduceAdd, Nat.reduceLeDiff, Nat.reduceMul, Nat.reduceLT, Int.reduceEq, Int.reduceLT, Int.reduceLE, t1, t2, t5, t12, t13, t14, t25, t26, t27, hjl]
            refine grow_end 8 (grow_in (K := ⟨0, 46, (mapE t p (k + 1)).map rKV⟩) hg hG) fun cz => ?_
            simp +contextual -dsimp -implicitDefEqProofs (maxSteps := 5000000) only [go_sem, reduceIte, reduceCtorEq, Nat.reduceEqDiff, Nat.reduceBEq, Nat.reduceAdd, Nat.reduceLeDiff, Nat.reduceMul, Nat.reduceLT, Int.reduceEq, Int.reduceLT, Int.reduceLE, t1, t2, t5, t12, t13, t14, t25, t26, t27, hjl]
            exact ⟨_, by omega, k + 1, rfl, hlt, rfl, I_wrap (by omega) (by omega) (by omega)⟩
      · have h7' : ¬ (p.getD k default).kind = 7 := h7
        have hme : mapE t p (k + 1) = mapE t p k := by simp only [mapE]; rw [if_neg h7]
        simp +contextual -dsimp -implicitDefEqProofs (maxSteps := 5000000) only [go_sem, reduceIte, reduceCtorEq, Nat.reduceEqDiff, Nat.reduceBEq, Nat.reduceAdd, Nat.reduceLeDiff, Nat.reduceMul, Nat.reduceLT, Int.reduceEq, Int.reduceLT, Int.reduceLE, t1, t2, t5, t12, t13, t14, hlt, h7']
        intro b7 hb7
        exact ⟨_, by omega, k + 1, rfl, hlt, by rw [hme], I_wrap (by omega) (by omega) (by omega)⟩
    · simp +contextual -dsimp -implicitDefEqProofs (maxSteps := 5000000) only [go_sem, reduceIte, reduceCtorEq, Nat.reduceEqDiff, Nat.reduceBEq, Nat.reduceAdd, Nat.reduceLeDiff, Nat.reduceMul, Nat.reduceLT, Int.reduceEq, Int.reduceLT, Int.reduceLE, t1, t2, t5, t12, t13, t14, hlt]
      have hk2 : k = p.length := by omega
      subst hk2
      exact ⟨b, hb, rfl, rfl⟩
theorem c_DropDead1 (H : AHeap) (b m : Nat) (es : List (Int × Bool)) (i : Int) (hb : H b = some ⟨1, 46, [[.lit (.map (some m))]]⟩) (hm : H m = some ⟨0, 46, es.map rKV⟩) : ACalls Try.prog 18 [I i, .ptr b 1 0 0] H fun r H' => r = B (getKV es i) ∧ H' = H := by
  have tm0 : tmap Try.prog 46 = true := by kernel_rfl
  refine acalls_of0 Try.func18 rfl (by kernel_rfl) rfl rfl (awp_sound (fz := fun _ => []) (im := fun _ => false) mixed _ _ _ _ (by kernel_rfl) ?_)
  simp +contextual -dsimp -implicitDefEqProofs (maxSteps := 5000000) only [go_sem, reduceIte, reduceCtorEq, Nat.reduceEqDiff, Nat.reduceBEq, Nat.reduceAdd, Nat.reduceLeDiff, Nat.reduceMul, Nat.reduceLT, Int.reduceEq, Int.reduceLT, Int.reduceLE, hb, hm, look_o tm0, lkO_l]
noncomputable def dropR (t : List Class) (p : List Line) : List Line := if validB t p = true then dropP t p else []
theorem c_mDropDead (t : List Class) (cl : Bool) (p : List Line) (cl' : Bool) (H : AHeap) (hn : namesOk t) (hp : p.length ≤ 4398046511104) : ACalls Try.prog 5 [aTree t cl, aProg p cl'] H fun r H' => (∃ c, r = aProg (dropR t p) c) ∧ H' = H := by
  refine acalls_of1 Try.func5 rfl (by kernel_rfl) rfl rfl (awp_sound (fz := fun _ => []) (im := fun s => s == 2) mixed _ _ _ _ (by kernel_rfl) ?_)
  simp +contextual -dsimp -implicitDefEqProofs (maxSteps := 5000000) only [go_sem, reduceIte, reduceCtorEq, Nat.reduceEqDiff, Nat.reduceBEq, Nat.reduceAdd, Nat.reduceLeDiff, Nat.reduceMul, Nat.reduceLT, Int.reduceEq, Int.reduceLT, Int.reduceLE]
  refine (c_ValidProgram t cl p cl' _ hn hp).det ?_
  cases hv : validB t p
  · have e : dropR t p = [] := by unfold dropR; rw [hv]; rfl
    simp +contextual -dsimp -implicitDefEqProofs (maxSteps := 5000000) only [go_sem, reduceIte, reduceCtorEq, Nat.reduceEqDiff, Nat.reduceBEq, Nat.reduceAdd, Nat.reduceLeDiff, Nat.reduceMul, Nat.reduceLT, Int.reduceEq, Int.reduceLT, Int.reduceLE]
    refine retR_less (l := [aProg (dropR t p) true]) (H' := H) ?_ (AHeap.le_refl _) ⟨⟨true, rfl⟩, rfl⟩
    rw [e]
    simp only [resA, go_sem, reduceIte, reduceCtorEq, Nat.reduceEqDiff, Nat.reduceBEq, Nat.reduceAdd, Nat.reduceLeDiff, Nat.reduceMul, Nat.reduceLT, Int.reduceEq, Int.reduceLT, Int.reduceLE]
    try rfl
  · have hval := validB_true.1 hv
    have e : dropR t p = dropP t p := by unfold dropR; rw [hv]; rfl
    have hle := hval.2.1
    simp +contextual -dsimp -implicitDefEqProofs (maxSteps := 5000000) only [go_sem, reduceIte, reduceCtorEq, Nat.reduceEqDiff, Nat.reduceBEq, Nat.reduceAdd, Nat.reduceLeDiff, Nat.reduceMul, Nat.reduceLT, Int.reduceEq, Int.reduceLT, Int.reduceLE]
    refine (c_deadExcepts t cl p cl' _ hval).mono ?_
    rintro _ _ ⟨m, hm, rfl, rfl⟩
    simp +contextual -dsimp -implicitDefEqProofs (maxSteps := 5000000) only [go_sem, reduceIte, reduceCtorEq, Nat.reduceEqDiff, Nat.reduceBEq, Nat.reduceAdd, Nat.reduceLeDiff, Nat.reduceMul, Nat.reduceLT, Int.reduceEq, Int.reduceLT, Int.reduceLE]
    rintro b ⟨n1, n2, hb⟩
    refine ⟨rfl, ?_⟩
    refine (c_without p cl' _ _ (fun i => getKV (mapE t p p.length) (i : Int)) _ (by omega) fun i H' hi hle => c_DropDead1 H' b m _ i (hle b _ (AHeap.set_self ..)) (hle m _ (by rw [set_other n2, AHeap.set_self]))).mono ?_
    rintro _ _ ⟨⟨c, rfl⟩, rfl⟩
    rw [drop_wo hval _ (fun i hi => mapE_all hval hi)]
    simp +contextual -dsimp -implicitDefEqProofs (maxSteps := 5000000) only [go_sem, reduceIte, reduceCtorEq, Nat.reduceEqDiff, Nat.reduceBEq, Nat.reduceAdd, Nat.reduceLeDiff, Nat.reduceMul, Nat.reduceLT, Int.reduceEq, Int.reduceLT, Int.reduceLE]
    refine retR_less (l := [aProg (dropP t p) c]) (H' := H) ?_ (le_s1 (le_s1 (AHeap.le_refl _) hm) hb) ⟨⟨c, by rw [e]; rfl⟩, rfl⟩
    simp only [resA, go_sem, reduceIte, reduceCtorEq, Nat.reduceEqDiff, Nat.reduceBEq, Nat.reduceAdd, Nat.reduceLeDiff, Nat.reduceMul, Nat.reduceLT, Int.reduceEq, Int.reduceLT, Int.reduceLE]
theorem dropC_len {t : List Class} {p : List Line} : ∀ (ks : List Nat) (cs out : List Int), (dropC t p ks cs out).length ≤ out.length + ks.length
  | [], cs, out => by simp [dropC]
  | k :: ks, cs, out => by
    simp only [dropC, List.length_cons]
    split
    · have := dropC_len (t := t) (p := p) ks (cs ++ [ak p k]) (if (cs.any fun c => isF t (ak p k) c) = true then out ++ [(k : Int)] else out)
      split at this
      · rw [List.length_append, List.length_singleton] at this
        rename_i w
        rw [if_pos w]
        omega
      · rename_i w
        rw [if_neg w]
        omega
    · have := dropC_len (t := t) (p := p) ks cs out
      omega
theorem dropE_len {t : List Class} {p : List Line} : ∀ i, i ≤ p.length → (dropE t p i).length ≤ i * p.length
  | 0, _ => by simp [dropE]
  | i + 1, h => by
    have ih := dropE_len (t := t) (p := p) i (by omega)
    have e : (i + 1) * p.length = i * p.length + p.length := by rw [Nat.succ_mul]
    simp only [dropE]
    split
    · have h1 := dropC_len (t := t) (p := p) (chainP p i) [] (dropE t p i)
      have h2 := endP_len (p := p) (i := i) (by omega)
      omega
    · omega
theorem c_sdropDead0 (t : List Class) (cl : Bool) (p : List Line) (cl' : Bool) (H : AHeap) (h : ValidP t p) : ACalls Try.prog 20 [aTree t cl, aProg p cl'] H fun r H' => Grow rLine 4 42 H H' r (dropP t p) := by
  have hp := h.2.1
  refine acalls_of0 Try.func20 rfl (by kernel_rfl) rfl rfl (awp_sound (fz := fun _ => []) (im := fun s => s == 2 || s == 12 || s == 28 || s == 61 || s == 72 || s == 74 || s == 90) mixed _ _ _ _ (by kernel_rfl) ?_)
  simp +contextual -dsimp -implicitDefEqProofs (maxSteps := 5000000) only [go_sem, reduceIte, reduceCtorEq, Nat.reduceEqDiff, Nat.reduceBEq, Nat.reduceAdd, Nat.reduceLeDiff, Nat.reduceMul, Nat.reduceLT, Int.reduceEq, Int.reduceLT, Int.reduceLE]
  refine sim_endfrz ?_
  refine aloop mixed (fz := fun _ => []) (im := fun s => s == 2 || s == 12 || s == 28 || s == 61 || s == 72 || s == 74 || s == 90) (by kernel_rfl) (fun m tm H' => ∃ k : Nat, m = p.length - k ∧ k ≤ p.length ∧ Grow rI 1 3 H H' (tm 5) (dropE t p k) ∧ tm 1 = aProg p cl' ∧ tm 2 = .vptr [[.vsl (t.map rClass) cl]] 0 0 ∧ tm 6 = I k) p.length ⟨0, rfl, by omega, ?_⟩ ?_
  · simp +contextual -dsimp -implicitDefEqProofs (maxSteps := 5000000) only [go_sem, reduceIte, reduceCtorEq, Nat.reduceEqDiff, Nat.reduceBEq, Nat.reduceAdd, Nat.reduceLeDiff, Nat.reduceMul, Nat.reduceLT, Int.reduceEq, Int.reduceLT, Int.reduceLE]
    exact grow_nil
  · rintro m tm G ⟨k, rfl, hk, hg, t1, t2, t6⟩
    have hdl := dropE_len (t := t) k hk
    have hdl2 : k * p.length ≤ 24 * 24 := Nat.mul_le_mul (by omega) hp
    by_cases hlt : k < p.length
    · by_cases h7 : kd p k = 7
      · have h7' : (p.getD k default).kind = 7 := h7
        have hme : dropE t p (k + 1) = dropC t p (chainP p k) [] (dropE t p k) := by simp only [dropE]; rw [if_pos h7]
        have hcm := chainP_mem hlt
        have hcl := endP_len hlt
        have hch0 : (chainP p k).drop 1 ≠ (chainP p k) ∧ 1 ≤ (chainP p k).length ∧ dropC t p (chainP p k) [] (dropE t p k) = dropC t p ((chainP p k).drop 1) [] (dropE t p k) := by
          rw [chainP_tail]
          refine ⟨by simp, by simp, ?_⟩
          simp only [dropC, List.drop_one, List.tail_cons]
          rw [if_neg (by omega)]
        simp +contextual -dsimp -implicitDefEqProofs (maxSteps := 5000000) only [go_sem, reduceIte, reduceCtorEq, Nat.reduceEqDiff, Nat.reduceBEq, Nat.reduceAdd, Nat.reduceLeDiff, Nat.reduceMul, Nat.reduceLT, Int.reduceEq, Int.reduceLT, Int.reduceLE, t1, t2, t6, hlt, h7']
        refine acalls_frz (c_chainOf p cl' k _ hlt (by omega)) fun c7 => ?_
        generalize chainP p k = ch at hme hcm hcl hch0
        simp +contextual -dsimp -implicitDefEqProofs (maxSteps := 5000000) only [go_sem, reduceIte, reduceCtorEq, Nat.reduceEqDiff, Nat.reduceBEq, Nat.reduceAdd, Nat.reduceLeDiff, Nat.reduceMul, Nat.reduceLT, Int.reduceEq, Int.reduceLT, Int.reduceLE, t1, t2, t6, hlt, h7', toI_len]
        refine sim_endfrz ?_
        refine aloop mixed (fz := fun _ => []) (im := fun s => s == 2 || s == 12 || s == 28 || s == 61 || s == 72 || s == 74 || s == 90) (by kernel_rfl) (fun m tm H' => ∃ (j : Nat) (cs out : List Int) (G1 : AHeap), m = ch.length - j ∧ 1 ≤ j ∧ j ≤ ch.length ∧ Grow rI 1 3 H G1 (tm 5) out ∧ Grow rI 1 3 G1 H' (tm 8) cs ∧ cs.length ≤ j ∧ out.length ≤ (dropE t p k).length + j ∧ dropC t p (ch.drop j) cs out = dropE t p (k + 1) ∧ tm 1 = aProg p cl' ∧ tm 2 = .vptr [[.vsl (t.map rClass) cl]] 0 0 ∧ tm 6 = I k ∧ tm 7 = .vsl ((toI ch).map rI) c7 ∧ tm 9 = I j) (ch.length - 1) ⟨1, [], dropE t p k, G, ?_⟩ ?_
        · simp +contextual -dsimp -implicitDefEqProofs (maxSteps := 5000000) only [go_sem, reduceIte, reduceCtorEq, Nat.reduceEqDiff, Nat.reduceBEq, Nat.reduceAdd, Nat.reduceLeDiff, Nat.reduceMul, Nat.reduceLT, Int.reduceEq, Int.reduceLT, Int.reduceLE, t1, t2, t6]
          exact ⟨hch0.2.1, hg, grow_nil, by omega, by rw [hme, hch0.2.2, List.drop_one], rfl⟩
        · rintro m tm G2 ⟨j, cs, out, G1, rfl, hj1, hj, hg1, hg2, hcs, hol, he, t1, t2, t6, t7, t9⟩
          by_cases hjl : j < ch.length
          · have hmem := hcm (ch.getD j default) (by rw [List.getD_eq_getElem?_getD, List.getElem?_eq_getElem hjl]; exact List.getElem_mem hjl)
            have hdr : ch.drop j = ch.getD j default :: ch.drop (j + 1) := by rw [List.drop_eq_getElem_cons hjl]; simp [List.getD_eq_getElem?_getD, hjl]
            rw [hdr] at he
            simp only [dropC] at he
            by_cases k8 : kd p (ch.getD j default) = 8
            · have k8' : (p.getD (ch.getD j default) default).kind = 8 := k8
              rw [if_pos k8] at he
              have hcls := hasF_spec (valid_cls h hmem k8)
              simp +contextual -dsimp -implicitDefEqProofs (maxSteps := 5000000) only [go_sem, reduceIte, reduceCtorEq, Nat.reduceEqDiff, Nat.reduceBEq, Nat.reduceAdd, Nat.reduceLeDiff, Nat.reduceMul, Nat.reduceLT, Int.reduceEq, Int.reduceLT, Int.reduceLE, t1, t2, t6, t7, t9, hjl, toI_len, toI_at, hmem, k8']
              refine draw_intro [0, 0, 0, 0, 0, 0, 0, 0, 0, 0, 2, 0] AHeap.none (by kernel_rfl) none_le ?_
              simp +contextual -dsimp -implicitDefEqProofs (maxSteps := 5000000) only [go_sem, reduceIte, reduceCtorEq, Nat.reduceEqDiff, Nat.reduceBEq, Nat.reduceAdd, Nat.reduceLeDiff, Nat.reduceMul, Nat.reduceLT, Int.reduceEq, Int.reduceLT, Int.reduceLE, t1, t2, t6, t7, t9, hjl, toI_len, toI_at, hmem, k8']
              refine (c_firstCatchG t cl cs _ _ _ _ hg2 h.1 hcls.2).det ?_
              simp +contextual -dsimp -implicitDefEqProofs (maxSteps := 5000000) only [go_sem, reduceIte, reduceCtorEq, Nat.reduceEqDiff, Nat.reduceBEq, Nat.reduceAdd, Nat.reduceLeDiff, Nat.reduceMul, Nat.reduceLT, Int.reduceEq, Int.reduceLT, Int.reduceLE, t1, t2, t6, t7, t9, hjl, toI_len, toI_at, hmem, k8', idxF_nonneg]
              refine ⟨fun hany => ?_, fun hany => ?_⟩
              · rw [if_pos hany] at he
                obtain ⟨H1, hg3, hg4⟩ := grow_swap hg1 hg2
                refine grow_append (m := [((ch.getD j default : Nat) : Int)]) te30 ti3 rI_len (by decide) hg4 (by simp; omega) (by simp; omega) rfl fun x1 G3 hg5 => ?_
                obtain ⟨G4, hg6, hg7⟩ := grow_swap hg3 hg5
                simp +contextual -dsimp -implicitDefEqProofs (maxSteps := 5000000) only [go_sem, reduceIte, reduceCtorEq, Nat.reduceEqDiff, Nat.reduceBEq, Nat.reduceAdd, Nat.reduceLeDiff, Nat.reduceMul, Nat.reduceLT, Int.reduceEq, Int.reduceLT, Int.reduceLE, t1, t2, t6, t7, t9, hjl, toI_len, toI_at, hmem, k8']
                refine grow_append (m := [ak p (ch.getD j default)]) te30 ti3 rI_len (by decide) hg7 (by simp; omega) (by simp; omega) rfl fun x2 G5 hg8 => ?_
                simp +contextual -dsimp -implicitDefEqProofs (maxSteps := 5000000) only [go_sem, reduceIte, reduceCtorEq, Nat.reduceEqDiff, Nat.reduceBEq, Nat.reduceAdd, Nat.reduceLeDiff, Nat.reduceMul, Nat.reduceLT, Int.reduceEq, Int.reduceLT, Int.reduceLE, t1, t2, t6, t7, t9, hjl, toI_len, toI_at, hmem, k8']
                exact ⟨_, by omega, j + 1, _, _, G4, rfl, by omega, hjl, hg6, hg8, by simp; omega, by simp; omega, he, I_wrap (by omega) (by omega) (by omega)⟩
              · rw [if_neg (by rw [hany]; decide)] at he
                refine grow_append (m := [ak p (ch.getD j default)]) te30 ti3 rI_len (by decide) hg2 (by simp; omega) (by simp; omega) rfl fun x2 G5 hg8 => ?_
                simp +contextual -dsimp -implicitDefEqProofs (maxSteps := 5000000) only [go_sem, reduceIte, reduceCtorEq, Nat.reduceEqDiff, Nat.reduceBEq, Nat.reduceAdd, Nat.reduceLeDiff, Nat.reduceMul, Nat.reduceLT, Int.reduceEq, Int.reduceLT, Int.reduceLE, t1, t2, t6, t7, t9, hjl, toI_len, toI_at, hmem, k8']
                exact ⟨_, by omega, j + 1, _, _, G1, rfl, by omega, hjl, hg1, hg8, by simp; omega, by omega, he, I_wrap (by omega) (by omega) (by omega)⟩
            · have k8' : ¬ (p.getD (ch.getD j default) default).kind = 8 := k8
              rw [if_neg k8] at he
              simp +contextual -dsimp -implicitDefEqProofs (maxSteps := 5000000) only [go_sem, reduceIte, reduceCtorEq, Nat.reduceEqDiff, Nat.reduceBEq, Nat.reduceAdd, Nat.reduceLeDiff, Nat.reduceMul, Nat.reduceLT, Int.reduceEq, Int.reduceLT, Int.reduceLE, t1, t2, t6, t7, t9, hjl, toI_len, toI_at, hmem, k8']
              exact ⟨_, by omega, j + 1, cs, out, G1, rfl, by omega, hjl, hg1, hg2, by omega, by omega, he, I_wrap (by omega) (by omega) (by omega)⟩
          · have hj2 : j = ch.length := by omega
            rw [hj2, List.drop_length] at he
            simp only [dropC] at he
            subst he
            simp +contextual -dsimp -implicitDefEqProofs (maxSteps := 5000000) only [go_sem, reduceIte, reduceCtorEq, Nat.reduceEqDiff, Nat.reduceBEq, Nat.reduceAdd, Nat.reduceLeDiff, Nat.reduceMul, Nat.reduceLT, Int.reduceEq, Int.reduceLT, Int.reduceLE, t1, t2, t6, t7, t9, hjl, toI_len]
            refine grow_end 8 hg2 fun cz => ?_
            simp +contextual -dsimp -implicitDefEqProofs (maxSteps := 5000000) only [go_sem, reduceIte, reduceCtorEq, Nat.reduceEqDiff, Nat.reduceBEq, Nat.reduceAdd, Nat.reduceLeDiff, Nat.reduceMul, Nat.reduceLT, Int.reduceEq, Int.reduceLT, Int.reduceLE, t1, t2, t6, t7, t9, hjl]
            exact ⟨_, by omega, k + 1, rfl, hlt, hg1, I_wrap (by omega) (by omega) (by omega)⟩
      · have h7' : ¬ (p.getD k default).kind = 7 := h7
        have hme : dropE t p (k + 1) = dropE t p k := by simp only [dropE]; rw [if_neg h7]
        simp +contextual -dsimp -implicitDefEqProofs (maxSteps := 5000000) only [go_sem, reduceIte, reduceCtorEq, Nat.reduceEqDiff, Nat.reduceBEq, Nat.reduceAdd, Nat.reduceLeDiff, Nat.reduceMul, Nat.reduceLT, Int.reduceEq, Int.reduceLT, Int.reduceLE, t1, t2, t6, hlt, h7']
        exact ⟨_, by omega, k + 1, rfl, hlt, by rw [hme]; exact hg, I_wrap (by omega) (by omega) (by omega)⟩
    · simp +contextual -dsimp -implicitDefEqProofs (maxSteps := 5000000) only [go_sem, reduceIte, reduceCtorEq, Nat.reduceEqDiff, Nat.reduceBEq, Nat.reduceAdd, Nat.reduceLeDiff, Nat.reduceMul, Nat.reduceLT, Int.reduceEq, Int.reduceLT, Int.reduceLE, t1, t2, t6, hlt]
      have hk2 : k = p.length := by omega
      rw [hk2] at hg
      refine grow_end 5 hg fun cz => ?_
      simp +contextual -dsimp -implicitDefEqProofs (maxSteps := 5000000) only [go_sem, reduceIte, reduceCtorEq, Nat.reduceEqDiff, Nat.reduceBEq, Nat.reduceAdd, Nat.reduceLeDiff, Nat.reduceMul, Nat.reduceLT, Int.reduceEq, Int.reduceLT, Int.reduceLE, t1, t2, t6, hlt]
      have hgf : ∀ i, i < p.length → ((dropE t p p.length).any fun x => decide ((i : Int) = x)) = (exsP t p).getD i false := fun i hi => by
        rw [← dropE_all h hi]; congr 1; funext x; rw [Bool.eq_iff_iff]; simp [eq_comm]
      have hdw := drop_wo h (fun i => (dropE t p p.length).any fun x => decide ((i : Int) = x)) hgf
      generalize dropE t p p.length = dr at hgf hdw
      generalize hgn : (fun i : Nat => dr.any fun x => decide ((i : Int) = x)) = gf at hdw
      refine aloop mixed (fz := fun _ => []) (im := fun s => s == 2 || s == 12 || s == 28 || s == 61 || s == 72 || s == 74 || s == 90) (by kernel_rfl) (fun m tm H' => ∃ (k : Nat) (out : List Line), m = p.length - k ∧ k ≤ p.length ∧ Grow rLine 4 42 H H' (tm 10) out ∧ out.length ≤ k ∧ out ++ woX p gf k = woX p gf 0 ∧ tm 1 = aProg p cl' ∧ tm 5 = .vsl (dr.map rI) cz ∧ tm 11 = I k) p.length ⟨0, [], rfl, by omega, ?_⟩ ?_
      · simp +contextual -dsimp -implicitDefEqProofs (maxSteps := 5000000) only [go_sem, reduceIte, reduceCtorEq, Nat.reduceEqDiff, Nat.reduceBEq, Nat.reduceAdd, Nat.reduceLeDiff, Nat.reduceMul, Nat.reduceLT, Int.reduceEq, Int.reduceLT, Int.reduceLE, t1]
        exact grow_nil
      · rintro m tm H' ⟨k, out, rfl, hk, hg, ho, he, t1, t5, t11⟩
        by_cases hk3 : k < p.length
        · have hs := woX_step (g := gf) hk3
          have hel := endP_le hk3
          have heg := endP_gt p k
          simp +contextual -dsimp -implicitDefEqProofs (maxSteps := 5000000) only [go_sem, reduceIte, reduceCtorEq, Nat.reduceEqDiff, Nat.reduceBEq, Nat.reduceAdd, Nat.reduceLeDiff, Nat.reduceMul, Nat.reduceLT, Int.reduceEq, Int.reduceLT, Int.reduceLE, t1, t5, t11, hk3]
          refine (c_hasInt dr cz k _).det ?_
          have eg : (dr.any fun x => decide ((k : Int) = x)) = gf k := by rw [← hgn]
          rw [eg]
          simp +contextual -dsimp -implicitDefEqProofs (maxSteps := 5000000) only [go_sem, reduceIte, reduceCtorEq, Nat.reduceEqDiff, Nat.reduceBEq, Nat.reduceAdd, Nat.reduceLeDiff, Nat.reduceMul, Nat.reduceLT, Int.reduceEq, Int.reduceLT, Int.reduceLE, t1, t5, t11, hk3]
          refine ⟨fun hb => ?_, fun hb => ?_⟩
          · rw [if_pos hb] at hs
            refine (c_blockEnd p cl' k _ hk3).det ?_
            simp +contextual -dsimp -implicitDefEqProofs (maxSteps := 5000000) only [go_sem, reduceIte, reduceCtorEq, Nat.reduceEqDiff, Nat.reduceBEq, Nat.reduceAdd, Nat.reduceLeDiff, Nat.reduceMul, Nat.reduceLT, Int.reduceEq, Int.reduceLT, Int.reduceLE, t1, t5, t11, hk3]
            exact ⟨_, by omega, endP p k, out, rfl, hel, hg, by omega, by rw [← hs]; exact he, rfl⟩
          · rw [if_neg (by rw [hb]; decide)] at hs
            refine app_lines (m := [p.getD k default]) hg (by simp; omega) rfl fun x' H'' hg' => ?_
            simp +contextual -dsimp -implicitDefEqProofs (maxSteps := 5000000) only [go_sem, reduceIte, reduceCtorEq, Nat.reduceEqDiff, Nat.reduceBEq, Nat.reduceAdd, Nat.reduceLeDiff, Nat.reduceMul, Nat.reduceLT, Int.reduceEq, Int.reduceLT, Int.reduceLE, t1, t5, t11, hk3]
            exact ⟨_, by omega, k + 1, out ++ [p.getD k default], rfl, hk3, hg', by simp; omega, by rw [← he, hs]; simp, I_wrap (by omega) (by omega) (by omega)⟩
        · have hk4 : k = p.length := by omega
          rw [woX_end (by omega), List.append_nil, hdw] at he
          subst he
          simp +contextual -dsimp -implicitDefEqProofs (maxSteps := 5000000) only [go_sem, reduceIte, reduceCtorEq, Nat.reduceEqDiff, Nat.reduceBEq, Nat.reduceAdd, Nat.reduceLeDiff, Nat.reduceMul, Nat.reduceLT, Int.reduceEq, Int.reduceLT, Int.reduceLE, t1, t5, t11, hk3]
          exact hg
theorem c_sdropDead (t : List Class) (cl : Bool) (p : List Line) (cl' : Bool) (H : AHeap) (h : ValidP t p) : ACalls Try.prog 20 [aTree t cl, aProg p cl'] H fun r H' => (∃ c, r = aProg (dropP t p) c) ∧ H' = H := by
  refine acalls_fz (c_sdropDead0 t cl p cl' H h) ?_
  rintro _ H' hg
  obtain ⟨c1, hz⟩ := grow_fz hg
  exact ⟨_, H, grow_le hg, hz, ⟨c1, rfl⟩, rfl⟩
theorem c_sDropDead (t : List Class) (cl : Bool) (p : List Line) (cl' : Bool) (H : AHeap) (hn : namesOk t) (hp : p.length ≤ 4398046511104) : ACalls Try.prog 7 [aTree t cl, aProg p cl'] H fun r H' => (∃ c, r = aProg (dropR t p) c) ∧ H' = H := by
  refine acalls_of0 Try.func7 rfl (by kernel_rfl) rfl rfl (awp_sound (fz := fun _ => []) (im := fun s => s == 2) mixed _ _ _ _ (by kernel_rfl) ?_)
  simp +contextual -dsimp -implicitDefEqProofs (maxSteps := 5000000) only [go_sem, reduceIte, reduceCtorEq, Nat.reduceEqDiff, Nat.reduceBEq, Nat.reduceAdd, Nat.reduceLeDiff, Nat.reduceMul, Nat.reduceLT, Int.reduceEq, Int.reduceLT, Int.reduceLE]
  refine (c_svalidProgram t cl p cl' _ hn hp).det ?_
  cases hv : validB t p
  · have e : dropR t p = [] := by unfold dropR; rw [hv]; rfl
    rw [e]
    simp +contextual -dsimp -implicitDefEqProofs (maxSteps := 5000000) only [go_sem, reduceIte, reduceCtorEq, Nat.reduceEqDiff, Nat.reduceBEq, Nat.reduceAdd, Nat.reduceLeDiff, Nat.reduceMul, Nat.reduceLT, Int.reduceEq, Int.reduceLT, Int.reduceLE]
    try exact ⟨true, rfl⟩
  · have hval := validB_true.1 hv
    have e : dropR t p = dropP t p := by unfold dropR; rw [hv]; rfl
    rw [e]
    simp +contextual -dsimp -implicitDefEqProofs (maxSteps := 5000000) only [go_sem, reduceIte, reduceCtorEq, Nat.reduceEqDiff, Nat.reduceBEq, Nat.reduceAdd, Nat.reduceLeDiff, Nat.reduceMul, Nat.reduceLT, Int.reduceEq, Int.reduceLT, Int.reduceLE]
    refine (c_sdropDead t cl p cl' _ hval).mono ?_
    rintro _ _ ⟨⟨c, rfl⟩, rfl⟩
    simp +contextual -dsimp -implicitDefEqProofs (maxSteps := 5000000) only [go_sem, reduceIte, reduceCtorEq, Nat.reduceEqDiff, Nat.reduceBEq, Nat.reduceAdd, Nat.reduceLeDiff, Nat.reduceMul, Nat.reduceLT, Int.reduceEq, Int.reduceLT, Int.reduceLE]
    try exact ⟨c, rfl⟩
end
section
open Go Go.Sim
set_option maxRecDepth 100000
set_option maxHeartbeats 4000000

/-- A function that draws lines into a block of their own. -/
def Drawn (f : FuncId) (p : Nat) (d : Int) : Prop := ∀ (F : AHeap) (br n : Nat) (K : ABlk) (t : List Class) (cl : Bool) (lp : Bool), RdK n K → F br = none → n + p < 600000000 →
  ACalls Try.prog f [.ptr br 2 0 0, aTree t cl, I d, B lp] (F.set br K) fun r H' => ∃ (l : List Line) (G : AHeap) (K' : ABlk), Grow rLine 4 42 F G r l ∧ G br = none ∧ H' = G.set br K' ∧ RdK (n + p) K' ∧ 1 ≤ l.length ∧ l.length ≤ p
/-- The same, told when nobody writes them any more. -/
def DrawnF (f : FuncId) (p : Nat) (d : Int) : Prop := ∀ (F : AHeap) (br n : Nat) (K : ABlk) (t : List Class) (cl : Bool) (lp : Bool), RdK n K → F br = none → n + p < 600000000 →
  ACalls Try.prog f [.ptr br 2 0 0, aTree t cl, I d, B lp] (F.set br K) fun r H' => ∃ (l : List Line) (cl' : Bool) (K' : ABlk), r = .vsl (l.map rLine) cl' ∧ H' = F.set br K' ∧ RdK (n + p) K' ∧ 1 ≤ l.length ∧ l.length ≤ p
theorem Drawn.frz {f : FuncId} {p : Nat} {d : Int} (h : Drawn f p d) : DrawnF f p d := by
  intro F br n K t cl lp hK hF hn
  refine acalls_fz (h F br n K t cl lp hK hF hn) ?_
  rintro x _ ⟨l, G, K', hg, hr, rfl, hK', h1, h2⟩
  have hg' := grow_in (K := K') hg hr
  obtain ⟨cl', hz⟩ := grow_fz hg'
  exact ⟨_, F.set br K', grow_le hg', hz, l, cl', K', rfl, rfl, hK', h1, h2⟩
end
section
open Go Go.Sim
set_option maxRecDepth 100000
set_option maxHeartbeats 4000000
theorem c_mRunV (t : List Class) (cl : Bool) (p : List Line) (c1 : Bool) (H : AHeap) (hn : namesOk t) (hp : p.length ≤ 1000) (hv : validB t p = true) : ACalls Try.prog 10 [aTree t cl, aProg p c1] H fun r H' => (∃ c2 c3, r = aRes (resOf (runP t p)) c2 c3) ∧ H' = H := by
  have k := own_frz (c_mRunProgram t cl p c1 H hn (by omega))
  rw [if_pos hv] at k
  exact k
theorem linesEq (l : List Line) : decide (l = l) = true := by simp
theorem dropR_again {t : List Class} {p : List Line} (h : ValidP t p) : dropR t p = dropP t p ∧ dropR t (dropP t p) = dropP t p ∧ validB t (dropP t p) = true ∧ resOf (runP t (dropP t p)) = resOf (runP t p) ∧ (dropP t p).length ≤ p.length := by
  obtain ⟨h1, h2, h3, h4⟩ := drop_law h
  refine ⟨?_, ?_, validB_true.2 h1, h2, h4⟩
  · unfold dropR; rw [if_pos (validB_true.2 h)]
  · unfold dropR; rw [if_pos (validB_true.2 h1), h3]
theorem c_LawTopDead (t : List Class) (cl : Bool) (p : List Line) (cl' : Bool) (H : AHeap) (hn : namesOk t) (hp : p.length ≤ 4398046511104) :
    ACalls Try.prog 3 [aTree t cl, aProg p cl'] H fun r H' => r = B true ∧ H' = H := by
  refine acalls_of1 Try.func3 rfl (by kernel_rfl) rfl rfl (awp_sound (fz := fun _ => []) (im := fun s => s == 2) mixed _ _ _ _ (by kernel_rfl) ?_)
  simp +contextual -dsimp -implicitDefEqProofs (maxSteps := 5000000) only [go_sem, reduceIte, reduceCtorEq, Nat.reduceEqDiff, Nat.reduceBEq, Nat.reduceAdd, Nat.reduceLeDiff, Nat.reduceMul, Nat.reduceLT, Int.reduceEq, Int.reduceLT, Int.reduceLE]
  refine (c_mDropDead t cl p cl' _ hn hp).mono ?_
  rintro _ H ⟨⟨c1, rfl⟩, rfl⟩
  simp +contextual -dsimp -implicitDefEqProofs (maxSteps := 5000000) only [go_sem, reduceIte, reduceCtorEq, Nat.reduceEqDiff, Nat.reduceBEq, Nat.reduceAdd, Nat.reduceLeDiff, Nat.reduceMul, Nat.reduceLT, Int.reduceEq, Int.reduceLT, Int.reduceLE]
  refine (c_sDropDead t cl p cl' _ hn hp).mono ?_
  rintro _ H ⟨⟨c2, rfl⟩, rfl⟩
  simp +contextual -dsimp -implicitDefEqProofs (maxSteps := 5000000) only [go_sem, reduceIte, reduceCtorEq, Nat.reduceEqDiff, Nat.reduceBEq, Nat.reduceAdd, Nat.reduceLeDiff, Nat.reduceMul, Nat.reduceLT, Int.reduceEq, Int.reduceLT, Int.reduceLE]
  refine (c_equalLines _ _ _ _ _).det ?_
  rw [linesEq]
  simp +contextual -dsimp -implicitDefEqProofs (maxSteps := 5000000) only [go_sem, reduceIte, reduceCtorEq, Nat.reduceEqDiff, Nat.reduceBEq, Nat.reduceAdd, Nat.reduceLeDiff, Nat.reduceMul, Nat.reduceLT, Int.reduceEq, Int.reduceLT, Int.reduceLE]
  refine (c_ValidProgram t cl p cl' _ hn hp).det ?_
  cases hv : validB t p
  · simp +contextual -dsimp -implicitDefEqProofs (maxSteps := 5000000) only [go_sem, reduceIte, reduceCtorEq, Nat.reduceEqDiff, Nat.reduceBEq, Nat.reduceAdd, Nat.reduceLeDiff, Nat.reduceMul, Nat.reduceLT, Int.reduceEq, Int.reduceLT, Int.reduceLE]
    refine (c_sDropDead t cl p cl' _ hn hp).mono ?_
    rintro _ H ⟨⟨c2, rfl⟩, rfl⟩
    simp +contextual -dsimp -implicitDefEqProofs (maxSteps := 5000000) only [go_sem, reduceIte, reduceCtorEq, Nat.reduceEqDiff, Nat.reduceBEq, Nat.reduceAdd, Nat.reduceLeDiff, Nat.reduceMul, Nat.reduceLT, Int.reduceEq, Int.reduceLT, Int.reduceLE]
    refine (c_equalLines _ _ _ _ _).det ?_
    rw [linesEq]
    simp +contextual -dsimp -implicitDefEqProofs (maxSteps := 5000000) only [go_sem, reduceIte, reduceCtorEq, Nat.reduceEqDiff, Nat.reduceBEq, Nat.reduceAdd, Nat.reduceLeDiff, Nat.reduceMul, Nat.reduceLT, Int.reduceEq, Int.reduceLT, Int.reduceLE]
    refine retR_less (l := [B true]) (H' := H) ?_ (AHeap.le_refl _) ⟨rfl, rfl⟩
    simp only [resA, go_sem, reduceIte, reduceCtorEq, Nat.reduceEqDiff, Nat.reduceBEq, Nat.reduceAdd, Nat.reduceLeDiff, Nat.reduceMul, Nat.reduceLT, Int.reduceEq, Int.reduceLT, Int.reduceLE]
  · have hval := validB_true.1 hv
    obtain ⟨e1, e2, e3, e4, e5⟩ := dropR_again hval
    have hl := hval.2.1
    rw [e1]
    simp +contextual -dsimp -implicitDefEqProofs (maxSteps := 5000000) only [go_sem, reduceIte, reduceCtorEq, Nat.reduceEqDiff, Nat.reduceBEq, Nat.reduceAdd, Nat.reduceLeDiff, Nat.reduceMul, Nat.reduceLT, Int.reduceEq, Int.reduceLT, Int.reduceLE]
    refine draw_intro [0, 0, 3, 0, 0, 0, 3, 1, 0, 2, 2, 0, 0, 0, 0, 2, 0, 2, 0, 0, 0, 0, 0, 0, 0, 0, 0] AHeap.none (by kernel_rfl) none_le ?_
    simp +contextual -dsimp -implicitDefEqProofs (maxSteps := 5000000) only [go_sem, reduceIte, reduceCtorEq, Nat.reduceEqDiff, Nat.reduceBEq, Nat.reduceAdd, Nat.reduceLeDiff, Nat.reduceMul, Nat.reduceLT, Int.reduceEq, Int.reduceLT, Int.reduceLE]
    refine (c_ValidProgram t cl (dropP t p) c1 _ hn (by omega)).det ?_
    rw [e3]
    simp +contextual -dsimp -implicitDefEqProofs (maxSteps := 5000000) only [go_sem, reduceIte, reduceCtorEq, Nat.reduceEqDiff, Nat.reduceBEq, Nat.reduceAdd, Nat.reduceLeDiff, Nat.reduceMul, Nat.reduceLT, Int.reduceEq, Int.reduceLT, Int.reduceLE]
    refine (c_mRunV t cl (dropP t p) c1 _ hn (by omega) e3).mono ?_
    rintro _ H ⟨⟨c3, c4, rfl⟩, rfl⟩
    rw [e4]
    simp +contextual -dsimp -implicitDefEqProofs (maxSteps := 5000000) only [go_sem, reduceIte, reduceCtorEq, Nat.reduceEqDiff, Nat.reduceBEq, Nat.reduceAdd, Nat.reduceLeDiff, Nat.reduceMul, Nat.reduceLT, Int.reduceEq, Int.reduceLT, Int.reduceLE]
    refine (c_mRunV t cl p cl' _ hn (by omega) hv).mono ?_
    rintro _ H ⟨⟨c5, c6, rfl⟩, rfl⟩
    simp +contextual -dsimp -implicitDefEqProofs (maxSteps := 5000000) only [go_sem, reduceIte, reduceCtorEq, Nat.reduceEqDiff, Nat.reduceBEq, Nat.reduceAdd, Nat.reduceLeDiff, Nat.reduceMul, Nat.reduceLT, Int.reduceEq, Int.reduceLT, Int.reduceLE]
    refine (c_equalResult _ _ _ _ _ _ _).det ?_
    rw [resEq_refl]
    simp +contextual -dsimp -implicitDefEqProofs (maxSteps := 5000000) only [go_sem, reduceIte, reduceCtorEq, Nat.reduceEqDiff, Nat.reduceBEq, Nat.reduceAdd, Nat.reduceLeDiff, Nat.reduceMul, Nat.reduceLT, Int.reduceEq, Int.reduceLT, Int.reduceLE]
    refine (c_mDropDead t cl (dropP t p) c1 _ hn (by omega)).mono ?_
    rintro _ H ⟨⟨c7, rfl⟩, rfl⟩
    rw [e2]
    simp +contextual -dsimp -implicitDefEqProofs (maxSteps := 5000000) only [go_sem, reduceIte, reduceCtorEq, Nat.reduceEqDiff, Nat.reduceBEq, Nat.reduceAdd, Nat.reduceLeDiff, Nat.reduceMul, Nat.reduceLT, Int.reduceEq, Int.reduceLT, Int.reduceLE]
    refine (c_equalLines _ _ _ _ _).det ?_
    rw [linesEq]
    simp +contextual -dsimp -implicitDefEqProofs (maxSteps := 5000000) only [go_sem, reduceIte, reduceCtorEq, Nat.reduceEqDiff, Nat.reduceBEq, Nat.reduceAdd, Nat.reduceLeDiff, Nat.reduceMul, Nat.reduceLT, Int.reduceEq, Int.reduceLT, Int.reduceLE, e5]
    refine retR_less (l := [B true]) (H' := H) ?_ (AHeap.le_refl _) ⟨rfl, rfl⟩
    simp only [resA, go_sem, reduceIte, reduceCtorEq, Nat.reduceEqDiff, Nat.reduceBEq, Nat.reduceAdd, Nat.reduceLeDiff, Nat.reduceMul, Nat.reduceLT, Int.reduceEq, Int.reduceLT, Int.reduceLE]
end
end
end Go.Proofs.Ytoacjmckefahcaa
