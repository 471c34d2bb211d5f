/- The law FnIsolateFault answers true at every input and leaves its argument as it was, its listed tables tied to the program's text. No condition. -/
import Derived.Test.YtihjbbiajggcoaaDoorP4
section
set_option linter.unusedVariables false
set_option linter.unusedSimpArgs false
namespace Go.Proofs.YtihjbbiajggcoaaDoor
open Go Go.Sim
set_option maxRecDepth 100000
attribute [local go_sem ↓] aw_skip aw_ret aw_exit aw_region aw_draw aw_seq aw_block aw_loop aw_cond frz_nil frz_cons sq_normal sq_ret sq_exit exB_normal exB_ret exB_same exB_other retQ_ret retQ_normal ret0_ret ret0_normal ao_nil go1 g_move g_assign g_pick g_build g_load g_binOp g_unOp g_convert g_fieldAddr g_field g_indexAddr g_index g_extract g_slice g_nilCheck g_len g_makeFunc h_call h_append h_alloc h_box h_buildSlice h_makeSlice h_store gV i_box i_buildSlice i_move i_assign i_build i_load i_binOp i_unOp i_convert i_fieldAddr i_field i_indexAddr i_index i_extract i_slice i_nilCheck i_makeFunc i_len i_max i_min i_alloc i_makeSlice i_store i_append i_call i_pick boxI boxA buildSliceI buildSliceA makeSliceA allocA storeA p_move p_assign p_pick p_build p_load p_binOp p_unOp p_convert p_fieldAddr p_field p_indexAddr p_index p_extract p_slice p_nilCheck p_makeFunc p_len p_max p_min p_alloc p_box p_buildSlice p_makeSlice p_store p_append p_call x_nil x_go1 x_g0 x_g1 x_g2 x_g3 x_s0 x_s1 x_s2 x_s3 u_move u_assign u_pick u_build u_load u_binOp u_unOp u_convert u_fieldAddr u_field u_indexAddr u_index u_extract u_slice u_nilCheck u_makeFunc u_len u_buildSlice x_s4 x_g4 rq_normal rq_ret rq_exit aw_range
attribute [local go_sem] frzV_sl frzK_some set_none set_other AHeap.set_self set_del set_set cnd_t cnd_f cnd_b retA_one retA_two retA_three retA_four retA_nil gIf_b mrgV_b mrgV_wh mrgV_U gIf_U gIf_wh mrgB_f mrgB_some mrgB_if wh_true wh_false keepA_some keepA_if gD_zero gD_succ gT_some bxA_t bxA_f callA_fn ev_tmp ev_const ev_global ev_func oc_bool oc_int oc_string oc_nil oc_nilptr oc_nilfunc cl_bool cl_int cl_string cl_nil updO_some updO_none upd_same upd_other init_at pickA_b pickA_wh selA_t selA_f selA_and selA_or selA_orn selA_orm selA_bb selA_ii beqt b_add b_sub b_mul b_and b_or b_xor b_eql b_neq b_lss b_leq b_gtr b_geq b_quo b_rem b_shr b_seql b_sneq b_sadd b_beql b_bneq b_aeql b_aneq u_not u_neg isConstOp eqA eqCellV List.getD_cons_zero List.getD_cons_succ List.map_cons List.map_nil List.nil_append List.cons_append List.append_nil if_true if_false Option.map_some Option.map_none ne_eq not_false_eq_true oneA ldv ld1v ld1s wr1s ldRow stRow row_lit row_agg row_vsl row_sl row_ptr row_fn one_I one_B one_S one_vsl one_sl one_ptr one_fn extractA okA rI rS rU rClass rFault rExit rStart rLine Int.toNat_natCast List.length_cons List.length_nil List.length_map List.all_cons List.all_nil Bool.and_true Nat.zero_add List.getElem?_cons_zero List.getElem?_cons_succ List.take_succ_cons List.take_zero List.drop_succ_cons List.drop_zero and_self true_and and_true implies_true decide_eq_true_eq decide_eq_false_iff_not Bool.or_eq_true Bool.or_eq_false_iff Bool.and_eq_true Bool.not_eq_true' Bool.not_eq_false' beq_false decide_true decide_false Int.ofNat_lt Int.ofNat_le Int.natCast_nonneg Bool.or_true Bool.or_false Bool.true_or Bool.false_or beq_self_eq_true List.drop_one Bool.not_true Bool.not_false Bool.not_not Bool.false_eq_true Bool.true_eq_false false_implies true_implies Bool.true_and Bool.false_and Bool.and_false not_true_eq_false Int.natCast_eq_zero Int.natCast_pos Int.natCast_zero false_and and_false or_false false_or or_true true_or Bool.or_self none_le_iff List.replicate_zero Int.toNat_zero List.replicate_succ buildRows List.set_cons_zero List.set_cons_succ List.set_nil List.mapM_nil maxLen_eq Nat.zero_le Nat.mul_one Nat.one_mul bldA fillA spliceA List.take_nil List.drop_nil List.getElem?_nil ld1o wr1o bldSliceA le_same cv_i cvI_t quietT_fn qvd_some ld_o ldO_1 ldO_l wr_o wrO_1 set_2 set_3 set_4 putL_nil putL_cons List.zip_cons_cons List.zip_nil_left List.zip_nil_right List.toList_toArray frzV_set ti1 ti2 tk2 ti3 te3 ts3 tk3 tz3 ti4 tb4 ti5 tk5 tz5 ti9 te9 ts9 tk9 tz9 ti12 tk12 ti13 tp13 tf13_0 tf13_1 ti20 ti21 tk21 tz21 ti22 te22 tz22 ti23 te23 ti24 tp24 tf24_0 ti25 tp25 tf25_0 ti26 te26 ti27 tp27 tf27_0 ti28 tp28 tf28_0 ti30 ti32 ti33 ti34 tq34 tp34 tf34_0 tf34_1 tf34_2 tf34_3 tf34_4 ti35 tq35 tp35 tf35_0 tf35_1 tf35_2 tf35_3 tf35_4 ti36 ti37 te37 ti38 ti39 ti40 ti42 ti44 ti45 ti46 ti47 ti48 ti49 ti50 ti51 ti52 ti53 ti54 ti55 ti56 ti57 ti58 ti59 ti60 ti61 ti62 ti64 ti65 ti66 tp66 tf66_0 tf66_1 ti67 tp67 tf67_0 tf67_1 ti68 ti69 ti70 ti71 ti72 ti73 ti74 ti75 ti76 ti77 ti78 ti79 ti80 ti81 ti82 ti83 tq83 tp83 tf83_0 tf83_1 ti84 tq84 tp84 tf84_0 tf84_1 ti85 ti86 ti87 ti88 ti89 ti90 ti91 ti92 ti93 ti94 ti95 ti96 tk96 tz96 ti97 ti98 ti99 ti100 ti101 te101 ti102 ti103 ti104 tk104 ti106 ti107 ti108 ti110 ti111 ti112 tk112 tz112 ti113 ti114 tk114 tz114 ti115 tk115 ti116 ti117 ti118 ti119 ti120 ti121 ti122 ti124 ti125 ta125 ti126 ti128 ti129 ti130 ta130 ti131 ta131 ti132 ta132 ti133 ta133 ti134 ti140 ti144 fp13_0 fv13_0 fp13_1 fv13_1 fp24_0 fv24_0 fp25_0 fv25_0 fp27_0 fv27_0 fp28_0 fv28_0 fp34_0 fv34_0 fp34_1 fv34_1 fp34_2 fv34_2 fp34_3 fv34_3 fp34_4 fv34_4 fp35_0 fv35_0 fp35_1 fv35_1 fp35_2 fv35_2 fp35_3 fv35_3 fp35_4 fv35_4 fp66_0 fv66_0 fp66_1 fv66_1 fp67_0 fv67_0 fp67_1 fv67_1 fp83_0 fv83_0 fp83_1 fv83_1 fp84_0 fv84_0 fp84_1 fv84_1 lv22 ll22 is22 ix22 sh22 so22 sb22 sm22 sp22 lv23 ll23 is23 ix23 sh23 so23 sb23 sm23 sp23 lv26 ll26 is26 ix26 sh26 so26 sb26 sm26 sp26 lv37 ll37 is37 ix37 sh37 so37 sb37 sm37 sp37 lv101 ll101 is101 ix101 sh101 so101 sb101 sm101 sp101 xs9 ls9 sx9 sy9 sz9

theorem c_LawIsolate (bs : List UInt8) (cb : Bool) (H : AHeap) : ACalls Tryd.prog 4 [.vsl (bs.map rU) cb] H fun r H' => r = B true ∧ H' = H := by
  refine acalls_of1 Tryd.func4 rfl (by kernel_rfl) rfl rfl (awp_sound (fz := fun _ => []) (im := fun _ => false) mixed _ _ _ _ (by kernel_rfl) ?_)
  simp +contextual -dsimp -implicitDefEqProofs (maxSteps := 5000000) only [go_sem, reduceIte, reduceCtorEq, Nat.reduceEqDiff, Nat.reduceBEq, Nat.reduceAdd, Nat.reduceLeDiff, Nat.reduceMul, Nat.reduceLT, Int.reduceEq, Int.reduceLT, Int.reduceLE]
  refine ⟨fun hbig => ?_, fun hsmall => ?_⟩
  · refine retR_less (l := [B true]) (H' := H) ?_ (AHeap.le_refl _) ⟨rfl, rfl⟩
    simp only [resA, go_sem, reduceIte, reduceCtorEq, Nat.reduceEqDiff, Nat.reduceBEq, Nat.reduceAdd, Nat.reduceLeDiff, Nat.reduceMul, Nat.reduceLT, Int.reduceEq, Int.reduceLT, Int.reduceLE]
  refine (c_DrawIsolateFault bs cb H).mono ?_
  rintro _ H1 ⟨t, cl, h, cl', f, rfl, hH, ht8, hs, hl6⟩
  rw [hH]
  simp +contextual -dsimp -implicitDefEqProofs (maxSteps := 5000000) only [go_sem, reduceIte, reduceCtorEq, Nat.reduceEqDiff, Nat.reduceBEq, Nat.reduceAdd, Nat.reduceLeDiff, Nat.reduceMul, Nat.reduceLT, Int.reduceEq, Int.reduceLT, Int.reduceLE]
  rintro b3 h3 b4 ⟨p1, p2, h4⟩
  refine (c_mIsolateFault t cl h cl' f _ hs (by omega)).mono ?_
  rintro _ _ ⟨⟨c1, rfl⟩, rfl⟩
  simp +contextual -dsimp -implicitDefEqProofs (maxSteps := 5000000) only [go_sem, reduceIte, reduceCtorEq, Nat.reduceEqDiff, Nat.reduceBEq, Nat.reduceAdd, Nat.reduceLeDiff, Nat.reduceMul, Nat.reduceLT, Int.reduceEq, Int.reduceLT, Int.reduceLE, p1, p2]
  rintro b6 ⟨q1, q2, q3, q4, h6⟩
  refine (c_sIsolateFault t cl h cl' f _ hs (by omega)).mono ?_
  rintro _ _ ⟨⟨c2, rfl⟩, rfl⟩
  simp +contextual -dsimp -implicitDefEqProofs (maxSteps := 5000000) only [go_sem, reduceIte, reduceCtorEq, Nat.reduceEqDiff, Nat.reduceBEq, Nat.reduceAdd, Nat.reduceLeDiff, Nat.reduceMul, Nat.reduceLT, Int.reduceEq, Int.reduceLT, Int.reduceLE, p1, p2, q1, q2, q3, q4]
  rintro b8 ⟨r1, r2, r3, r4, r5, r6, h8⟩
  refine (c_equalHeap _ _ _ _ _).det ?_
  have eqv : ∀ l : List Fault, decide (l = l) = true := fun l => by simp
  rw [eqv]
  simp +contextual -dsimp -implicitDefEqProofs (maxSteps := 5000000) only [go_sem, reduceIte, reduceCtorEq, Nat.reduceEqDiff, Nat.reduceBEq, Nat.reduceAdd, Nat.reduceLeDiff, Nat.reduceMul, Nat.reduceLT, Int.reduceEq, Int.reduceLT, Int.reduceLE, p1, p2, q1, q2, q3, q4, r1, r2, r3, r4, r5, r6]
  have le4 : ∀ K3 K4 K6 K8, AHeap.le H ((((H.set b3 K3).set b4 K4).set b6 K6).set b8 K8) := fun _ _ _ _ => le_s1 (le_s1 (le_s1 (le_s1 (AHeap.le_refl _) h3) h4) h6) h8
  refine ⟨fun hneg => ?_, fun hpos => ?_⟩
  · refine (c_equalHeap _ _ _ _ _).det ?_
    rw [eqv]
    simp +contextual -dsimp -implicitDefEqProofs (maxSteps := 5000000) only [go_sem, reduceIte, reduceCtorEq, Nat.reduceEqDiff, Nat.reduceBEq, Nat.reduceAdd, Nat.reduceLeDiff, Nat.reduceMul, Nat.reduceLT, Int.reduceEq, Int.reduceLT, Int.reduceLE, p1, p2, q1, q2, q3, q4, r1, r2, r3, r4, r5, r6]
    refine retR_less (l := [B true]) (H' := H) ?_ (le4 _ _ _ _) ⟨rfl, rfl⟩
    simp only [resA, go_sem, reduceIte, reduceCtorEq, Nat.reduceEqDiff, Nat.reduceBEq, Nat.reduceAdd, Nat.reduceLeDiff, Nat.reduceMul, Nat.reduceLT, Int.reduceEq, Int.reduceLT, Int.reduceLE]
  · have hval : (validH t h && inR f 0 (h.length - 1)) = true := by
      cases hq : validH t h && inR f 0 (h.length - 1)
      · exfalso
        apply hpos
        rw [isoF, if_neg (by rw [hq]; decide)]
        show (-1 : Int) < 0
        omega
      · rfl
    have hval2 := hval
    rw [Bool.and_eq_true] at hval2
    have hf := inR_len.1 hval2.2
    obtain ⟨g1, g2, g3, g4, g5, g6⟩ := iso_law hval2.1 hf.1 hf.2
    have eo : isoF t h f = (isoL h (sortI (bfsF h f)), posF (sortI (bfsF h f)) f) := by rw [isoF, if_pos hval]; rfl
    have ol : (isoL h (sortI (bfsF h f))).length ≤ 24 := (validH_all g1).2.2.2
    rw [eo]
    generalize hO : isoL h (sortI (bfsF h f)) = O at g1 g3 g4 g5 g6 ol ⊢
    generalize hG : posF (sortI (bfsF h f)) f = g at g2 g3 g4 g5 g6 ⊢
    refine (c_mIsolateFault t cl O c1 g _ hs (by omega)).mono ?_
    rintro _ _ ⟨⟨c3, rfl⟩, rfl⟩
    rw [g6]
    simp +contextual -dsimp -implicitDefEqProofs (maxSteps := 5000000) only [go_sem, reduceIte, reduceCtorEq, Nat.reduceEqDiff, Nat.reduceBEq, Nat.reduceAdd, Nat.reduceLeDiff, Nat.reduceMul, Nat.reduceLT, Int.reduceEq, Int.reduceLT, Int.reduceLE, p1, p2, q1, q2, q3, q4, r1, r2, r3, r4, r5, r6]
    rintro b10 ⟨u1, u2, u3, u4, u5, u6, u7, u8, h10⟩
    refine draw_intro [0, 0, 3, 0, 0, 0, 0, 3, 1, 1, 0, 3, 0, 0, 0, 0, 0, 0, 3, 0, 0, 1, 0, 0, 0, 0, 0, 1, 0, 0, 0, 0, 3, 0, 0, 0, 0, 0, 0, 2, 0, 0, 0, 0, 0, 0, 0] _ (by kernel_rfl) (AHeap.le_refl _) ?_
    simp +contextual -dsimp -implicitDefEqProofs (maxSteps := 5000000) only [go_sem, reduceIte, reduceCtorEq, Nat.reduceEqDiff, Nat.reduceBEq, Nat.reduceAdd, Nat.reduceLeDiff, Nat.reduceMul, Nat.reduceLT, Int.reduceEq, Int.reduceLT, Int.reduceLE, p1, p2, q1, q2, q3, q4, r1, r2, r3, r4, r5, r6, u1, u2, u3, u4, u5, u6, u7, u8]
    refine (c_ValidHeap t cl O c1 _ (short_ok hs) (by omega)).det ?_
    rw [g1]
    refine ⟨AHeap.le_refl _, ?_⟩
    simp +contextual -dsimp -implicitDefEqProofs (maxSteps := 5000000) only [go_sem, reduceIte, reduceCtorEq, Nat.reduceEqDiff, Nat.reduceBEq, Nat.reduceAdd, Nat.reduceLeDiff, Nat.reduceMul, Nat.reduceLT, Int.reduceEq, Int.reduceLT, Int.reduceLE, p1, p2, q1, q2, q3, q4, r1, r2, r3, r4, r5, r6, u1, u2, u3, u4, u5, u6, u7, u8]
    refine (c_ChainText t cl O c1 g _ hs (by omega)).det ?_
    refine ⟨AHeap.le_refl _, ?_⟩
    simp +contextual -dsimp -implicitDefEqProofs (maxSteps := 5000000) only [go_sem, reduceIte, reduceCtorEq, Nat.reduceEqDiff, Nat.reduceBEq, Nat.reduceAdd, Nat.reduceLeDiff, Nat.reduceMul, Nat.reduceLT, Int.reduceEq, Int.reduceLT, Int.reduceLE, p1, p2, q1, q2, q3, q4, r1, r2, r3, r4, r5, r6, u1, u2, u3, u4, u5, u6, u7, u8]
    refine (c_ChainText t cl h cl' f _ hs (by omega)).det ?_
    rw [g4]
    refine ⟨AHeap.le_refl _, ?_⟩
    simp +contextual -dsimp -implicitDefEqProofs (maxSteps := 5000000) only [go_sem, reduceIte, reduceCtorEq, Nat.reduceEqDiff, Nat.reduceBEq, Nat.reduceAdd, Nat.reduceLeDiff, Nat.reduceMul, Nat.reduceLT, Int.reduceEq, Int.reduceLT, Int.reduceLE, p1, p2, q1, q2, q3, q4, r1, r2, r3, r4, r5, r6, u1, u2, u3, u4, u5, u6, u7, u8]
    have cv : (validH t O && inR g 0 (O.length - 1)) = true := by rw [g1, inR_len.2 ⟨g2, g3⟩]; rfl
    have n1 : (numsF (sortI (bfsF h f)).length).length = O.length := by rw [← hO, isoL_len]; simp [numsF]
    have n2 : (sortI (bfsF h f)).length = O.length := by rw [← hO, isoL_len]
    refine acalls_frz (c_ReachOf t cl O c1 g _ hs (by omega)) fun c5 => ?_
    rw [if_pos cv, g5]
    refine ⟨AHeap.le_refl _, ?_⟩
    simp +contextual -dsimp -implicitDefEqProofs (maxSteps := 5000000) only [go_sem, reduceIte, reduceCtorEq, Nat.reduceEqDiff, Nat.reduceBEq, Nat.reduceAdd, Nat.reduceLeDiff, Nat.reduceMul, Nat.reduceLT, Int.reduceEq, Int.reduceLT, Int.reduceLE, n1, p1, p2, q1, q2, q3, q4, r1, r2, r3, r4, r5, r6, u1, u2, u3, u4, u5, u6, u7, u8]
    refine acalls_frz (c_ReachOf t cl h cl' f _ hs (by omega)) fun c6 => ?_
    rw [if_pos hval]
    refine ⟨AHeap.le_refl _, ?_⟩
    simp +contextual -dsimp -implicitDefEqProofs (maxSteps := 5000000) only [go_sem, reduceIte, reduceCtorEq, Nat.reduceEqDiff, Nat.reduceBEq, Nat.reduceAdd, Nat.reduceLeDiff, Nat.reduceMul, Nat.reduceLT, Int.reduceEq, Int.reduceLT, Int.reduceLE, n2, p1, p2, q1, q2, q3, q4, r1, r2, r3, r4, r5, r6, u1, u2, u3, u4, u5, u6, u7, u8]
    refine (c_equalHeap _ _ _ _ _).det ?_
    rw [eqv]
    simp +contextual -dsimp -implicitDefEqProofs (maxSteps := 5000000) only [go_sem, reduceIte, reduceCtorEq, Nat.reduceEqDiff, Nat.reduceBEq, Nat.reduceAdd, Nat.reduceLeDiff, Nat.reduceMul, Nat.reduceLT, Int.reduceEq, Int.reduceLT, Int.reduceLE, n2, p1, p2, q1, q2, q3, q4, r1, r2, r3, r4, r5, r6, u1, u2, u3, u4, u5, u6, u7, u8]
    refine retR_less (l := [B true]) (H' := H) ?_ (le_s1 (le4 _ _ _ _) h10) ⟨rfl, rfl⟩
    simp only [resA, go_sem, reduceIte, reduceCtorEq, Nat.reduceEqDiff, Nat.reduceBEq, Nat.reduceAdd, Nat.reduceLeDiff, Nat.reduceMul, Nat.reduceLT, Int.reduceEq, Int.reduceLT, Int.reduceLE]
end Go.Proofs.YtihjbbiajggcoaaDoor
end
