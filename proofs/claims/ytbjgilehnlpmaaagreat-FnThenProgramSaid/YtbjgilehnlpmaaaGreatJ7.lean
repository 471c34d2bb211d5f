/- Walks and plain laws that the claims of this seat lean on. No condition. -/
import Derived.Test.YtbjgilehnlpmaaaGreatJ6
import Derived.Test.YtbjgilehnlpmaaaGreatJ5
set_option linter.unusedVariables false
set_option linter.unusedSimpArgs false
namespace Go.Proofs.YtbjgilehnlpmaaaGreat
open Go Go.Sim
section
set_option maxRecDepth 100000
attribute [local go_sem ↓] aw_skip aw_ret aw_exit aw_region aw_draw aw_seq aw_block aw_loop aw_cond frz_nil frz_cons sq_normal sq_ret sq_exit exB_normal exB_ret exB_same exB_other retQ_ret retQ_normal ret0_ret ret0_normal ao_nil go1 g_move g_assign g_pick g_build g_load g_binOp g_unOp g_convert g_fieldAddr g_field g_indexAddr g_index g_extract g_slice g_nilCheck g_len g_makeFunc h_call h_append h_alloc h_box h_buildSlice h_makeSlice h_store gV i_box i_buildSlice i_move i_assign i_build i_load i_binOp i_unOp i_convert i_fieldAddr i_field i_indexAddr i_index i_extract i_slice i_nilCheck i_makeFunc i_len i_max i_min i_alloc i_makeSlice i_store i_append i_call i_pick boxI boxA buildSliceI buildSliceA makeSliceA allocA storeA p_move p_assign p_pick p_build p_load p_binOp p_unOp p_convert p_fieldAddr p_field p_indexAddr p_index p_extract p_slice p_nilCheck p_makeFunc p_len p_max p_min p_alloc p_box p_buildSlice p_makeSlice p_store p_append p_call x_nil x_go1 x_g0 x_g1 x_g2 x_g3 x_s0 x_s1 x_s2 x_s3 u_move u_assign u_pick u_build u_load u_binOp u_unOp u_convert u_fieldAddr u_field u_indexAddr u_index u_extract u_slice u_nilCheck u_makeFunc u_len u_buildSlice x_s4 x_g4 rq_normal rq_ret rq_exit aw_range
attribute [local go_sem] frzV_sl frzK_some set_none set_other AHeap.set_self set_del set_set cnd_t cnd_f cnd_b retA_one retA_two retA_three retA_four retA_nil gIf_b mrgV_b mrgV_wh mrgV_U gIf_U gIf_wh mrgB_f mrgB_some mrgB_if wh_true wh_false keepA_some keepA_if gD_zero gD_succ gT_some bxA_t bxA_f callA_fn ev_tmp ev_const ev_global ev_func oc_bool oc_int oc_string oc_nil oc_nilptr oc_nilfunc cl_bool cl_int cl_string cl_nil updO_some updO_none upd_same upd_other init_at pickA_b pickA_wh selA_t selA_f selA_and selA_or selA_orn selA_orm selA_bb selA_ii beqt b_add b_sub b_mul b_and b_or b_xor b_eql b_neq b_lss b_leq b_gtr b_geq b_quo b_rem b_shr b_seql b_sneq b_sadd b_beql b_bneq b_aeql b_aneq u_not u_neg isConstOp eqA eqCellV List.getD_cons_zero List.getD_cons_succ List.map_cons List.map_nil List.nil_append List.cons_append List.append_nil if_true if_false Option.map_some Option.map_none ne_eq not_false_eq_true oneA ldv ld1v ld1s wr1s ldRow stRow row_lit row_agg row_vsl row_sl row_ptr row_fn one_I one_B one_S one_vsl one_sl one_ptr one_fn extractA okA rI rS rU rClass rFault rExit rStart rLine Int.toNat_natCast List.length_cons List.length_nil List.length_map List.all_cons List.all_nil Bool.and_true Nat.zero_add List.getElem?_cons_zero List.getElem?_cons_succ List.take_succ_cons List.take_zero List.drop_succ_cons List.drop_zero and_self true_and and_true implies_true decide_eq_true_eq decide_eq_false_iff_not Bool.or_eq_true Bool.or_eq_false_iff Bool.and_eq_true Bool.not_eq_true' Bool.not_eq_false' beq_false decide_true decide_false Int.ofNat_lt Int.ofNat_le Int.natCast_nonneg Bool.or_true Bool.or_false Bool.true_or Bool.false_or beq_self_eq_true List.drop_one Bool.not_true Bool.not_false Bool.not_not Bool.false_eq_true Bool.true_eq_false false_implies true_implies Bool.true_and Bool.false_and Bool.and_false not_true_eq_false Int.natCast_eq_zero Int.natCast_pos Int.natCast_zero false_and and_false or_false false_or or_true true_or Bool.or_self none_le_iff List.replicate_zero Int.toNat_zero List.replicate_succ buildRows List.set_cons_zero List.set_cons_succ List.set_nil List.mapM_nil maxLen_eq Nat.zero_le Nat.mul_one Nat.one_mul bldA fillA spliceA List.take_nil List.drop_nil List.getElem?_nil ld1o wr1o bldSliceA le_same cv_i cvI_t quietT_fn qvd_some ld_o ldO_1 ldO_l wr_o wrO_1 set_2 set_3 set_4 putL_nil putL_cons List.zip_cons_cons List.zip_nil_left List.zip_nil_right List.toList_toArray frzV_set ti1 ti2 tk2 ti3 te3 ts3 tk3 tz3 ti4 tb4 ti5 tk5 tz5 ti9 te9 ts9 tk9 tz9 ti12 tk12 ti13 tp13 tf13_0 tf13_1 ti20 ti21 tk21 tz21 ti22 te22 ti23 tp23 tf23_0 ti24 tp24 tf24_0 ti25 te25 ti26 te26 ti27 te27 ti28 tp28 tf28_0 ti29 tp29 tf29_0 ti30 tp30 tf30_0 tf30_1 tf30_2 tf30_3 ti31 tp31 tf31_0 tf31_1 tf31_2 tf31_3 ti32 ti33 ti34 ti35 te35 tz35 ti37 ti38 ti39 ti40 ti42 ti44 ti46 ti47 ti48 ti49 tq49 tp49 tf49_0 tf49_1 tf49_2 tf49_3 ti50 tq50 tp50 tf50_0 tf50_1 tf50_2 tf50_3 ti51 ti52 ti53 ti54 ti55 ti56 ti57 ti58 tq58 tp58 tf58_0 tf58_1 ti59 tq59 tp59 tf59_0 tf59_1 ti60 ti61 ti62 ti63 ti64 ti65 ti66 ti67 ti68 ti69 ti70 ti71 ti72 ti73 ti74 ti75 ti76 ti77 ti78 ti79 tq79 tp79 tf79_0 tf79_1 tf79_2 tf79_3 tf79_4 ti80 tq80 tp80 tf80_0 tf80_1 tf80_2 tf80_3 tf80_4 ti81 ti82 ti83 ti84 ti85 ti86 ti87 ti88 ti89 tp89 tf89_0 tf89_1 tf89_2 tf89_3 tf89_4 ti90 tp90 tf90_0 tf90_1 tf90_2 tf90_3 tf90_4 ti91 ti93 ti94 ti95 ti96 ti97 ti98 tp98 tf98_0 tf98_1 tf98_2 tf98_3 ti99 tp99 tf99_0 tf99_1 tf99_2 tf99_3 ti100 tq100 tp100 tf100_0 tf100_1 ti101 tq101 tp101 tf101_0 tf101_1 ti102 ti103 ti104 tq104 tp104 tf104_0 tf104_1 ti105 tq105 tp105 tf105_0 tf105_1 ti106 ti107 ti108 ti109 ti110 ti111 ti112 ti113 tp113 tf113_0 tf113_1 ti114 tp114 tf114_0 tf114_1 ti115 ti116 ti117 ti118 te118 ti119 ti120 ti121 ti122 ti123 ti124 ti125 ti126 ti127 ti128 ti129 ti130 ti131 te131 ti132 ti133 ti134 ti135 ti136 tk136 tz136 ti137 ti138 ti139 ti140 ti141 ti142 ti143 tk143 ti145 ti146 ti147 ti149 ti150 ti151 tk151 tz151 ti152 ti153 tk153 tz153 ti154 ti155 ti156 ti157 ti158 tk158 ti159 ti160 ti161 ti162 ti163 ti164 ti165 ti167 ti168 ti174 ti178 fp13_0 fv13_0 fp13_1 fv13_1 fp23_0 fv23_0 fp24_0 fv24_0 fp28_0 fv28_0 fp29_0 fv29_0 fp30_0 fv30_0 fp30_1 fv30_1 fp30_2 fv30_2 fp30_3 fv30_3 fp31_0 fv31_0 fp31_1 fv31_1 fp31_2 fv31_2 fp31_3 fv31_3 fp49_0 fv49_0 fp49_1 fv49_1 fp49_2 fv49_2 fp49_3 fv49_3 fp50_0 fv50_0 fp50_1 fv50_1 fp50_2 fv50_2 fp50_3 fv50_3 fp58_0 fv58_0 fp58_1 fv58_1 fp59_0 fv59_0 fp59_1 fv59_1 fp79_0 fv79_0 fp79_1 fv79_1 fp79_2 fv79_2 fp79_3 fv79_3 fp79_4 fv79_4 fp80_0 fv80_0 fp80_1 fv80_1 fp80_2 fv80_2 fp80_3 fv80_3 fp80_4 fv80_4 fp89_0 fv89_0 fp89_1 fv89_1 fp89_2 fv89_2 fp89_3 fv89_3 fp89_4 fv89_4 fp90_0 fv90_0 fp90_1 fv90_1 fp90_2 fv90_2 fp90_3 fv90_3 fp90_4 fv90_4 fp98_0 fv98_0 fp98_1 fv98_1 fp98_2 fv98_2 fp98_3 fv98_3 fp99_0 fv99_0 fp99_1 fv99_1 fp99_2 fv99_2 fp99_3 fv99_3 fp100_0 fv100_0 fp100_1 fv100_1 fp101_0 fv101_0 fp101_1 fv101_1 fp104_0 fv104_0 fp104_1 fv104_1 fp105_0 fv105_0 fp105_1 fv105_1 fp113_0 fv113_0 fp113_1 fv113_1 fp114_0 fv114_0 fp114_1 fv114_1 lv22 ll22 is22 ix22 sh22 so22 sb22 sm22 sp22 lv25 ll25 is25 ix25 sh25 so25 sb25 sm25 sp25 lv26 ll26 is26 ix26 sh26 so26 sb26 sm26 sp26 lv27 ll27 is27 ix27 sh27 so27 sb27 sm27 sp27 lv35 ll35 is35 ix35 sh35 so35 sb35 sm35 sp35 lv118 ll118 is118 sp118 lv131 ll131 is131 ix131 sh131 so131 sb131 sm131 sp131 xs9 ls9 sx9 sy9 sz9
section
open Go Go.Sim
set_option maxRecDepth 100000
set_option maxHeartbeats 4000000

theorem le_look {G : AHeap} {b c : Nat} {K k : ABlk} (hb : G b = none) (hc : G c = some k) : (G.set b K) c = some k := by
  have : c ≠ b := fun e => by rw [e, hb] at hc; cases hc
  simp only [AHeap.set, if_neg this]; exact hc
theorem fz_up {G H : AHeap} {b : Nat} {K : ABlk} {x y : AV} (h : Fz G H x y) (hb : G b = none) : Fz (G.set b K) H x y := by
  induction h with
  | same a => exact .same a
  | sl h1 h2 h3 h4 => exact .sl (le_look hb h1) h2 h3 h4
  | ptr h1 h2 h4 => exact .ptr (le_look hb h1) h2 h4
  | agg h1 _ ih => exact .agg h1 fun i c c' hc hc' => ih i c c' hc hc'
  | tup h1 _ ih => exact .tup h1 fun i c c' hc hc' => ih i c c' hc hc'
theorem c_LawThenProgram (bs : List UInt8) (cb : Bool) (H : AHeap) : ACalls Tryz.prog 5 [.vsl (bs.map rU) cb] H fun r H' => r = B true ∧ H' = H := by
  have eqv : ∀ l : List Line, decide (l = l) = true := fun l => by simp
  have ers : ∀ R : Res, resEq R R = true := fun R => by simp [resEq]
  refine acalls_of1 Tryz.func5 rfl (by kernel_rfl) rfl rfl (awp_sound (fz := fun r => if r = 3 then [3] else if r = 8 then [10] else if r = 10 then [12] else []) (im := fun _ => false) mixed _ _ _ _ (by kernel_rfl) ?_)
  simp +contextual -dsimp -implicitDefEqProofs (maxSteps := 5000000) only [go_sem, reduceIte, reduceCtorEq, Nat.reduceEqDiff, Nat.reduceBEq, Nat.reduceAdd, Nat.reduceLeDiff, Nat.reduceMul, Nat.reduceLT, Int.reduceEq, Int.reduceLT, Int.reduceLE]
  refine ⟨fun hbig => ?_, fun hsmall => ?_⟩
  · refine retR_less (l := [B true]) (H' := H) ?_ (AHeap.le_refl _) ⟨rfl, rfl⟩
    simp only [resA, go_sem, reduceIte, reduceCtorEq, Nat.reduceEqDiff, Nat.reduceBEq, Nat.reduceAdd, Nat.reduceLeDiff, Nat.reduceMul, Nat.reduceLT, Int.reduceEq, Int.reduceLT, Int.reduceLE]
  refine (c_DrawThenProgram H bs cb).mono ?_
  rintro _ H1 ⟨t, cl, p, q, c1, c2, rfl, hH, hs, ht8, hp, hq⟩
  rw [hH]
  have hn := short_ok hs
  have hip := innP_len p
  have hiq := innP_len q
  simp +contextual -dsimp -implicitDefEqProofs (maxSteps := 5000000) only [go_sem, reduceIte, reduceCtorEq, Nat.reduceEqDiff, Nat.reduceBEq, Nat.reduceAdd, Nat.reduceLeDiff, Nat.reduceMul, Nat.reduceLT, Int.reduceEq, Int.reduceLT, Int.reduceLE]
  intro b3 hb3
  refine (c_mThenProgram t cl p q c1 c2 _ hn (by omega) (by omega)).mono ?_
  rintro _ H ⟨⟨d1, rfl⟩, rfl⟩
  simp +contextual -dsimp -implicitDefEqProofs (maxSteps := 5000000) only [go_sem, reduceIte, reduceCtorEq, Nat.reduceEqDiff, Nat.reduceBEq, Nat.reduceAdd, Nat.reduceLeDiff, Nat.reduceMul, Nat.reduceLT, Int.reduceEq, Int.reduceLT, Int.reduceLE]
  refine (c_sThenProgram t cl p q c1 c2 _ hn (by omega) (by omega)).mono ?_
  rintro _ H ⟨⟨d2, rfl⟩, rfl⟩
  simp +contextual -dsimp -implicitDefEqProofs (maxSteps := 5000000) only [go_sem, reduceIte, reduceCtorEq, Nat.reduceEqDiff, Nat.reduceBEq, Nat.reduceAdd, Nat.reduceLeDiff, Nat.reduceMul, Nat.reduceLT, Int.reduceEq, Int.reduceLT, Int.reduceLE]
  refine (c_equalLines _ _ _ _ _).det ?_
  rw [eqv]
  cases hb : mkB (validB t p && validB t q) t (p ++ q)
  · simp +contextual -dsimp -implicitDefEqProofs (maxSteps := 5000000) only [go_sem, reduceIte, reduceCtorEq, Nat.reduceEqDiff, Nat.reduceBEq, Nat.reduceAdd, Nat.reduceLeDiff, Nat.reduceMul, Nat.reduceLT, Int.reduceEq, Int.reduceLT, Int.reduceLE]
    refine (c_equalLines _ _ _ _ _).det ?_
    rw [eqv]
    simp +contextual -dsimp -implicitDefEqProofs (maxSteps := 5000000) only [go_sem, reduceIte, reduceCtorEq, Nat.reduceEqDiff, Nat.reduceBEq, Nat.reduceAdd, Nat.reduceLeDiff, Nat.reduceMul, Nat.reduceLT, Int.reduceEq, Int.reduceLT, Int.reduceLE]
    refine retR_less (l := [B true]) (H' := H) ?_ (AHeap.le_refl _) ⟨rfl, rfl⟩
    simp only [resA, go_sem, reduceIte, reduceCtorEq, Nat.reduceEqDiff, Nat.reduceBEq, Nat.reduceAdd, Nat.reduceLeDiff, Nat.reduceMul, Nat.reduceLT, Int.reduceEq, Int.reduceLT, Int.reduceLE]
  obtain ⟨hvb, hv3, hvb3, emk⟩ := mk_true hb
  rw [Bool.and_eq_true] at hvb
  have hv1 := validB_true.1 hvb.1
  have hv2 := validB_true.1 hvb.2
  rw [emk]
  have k1 := fun H => c_mRun t cl p c1 H hn (by omega) hvb.1
  have k2 := fun H => c_mRun t cl q c2 H hn (by omega) hvb.2
  have k3 := fun H => c_mRun t cl (p ++ q) d1 H hn (by simp [List.length_append]; omega) hvb3
  have hl1 := res_len3 hv1
  have hl2 := res_len3 hv2
  have hl3 := res_len3 hv3
  obtain ⟨g1, g2⟩ := then_law hv1 hv2 hv3
  generalize resOf (runP t p) = R1 at hl1 k1 g1 g2
  generalize resOf (runP t q) = R2 at hl2 k2 g1 g2
  generalize resOf (runP t (p ++ q)) = R3 at hl3 k3 g1 g2
  simp +contextual -dsimp -implicitDefEqProofs (maxSteps := 5000000) only [go_sem, reduceIte, reduceCtorEq, Nat.reduceEqDiff, Nat.reduceBEq, Nat.reduceAdd, Nat.reduceLeDiff, Nat.reduceMul, Nat.reduceLT, Int.reduceEq, Int.reduceLT, Int.reduceLE]
  refine (k1 _).mono ?_
  rintro _ H ⟨⟨c3, c4, rfl⟩, rfl⟩
  simp +contextual -dsimp -implicitDefEqProofs (maxSteps := 5000000) only [go_sem, reduceIte, reduceCtorEq, Nat.reduceEqDiff, Nat.reduceBEq, Nat.reduceAdd, Nat.reduceLeDiff, Nat.reduceMul, Nat.reduceLT, Int.reduceEq, Int.reduceLT, Int.reduceLE]
  intro b9 hb9
  refine (k2 _).mono ?_
  rintro _ H ⟨⟨c5, c6, rfl⟩, rfl⟩
  simp +contextual -dsimp -implicitDefEqProofs (maxSteps := 5000000) only [go_sem, reduceIte, reduceCtorEq, Nat.reduceEqDiff, Nat.reduceBEq, Nat.reduceAdd, Nat.reduceLeDiff, Nat.reduceMul, Nat.reduceLT, Int.reduceEq, Int.reduceLT, Int.reduceLE]
  rintro b10 hb10
  refine (k3 _).mono ?_
  rintro _ _ ⟨⟨c7, c8, rfl⟩, rfl⟩
  simp +contextual -dsimp -implicitDefEqProofs (maxSteps := 5000000) only [go_sem, reduceIte, reduceCtorEq, Nat.reduceEqDiff, Nat.reduceBEq, Nat.reduceAdd, Nat.reduceLeDiff, Nat.reduceMul, Nat.reduceLT, Int.reduceEq, Int.reduceLT, Int.reduceLE]
  rintro b11 ⟨e1, e2, hb11⟩
  refine ⟨fun he => ?_, fun he => ?_⟩
  · rw [g1 he]
    refine (c_equalResult _ _ _ _ _ _ _).det ?_
    rw [ers]
    simp +contextual -dsimp -implicitDefEqProofs (maxSteps := 5000000) only [go_sem, reduceIte, reduceCtorEq, Nat.reduceEqDiff, Nat.reduceBEq, Nat.reduceAdd, Nat.reduceLeDiff, Nat.reduceMul, Nat.reduceLT, Int.reduceEq, Int.reduceLT, Int.reduceLE]
    refine retR_less (l := [B true]) (H' := H) ?_ (le_set hb10) ⟨rfl, rfl⟩
    simp only [resA, go_sem, reduceIte, reduceCtorEq, Nat.reduceEqDiff, Nat.reduceBEq, Nat.reduceAdd, Nat.reduceLeDiff, Nat.reduceMul, Nat.reduceLT, Int.reduceEq, Int.reduceLT, Int.reduceLE]
  · refine draw_intro [0, 0, 0, 3, 0, 1, 2, 0, 2] _ (by kernel_rfl) (AHeap.le_refl _) ?_
    simp +contextual -dsimp -implicitDefEqProofs (maxSteps := 5000000) only [go_sem, reduceIte, reduceCtorEq, Nat.reduceEqDiff, Nat.reduceBEq, Nat.reduceAdd, Nat.reduceLeDiff, Nat.reduceMul, Nat.reduceLT, Int.reduceEq, Int.reduceLT, Int.reduceLE]
    refine grow_append (m := R1.log) te26 ti3 rI_len (by decide) grow_nil (by show (0 + R1.log.length) * 8 ≤ _; omega) (by show 0 + R1.log.length ≤ _; omega) rfl fun x1 H1 hg1 => ?_
    simp +contextual -dsimp -implicitDefEqProofs (maxSteps := 5000000) only [go_sem, reduceIte, reduceCtorEq, Nat.reduceEqDiff, Nat.reduceBEq, Nat.reduceAdd, Nat.reduceLeDiff, Nat.reduceMul, Nat.reduceLT, Int.reduceEq, Int.reduceLT, Int.reduceLE]
    refine ⟨grow_le hg1, ?_⟩
    refine grow_append (m := R2.log) te26 ti3 rI_len (by decide) hg1 (by show (R1.log.length + R2.log.length) * 8 ≤ _; omega) (by show R1.log.length + R2.log.length ≤ _; omega) rfl fun x2 H2 hg2 => ?_
    rw [List.nil_append] at hg2
    have hle2 := grow_le hg2
    obtain ⟨G, hg3, rfl, u3⟩ := grow_out hg2 hb10
    obtain ⟨o1, o2⟩ := one_grow hg3
    obtain ⟨c9, hz⟩ := grow_fz hg3
    simp +contextual -dsimp -implicitDefEqProofs (maxSteps := 5000000) only [go_sem, reduceIte, reduceCtorEq, Nat.reduceEqDiff, Nat.reduceBEq, Nat.reduceAdd, Nat.reduceLeDiff, Nat.reduceMul, Nat.reduceLT, Int.reduceEq, Int.reduceLT, Int.reduceLE, o1, o2]
    rw [g2 he]
    refine acalls_drop [aRes { R2 with log := R1.log ++ R2.log } c7 c8, aRes { R2 with log := R1.log ++ R2.log } c9 c6] (AHeap.le_trans (grow_le hg3) (le_set u3)) (.cons (.same _) (.cons (fz_agg (.cons (fz_up hz u3) (FzL.refl _))) .nil)) ?_
    refine (c_equalResult _ _ _ _ _ _ _).det ?_
    rw [ers]
    simp +contextual -dsimp -implicitDefEqProofs (maxSteps := 5000000) only [go_sem, reduceIte, reduceCtorEq, Nat.reduceEqDiff, Nat.reduceBEq, Nat.reduceAdd, Nat.reduceLeDiff, Nat.reduceMul, Nat.reduceLT, Int.reduceEq, Int.reduceLT, Int.reduceLE]
    refine retR_less (l := [B true]) (H' := H) ?_ (AHeap.le_refl _) ⟨rfl, rfl⟩
    simp only [resA, go_sem, reduceIte, reduceCtorEq, Nat.reduceEqDiff, Nat.reduceBEq, Nat.reduceAdd, Nat.reduceLeDiff, Nat.reduceMul, Nat.reduceLT, Int.reduceEq, Int.reduceLT, Int.reduceLE]
end
end
end Go.Proofs.YtbjgilehnlpmaaaGreat
