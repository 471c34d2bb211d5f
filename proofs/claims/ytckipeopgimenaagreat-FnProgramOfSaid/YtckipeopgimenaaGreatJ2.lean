/- Walks and plain laws that the claims of this seat lean on. No condition. -/
import Derived.Test.YtckipeopgimenaaGreatJ1
import Derived.Test.YtckipeopgimenaaGreatShelf
set_option linter.unusedVariables false
set_option linter.unusedSimpArgs false
namespace Go.Proofs.YtckipeopgimenaaGreat
open Go Go.Sim
section
set_option maxRecDepth 100000
attribute [local go_sem ↓] aw_skip aw_ret aw_exit aw_region aw_draw aw_seq aw_block aw_loop aw_cond frz_nil frz_cons sq_normal sq_ret sq_exit exB_normal exB_ret exB_same exB_other retQ_ret retQ_normal ret0_ret ret0_normal ao_nil go1 g_move g_assign g_pick g_build g_load g_binOp g_unOp g_convert g_fieldAddr g_field g_indexAddr g_index g_extract g_lookup g_slice g_nilCheck g_len g_makeFunc h_call h_append h_alloc h_box h_buildSlice h_makeSlice h_store gV i_box i_buildSlice i_move i_assign i_build i_load i_binOp i_unOp i_convert i_fieldAddr i_field i_indexAddr i_index i_extract i_lookup i_makeMap i_mapUpdate i_slice i_nilCheck i_makeFunc i_len i_max i_min i_alloc i_makeSlice i_store i_append i_call i_pick boxI boxA buildSliceI buildSliceA makeSliceA makeMapA allocA storeA p_move p_assign p_pick p_build p_load p_binOp p_unOp p_convert p_fieldAddr p_field p_indexAddr p_index p_extract p_lookup p_makeMap p_mapUpdate p_slice p_nilCheck p_makeFunc p_len p_max p_min p_alloc p_box p_buildSlice p_makeSlice p_store p_append p_call x_nil x_go1 x_g0 x_g1 x_g2 x_g3 x_s0 x_s1 x_s2 x_s3 u_move u_assign u_pick u_build u_load u_binOp u_unOp u_convert u_fieldAddr u_field u_indexAddr u_index u_extract u_lookup u_slice u_nilCheck u_makeFunc u_len u_buildSlice x_s4 x_g4 rq_normal rq_ret rq_exit aw_range
attribute [local go_sem] frzV_sl frzK_some set_none set_other AHeap.set_self set_del set_set cnd_t cnd_f cnd_b retA_one retA_two retA_three retA_four retA_nil gIf_b mrgV_b mrgV_wh mrgV_U gIf_U gIf_wh mrgB_f mrgB_some mrgB_if wh_true wh_false keepA_some keepA_if gD_zero gD_succ gT_some bxA_t bxA_f callA_fn ev_tmp ev_const ev_global ev_func oc_bool oc_int oc_string oc_nil oc_nilptr oc_nilfunc cl_bool cl_int cl_string cl_nil updO_some updO_none upd_same upd_other init_at pickA_b pickA_wh selA_t selA_f selA_and selA_or selA_orn selA_orm selA_bb selA_ii beqt b_add b_sub b_mul b_and b_or b_xor b_eql b_neq b_lss b_leq b_gtr b_geq b_quo b_rem b_shr b_seql b_sneq b_sadd b_beql b_bneq b_aeql b_aneq u_not u_neg isConstOp eqA eqCellV List.getD_cons_zero List.getD_cons_succ List.map_cons List.map_nil List.nil_append List.cons_append List.append_nil if_true if_false Option.map_some Option.map_none ne_eq not_false_eq_true oneA ldv ld1v ld1s wr1s ldRow stRow row_lit row_agg row_vsl row_sl row_ptr row_fn one_I one_B one_S one_vsl one_sl one_ptr one_fn extractA okA rI rS rU rClass rFault rExit rStart rLine Int.toNat_natCast List.length_cons List.length_nil List.length_map List.all_cons List.all_nil Bool.and_true Nat.zero_add List.getElem?_cons_zero List.getElem?_cons_succ List.take_succ_cons List.take_zero List.drop_succ_cons List.drop_zero and_self true_and and_true implies_true decide_eq_true_eq decide_eq_false_iff_not Bool.or_eq_true Bool.or_eq_false_iff Bool.and_eq_true Bool.not_eq_true' Bool.not_eq_false' beq_false decide_true decide_false Int.ofNat_lt Int.ofNat_le Int.natCast_nonneg Bool.or_true Bool.or_false Bool.true_or Bool.false_or beq_self_eq_true List.drop_one Bool.not_true Bool.not_false Bool.not_not Bool.false_eq_true Bool.true_eq_false false_implies true_implies Bool.true_and Bool.false_and Bool.and_false not_true_eq_false Int.natCast_eq_zero Int.natCast_pos Int.natCast_zero false_and and_false or_false false_or or_true true_or Bool.or_self none_le_iff List.replicate_zero Int.toNat_zero List.replicate_succ buildRows List.set_cons_zero List.set_cons_succ List.set_nil List.mapM_nil maxLen_eq Nat.zero_le Nat.mul_one Nat.one_mul bldA fillA spliceA List.take_nil List.drop_nil List.getElem?_nil ld1o wr1o bldSliceA le_same cv_i cvI_t quietT_fn qvd_some ld_o ldO_1 ldO_l wr_o wrO_1 set_2 set_3 set_4 putL_nil putL_cons List.zip_cons_cons List.zip_nil_left List.zip_nil_right List.toList_toArray frzV_set ti1 ti2 tk2 ti3 te3 ts3 tk3 tz3 ti4 tb4 ti5 tk5 tz5 ti9 te9 ts9 tk9 tz9 ti12 tk12 ti13 tp13 tf13_0 tf13_1 ti20 ti21 tk21 tz21 ti22 te22 tz22 ti23 te23 ti24 tp24 tf24_0 ti25 tp25 tf25_0 ti26 te26 ti28 ti29 te29 ti30 te30 ti31 tp31 tf31_0 ti32 tp32 tf32_0 ti33 tp33 tf33_0 tf33_1 tf33_2 tf33_3 ti34 tp34 tf34_0 tf34_1 tf34_2 tf34_3 ti35 ti36 ti37 ti38 ti40 ti42 ti43 ti44 tq44 tp44 tf44_0 tf44_1 tf44_2 ti45 tq45 tp45 tf45_0 tf45_1 tf45_2 ti47 ti48 ti49 tq49 tp49 tf49_0 tf49_1 tf49_2 tf49_3 ti50 tq50 tp50 tf50_0 tf50_1 tf50_2 tf50_3 ti51 ti52 ti54 ti55 ti56 ti57 te57 ti59 ti60 ti61 ti62 ti63 ti64 ti65 ti66 ti67 ti68 tq68 tp68 tf68_0 tf68_1 ti69 tq69 tp69 tf69_0 tf69_1 ti70 ti71 ti72 ti73 ti74 ti75 ti77 ti78 ti79 ti80 ti81 ti82 ti83 ti84 ti85 tq85 tp85 tf85_0 tf85_1 tf85_2 tf85_3 tf85_4 ti86 tq86 tp86 tf86_0 tf86_1 tf86_2 tf86_3 tf86_4 ti87 ti88 ti89 ti90 ti91 ti93 ti94 ti95 ti96 ti97 tq97 tp97 tf97_0 tf97_1 tf97_2 ti98 tq98 tp98 tf98_0 tf98_1 tf98_2 ti99 ti100 ti101 ti102 ti103 ti104 ti105 ti106 ti107 tp107 tf107_0 tf107_1 ti108 tp108 tf108_0 tf108_1 ti109 tp109 tf109_0 tf109_1 tf109_2 tf109_3 tf109_4 ti110 tp110 tf110_0 tf110_1 tf110_2 tf110_3 tf110_4 ti111 ti113 ti114 ti115 ti116 ti117 ti118 ti119 ti120 tp120 tf120_0 tf120_1 tf120_2 tf120_3 ti121 tp121 tf121_0 tf121_1 tf121_2 tf121_3 ti122 tq122 tp122 tf122_0 tf122_1 ti123 tq123 tp123 tf123_0 tf123_1 ti124 ti125 ti126 tq126 tp126 tf126_0 tf126_1 ti127 tq127 tp127 tf127_0 tf127_1 ti128 ti129 ti130 ti131 ti132 ti133 te133 ti134 ti135 ti136 ti137 ti138 ti139 ti140 ti141 ti142 ti143 ti144 tp144 tf144_0 tf144_1 tf144_2 ti145 tp145 tf145_0 tf145_1 tf145_2 ti146 ti147 ti148 ti149 ti150 te150 ti151 ti152 ti153 ti154 ti155 ti156 ti157 ti158 ti159 ti160 ti161 ti162 ti163 ti164 ti165 ti166 ti167 ti168 ti169 ti170 ti171 ti172 ti173 ti174 ti175 tk175 tz175 ti176 ti177 ti178 ti179 ti180 tk180 ti182 ti183 ti184 ti186 ti187 ti188 tk188 tz188 ti189 ti190 tk190 tz190 ti191 tk191 ti192 ti193 ti194 ti195 ti196 ti197 ti199 ti200 ti206 ti210 ti215 fp13_0 fv13_0 fp13_1 fv13_1 fp24_0 fv24_0 fp25_0 fv25_0 fp31_0 fv31_0 fp32_0 fv32_0 fp33_0 fv33_0 fp33_1 fv33_1 fp33_2 fv33_2 fp33_3 fv33_3 fp34_0 fv34_0 fp34_1 fv34_1 fp34_2 fv34_2 fp34_3 fv34_3 fp44_0 fv44_0 fp44_1 fv44_1 fp44_2 fv44_2 fp45_0 fv45_0 fp45_1 fv45_1 fp45_2 fv45_2 fp49_0 fv49_0 fp49_1 fv49_1 fp49_2 fv49_2 fp49_3 fv49_3 fp50_0 fv50_0 fp50_1 fv50_1 fp50_2 fv50_2 fp50_3 fv50_3 fp68_0 fv68_0 fp68_1 fv68_1 fp69_0 fv69_0 fp69_1 fv69_1 fp85_0 fv85_0 fp85_1 fv85_1 fp85_2 fv85_2 fp85_3 fv85_3 fp85_4 fv85_4 fp86_0 fv86_0 fp86_1 fv86_1 fp86_2 fv86_2 fp86_3 fv86_3 fp86_4 fv86_4 fp97_0 fv97_0 fp97_1 fv97_1 fp97_2 fv97_2 fp98_0 fv98_0 fp98_1 fv98_1 fp98_2 fv98_2 fp107_0 fv107_0 fp107_1 fv107_1 fp108_0 fv108_0 fp108_1 fv108_1 fp109_0 fv109_0 fp109_1 fv109_1 fp109_2 fv109_2 fp109_3 fv109_3 fp109_4 fv109_4 fp110_0 fv110_0 fp110_1 fv110_1 fp110_2 fv110_2 fp110_3 fv110_3 fp110_4 fv110_4 fp120_0 fv120_0 fp120_1 fv120_1 fp120_2 fv120_2 fp120_3 fv120_3 fp121_0 fv121_0 fp121_1 fv121_1 fp121_2 fv121_2 fp121_3 fv121_3 fp122_0 fv122_0 fp122_1 fv122_1 fp123_0 fv123_0 fp123_1 fv123_1 fp126_0 fv126_0 fp126_1 fv126_1 fp127_0 fv127_0 fp127_1 fv127_1 fp144_0 fv144_0 fp144_1 fv144_1 fp144_2 fv144_2 fp145_0 fv145_0 fp145_1 fv145_1 fp145_2 fv145_2 lv22 ll22 is22 ix22 sh22 so22 sb22 sm22 sp22 lv23 ll23 is23 ix23 sh23 so23 sb23 sm23 sp23 lv26 ll26 is26 ix26 sh26 so26 sb26 sm26 sp26 lv29 ll29 is29 ix29 sh29 so29 sb29 sm29 sp29 lv30 ll30 is30 ix30 sh30 so30 sb30 sm30 sp30 lv57 ll57 is57 ix57 sh57 so57 sb57 sm57 sp57 lv133 ll133 is133 sp133 lv150 ll150 is150 ix150 sh150 so150 sb150 sm150 sp150 xs9 ls9 sx9 sy9 sz9
section
open Go Go.Sim
set_option maxRecDepth 100000

theorem c_mclosed (F H : AHeap) (bm : Nat) (t : List Class) (cl : Bool) (p : AV) (first : Int) (l : List Exi) (cl' : Bool) (x : Sta) (hM : Mach F H bm (.vsl (t.map rClass) cl) p [] [] first) (hv : validX t l = true) (hs : startOk t x = true) :
    ACalls Tryz.prog 106 [.ptr bm 5 0 0, .vsl (l.map rExit) cl', .agg (rStart x)] H fun r H' => r = I (closeX t l x).cur ∧ Mach F H' bm (.vsl (t.map rClass) cl) p (closeX t l x).log (closeX t l x).fs first := by
  obtain ⟨hT, hl8⟩ := validX_T hv
  refine acalls_of1 Tryz.func106 rfl (by kernel_rfl) rfl rfl (awp_sound (fz := fun r => if r = 5 then [9] else []) (im := fun s => s == 3 || s == 5) mixed _ _ _ _ (by kernel_rfl) ?_)
  simp +contextual -dsimp -implicitDefEqProofs (maxSteps := 5000000) only [go_sem, reduceIte, reduceCtorEq, Nat.reduceEqDiff, Nat.reduceBEq, Nat.reduceAdd, Nat.reduceLeDiff, Nat.reduceMul, Nat.reduceLT, Int.reduceEq, Int.reduceLT, Int.reduceLE]
  intro b7 hb7
  have hM' := mach_in (K := ⟨1, 3, [[I (-1)]]⟩) hM hb7
  have hF7 := mach_none hM hb7
  have st := CloOk.start (t := t) hs
  refine ⟨fun hx => ?_, fun hx => ?_⟩
  · refine (c_raise _ _ bm _ p [] [] first x.cls x.code (-1) hM' (by simp) heapOk_nil (by simp)).mono ?_
    rintro _ H2 ⟨rfl, hM2⟩
    obtain ⟨H3, rfl, hM3, hn3⟩ := mach_out hM2 hF7
    simp +contextual -dsimp -implicitDefEqProofs (maxSteps := 5000000) only [go_sem, reduceIte, reduceCtorEq, Nat.reduceEqDiff, Nat.reduceBEq, Nat.reduceAdd, Nat.reduceLeDiff, Nat.reduceMul, Nat.reduceLT, Int.reduceEq, Int.reduceLT, Int.reduceLE]
    refine (c_BackExit l cl' _).det ?_
    simp +contextual -dsimp -implicitDefEqProofs (maxSteps := 5000000) only [go_sem, reduceIte, reduceCtorEq, Nat.reduceEqDiff, Nat.reduceBEq, Nat.reduceAdd, Nat.reduceLeDiff, Nat.reduceMul, Nat.reduceLT, Int.reduceEq, Int.reduceLT, Int.reduceLE]
    refine sim_rangeFunc (caps := [.vptr [[.vsl (l.map rExit) cl']] 0 0]) (by simp only [↓aw_skip, ↓aw_ret, ↓aw_exit, ↓aw_region, ↓aw_draw, ↓aw_seq, ↓aw_block, ↓aw_loop, ↓aw_cond, ↓frz_nil, ↓frz_cons, frzV_ptr, frzV_sl, frzK_some, set_none, set_other, AHeap.set_self, set_del, set_set, cnd_t, cnd_f, cnd_b, ↓sq_normal, ↓sq_ret, ↓sq_exit, ↓exB_normal, ↓exB_ret, ↓exB_same, ↓exB_other, ↓retQ_ret, ↓retQ_normal, ↓ret0_ret, ↓ret0_normal, retA_one, retA_two, retA_three, retA_four, retA_nil, ↓ao_nil, ↓go1, ↓g_move, ↓g_assign, ↓g_pick, ↓g_build, ↓g_load, ↓g_binOp, ↓g_unOp, ↓g_convert, ↓g_fieldAddr, ↓g_field, ↓g_indexAddr, ↓g_index, ↓g_extract, ↓g_lookup, ↓g_slice, ↓g_nilCheck, ↓g_len, ↓g_makeFunc, ↓h_call, ↓h_append, ↓h_alloc, ↓h_box, ↓h_buildSlice, ↓h_makeSlice, ↓h_store, gIf_b, mrgV_b, mrgV_wh, mrgV_U, gIf_U, gIf_wh, mrgB_f, mrgB_some, mrgB_if, wh_true, wh_false, keepA_some, keepA_if, ↓gV, gD_zero, gD_succ, gT_some, ↓i_box, ↓i_buildSlice, bxA_t, bxA_f, ↓i_move, ↓i_assign, ↓i_build, ↓i_load, ↓i_binOp, ↓i_unOp, ↓i_convert, ↓i_fieldAddr, ↓i_field, ↓i_indexAddr, ↓i_index, ↓i_extract, ↓i_lookup, ↓i_makeMap, ↓i_mapUpdate, ↓i_slice, ↓i_nilCheck, ↓i_makeFunc, ↓i_len, ↓i_max, ↓i_min, ↓i_alloc, ↓i_makeSlice, ↓i_store, ↓i_append, ↓i_call, ↓i_pick, ↓boxI, ↓boxA, ↓buildSliceI, ↓buildSliceA, ↓makeSliceA, ↓makeMapA, ↓allocA, ↓storeA, ↓p_move, ↓p_assign, ↓p_pick, ↓p_build, ↓p_load, ↓p_binOp, ↓p_unOp, ↓p_convert, ↓p_fieldAddr, ↓p_field, ↓p_indexAddr, ↓p_index, ↓p_extract, ↓p_lookup, ↓p_makeMap, ↓p_mapUpdate, ↓p_slice, ↓p_nilCheck, ↓p_makeFunc, ↓p_len, ↓p_max, ↓p_min, ↓p_alloc, ↓p_box, ↓p_buildSlice, ↓p_makeSlice, ↓p_store, ↓p_append, ↓p_call, callA_fn, ev_tmp, ev_const, ev_global, ev_func, oc_bool, oc_int, oc_string, oc_nil, oc_nilptr, oc_nilfunc, cl_bool, cl_int, cl_string, cl_nil, updO_some, updO_none, upd_same, upd_other, init_at, pickA_b, pickA_wh, selA_t, selA_f, selA_and, selA_or, selA_orn, selA_orm, selA_bb, selA_ii, beqt, b_add, b_sub, b_mul, b_and, b_or, b_xor, b_eql, b_neq, b_lss, b_leq, b_gtr, b_geq, b_quo, b_rem, b_shr, b_seql, b_sneq, b_sadd, b_beql, b_bneq, b_aeql, b_aneq, u_not, u_neg, isConstOp, eqA, eqCellV, List.getD_cons_zero, List.getD_cons_succ, List.map_cons, List.map_nil, List.nil_append, List.cons_append, List.append_nil, if_true, if_false, Option.map_some, Option.map_none, reduceIte, reduceCtorEq, Nat.reduceEqDiff, ne_eq, not_false_eq_true, Nat.reduceBEq, oneA, ldv, ld1v, ld1s, wr1s, ldRow, stRow, row_lit, row_agg, row_vsl, row_sl, row_ptr, row_fn, one_I, one_B, one_S, one_vsl, one_sl, one_ptr, one_fn, extractA, okA, rI, rS, rU, rClass, rFault, rExit, rStart, rLine, Int.toNat_natCast, List.length_cons, List.length_nil, List.length_map, List.all_cons, List.all_nil, Bool.and_true, Nat.reduceAdd, Nat.zero_add, List.getElem?_cons_zero, List.getElem?_cons_succ, List.take_succ_cons, List.take_zero, List.drop_succ_cons, List.drop_zero, Nat.reduceLeDiff, and_self, true_and, and_true, implies_true, decide_eq_true_eq, decide_eq_false_iff_not, Bool.or_eq_true, Bool.or_eq_false_iff, Bool.and_eq_true, Bool.not_eq_true', Bool.not_eq_false', beq_false, decide_true, decide_false, Int.ofNat_lt, Int.ofNat_le, Int.natCast_nonneg, Bool.or_true, Bool.or_false, Bool.true_or, Bool.false_or, beq_self_eq_true, Nat.reduceMul, List.drop_one, Bool.not_true, Bool.not_false, Bool.not_not, Bool.false_eq_true, Bool.true_eq_false, false_implies, true_implies, Bool.true_and, Bool.false_and, Bool.and_false, if_true, if_false, not_true_eq_false, Nat.reduceLT, Int.natCast_eq_zero, Int.natCast_pos, Int.natCast_zero, false_and, and_false, or_false, false_or, or_true, true_or, Bool.or_self, ↓x_nil, ↓x_go1, ↓x_g0, ↓x_g1, ↓x_g2, ↓x_g3, ↓x_s0, ↓x_s1, ↓x_s2, ↓x_s3, none_le_iff, ↓u_move, ↓u_assign, ↓u_pick, ↓u_build, ↓u_load, ↓u_binOp, ↓u_unOp, ↓u_convert, ↓u_fieldAddr, ↓u_field, ↓u_indexAddr, ↓u_index, ↓u_extract, ↓u_lookup, ↓u_slice, ↓u_nilCheck, ↓u_makeFunc, ↓u_len, List.replicate_zero, Int.toNat_zero, List.replicate_succ, buildRows, List.set_cons_zero, List.set_cons_succ, List.set_nil, List.mapM_nil, maxLen_eq, Nat.zero_le, Nat.mul_one, Nat.one_mul, bldA, fillA, spliceA, List.take_nil, List.drop_nil, List.getElem?_nil, Int.reduceEq, Int.reduceLT, Int.reduceLE, decide_eq_true_eq, ld1o, wr1o, ↓u_buildSlice, bldSliceA, le_same, ti1, ti2, tk2, ti3, te3, ts3, tk3, tz3, ti4, tb4, ti5, tk5, tz5, ti9, te9, ts9, tk9, tz9, ti12, tk12, ti13, tp13, tf13_0, tf13_1, ti20, ti21, tk21, tz21, ti22, te22, tz22, ti23, te23, ti24, tp24, tf24_0, ti25, tp25, tf25_0, ti26, te26, ti28, ti29, te29, ti30, te30, ti31, tp31, tf31_0, ti32, tp32, tf32_0, ti33, tp33, tf33_0, tf33_1, tf33_2, tf33_3, ti34, tp34, tf34_0, tf34_1, tf34_2, tf34_3, ti35, ti36, ti37, ti38, ti40, ti42, ti43, ti44, tq44, tp44, tf44_0, tf44_1, tf44_2, ti45, tq45, tp45, tf45_0, tf45_1, tf45_2, ti47, ti48, ti49, tq49, tp49, tf49_0, tf49_1, tf49_2, tf49_3, ti50, tq50, tp50, tf50_0, tf50_1, tf50_2, tf50_3, ti51, ti52, ti54, ti55, ti56, ti57, te57, ti59, ti60, ti61, ti62, ti63, ti64, ti65, ti66, ti67, ti68, tq68, tp68, tf68_0, tf68_1, ti69, tq69, tp69, tf69_0, tf69_1, ti70, ti71, ti72, ti73, ti74, ti75, ti77, ti78, ti79, ti80, ti81, ti82, ti83, ti84, ti85, tq85, tp85, tf85_0, tf85_1, tf85_2, tf85_3, tf85_4, ti86, tq86, tp86, tf86_0, tf86_1, tf86_2, tf86_3, tf86_4, ti87, ti88, ti89, ti90, ti91, ti93, ti94, ti95, ti96, ti97, tq97, tp97, tf97_0, tf97_1, tf97_2, ti98, tq98, tp98, tf98_0, tf98_1, tf98_2, ti99, ti100, ti101, ti102, ti103, ti104, ti105, ti106, ti107, tp107, tf107_0, tf107_1, ti108, tp108, tf108_0, tf108_1, ti109, tp109, tf109_0, tf109_1, tf109_2, tf109_3, tf109_4, ti110, tp110, tf110_0, tf110_1, tf110_2, tf110_3, tf110_4, ti111, ti113, ti114, ti115, ti116, ti117, ti118, ti119, ti120, tp120, tf120_0, tf120_1, tf120_2, tf120_3, ti121, tp121, tf121_0, tf121_1, tf121_2, tf121_3, ti122, tq122, tp122, tf122_0, tf122_1, ti123, tq123, tp123, tf123_0, tf123_1, ti124, ti125, ti126, tq126, tp126, tf126_0, tf126_1, ti127, tq127, tp127, tf127_0, tf127_1, ti128, ti129, ti130, ti131, ti132, ti133, te133, ti134, ti135, ti136, ti137, ti138, ti139, ti140, ti141, ti142, ti143, ti144, tp144, tf144_0, tf144_1, tf144_2, ti145, tp145, tf145_0, tf145_1, tf145_2, ti146, ti147, ti148, ti149, ti150, te150, ti151, ti152, ti153, ti154, ti155, ti156, ti157, ti158, ti159, ti160, ti161, ti162, ti163, ti164, ti165, ti166, ti167, ti168, ti169, ti170, ti171, ti172, ti173, ti174, ti175, tk175, tz175, ti176, ti177, ti178, ti179, ti180, tk180, ti182, ti183, ti184, ti186, ti187, ti188, tk188, tz188, ti189, ti190, tk190, tz190, ti191, tk191, ti192, ti193, ti194, ti195, ti196, ti197, ti199, ti200, ti206, ti210, ti215, fp13_0, fv13_0, fp13_1, fv13_1, fp24_0, fv24_0, fp25_0, fv25_0, fp31_0, fv31_0, fp32_0, fv32_0, fp33_0, fv33_0, fp33_1, fv33_1, fp33_2, fv33_2, fp33_3, fv33_3, fp34_0, fv34_0, fp34_1, fv34_1, fp34_2, fv34_2, fp34_3, fv34_3, fp44_0, fv44_0, fp44_1, fv44_1, fp44_2, fv44_2, fp45_0, fv45_0, fp45_1, fv45_1, fp45_2, fv45_2, fp49_0, fv49_0, fp49_1, fv49_1, fp49_2, fv49_2, fp49_3, fv49_3, fp50_0, fv50_0, fp50_1, fv50_1, fp50_2, fv50_2, fp50_3, fv50_3, fp68_0, fv68_0, fp68_1, fv68_1, fp69_0, fv69_0, fp69_1, fv69_1, fp85_0, fv85_0, fp85_1, fv85_1, fp85_2, fv85_2, fp85_3, fv85_3, fp85_4, fv85_4, fp86_0, fv86_0, fp86_1, fv86_1, fp86_2, fv86_2, fp86_3, fv86_3, fp86_4, fv86_4, fp97_0, fv97_0, fp97_1, fv97_1, fp97_2, fv97_2, fp98_0, fv98_0, fp98_1, fv98_1, fp98_2, fv98_2, fp107_0, fv107_0, fp107_1, fv107_1, fp108_0, fv108_0, fp108_1, fv108_1, fp109_0, fv109_0, fp109_1, fv109_1, fp109_2, fv109_2, fp109_3, fv109_3, fp109_4, fv109_4, fp110_0, fv110_0, fp110_1, fv110_1, fp110_2, fv110_2, fp110_3, fv110_3, fp110_4, fv110_4, fp120_0, fv120_0, fp120_1, fv120_1, fp120_2, fv120_2, fp120_3, fv120_3, fp121_0, fv121_0, fp121_1, fv121_1, fp121_2, fv121_2, fp121_3, fv121_3, fp122_0, fv122_0, fp122_1, fv122_1, fp123_0, fv123_0, fp123_1, fv123_1, fp126_0, fv126_0, fp126_1, fv126_1, fp127_0, fv127_0, fp127_1, fv127_1, fp144_0, fv144_0, fp144_1, fv144_1, fp144_2, fv144_2, fp145_0, fv145_0, fp145_1, fv145_1, fp145_2, fv145_2, lv22, ll22, is22, ix22, sh22, so22, sb22, sm22, sp22, lv23, ll23, is23, ix23, sh23, so23, sb23, sm23, sp23, lv26, ll26, is26, ix26, sh26, so26, sb26, sm26, sp26, lv29, ll29, is29, ix29, sh29, so29, sb29, sm29, sp29, lv30, ll30, is30, ix30, sh30, so30, sb30, sm30, sp30, lv57, ll57, is57, ix57, sh57, so57, sb57, sm57, sp57, lv133, ll133, is133, sp133, lv150, ll150, is150, ix150, sh150, so150, sb150, sm150, sp150, xs9, ls9, sx9, sy9, sz9]) (it_backExit l cl' (by omega)) (by decide) backL_len
      (fun k H' => ∃ s H'', s = (l.reverse.take k).foldl (stepX t) (startX x) ∧ CloOk t s k ∧ Mach F H'' bm (.vsl (t.map rClass) cl) p s.log s.fs first ∧ H'' b7 = none ∧ H' = H''.set b7 ⟨1, 3, [[I s.cur]]⟩) (fun _ _ => False) ?_ ?_ ?_ (fun _ h => h.elim) (fun _ _ h => h.elim)
    · refine ⟨startX x, H3, rfl, st, ?_, hn3, ?_⟩
      · simp only [startX, hx, if_true]; exact hM3
      · simp only [startX, hx, if_true, List.length_nil]
    ·
      rintro k x' H' lp hx' ⟨s, H'', hsk, ok, hMk, hn, rfl⟩
      obtain ⟨hkl, rfl⟩ := backL_get hx'
      have hi2 : l.length - 1 - k < l.length := by omega
      have he := validX_at hv hi2
      have hrev := rev_take hkl
      generalize l.getD (l.length - 1 - k) default = e at he hrev ⊢
      have ok' := ok.step he
      have hsk' : (l.reverse.take (k + 1)).foldl (stepX t) (startX x) = stepX t s e := by rw [hrev, List.foldl_append, ← hsk]; rfl
      have hFk := mach_none hMk hn
      refine awp_soundAt (fz := fun r => if r = 5 then [9] else []) (im := fun s => s == 3 || s == 5) mixed _ _ _ _ (by kernel_rfl) (.inr (by kernel_rfl)) ?_
      simp +contextual -dsimp -implicitDefEqProofs (maxSteps := 5000000) only [go_sem, reduceIte, reduceCtorEq, Nat.reduceEqDiff, Nat.reduceBEq, Nat.reduceAdd, Nat.reduceLeDiff, Nat.reduceMul, Nat.reduceLT, Int.reduceEq, Int.reduceLT, Int.reduceLE]
      rintro b9 ⟨m1, m2, hb9⟩
      refine awp_soundAt (fz := fun r => if r = 5 then [9] else []) (im := fun s => s == 3 || s == 5) mixed _ _ _ _ (by kernel_rfl) (.inr (by kernel_rfl)) ?_
      have go : ∀ (s' : Clo) (G : AHeap), stepX t s e = s' → Mach F G bm (.vsl (t.map rClass) cl) p s'.log s'.fs first → G b7 = none →
          ∃ s_1 H'', s_1 = (l.reverse.take (k + 1)).foldl (stepX t) (startX x) ∧ CloOk t s_1 (k + 1) ∧ Mach F H'' bm (.vsl (t.map rClass) cl) p s_1.log s_1.fs first ∧ H'' b7 = none ∧ G.set b7 ⟨1, 3, [[I s'.cur]]⟩ = H''.set b7 ⟨1, 3, [[I s_1.cur]]⟩ :=
        fun s' G q1 q2 q3 => ⟨s', G, by rw [hsk', q1], q1 ▸ ok', q2, q3, rfl⟩
      obtain ⟨xl, xf, H1, H2, hF, hg1, hg2, hb, rfl⟩ := id hMk
      have hn' := hn
      rw [set_none] at hn'
      obtain ⟨n1, n2, hn2⟩ := hn'
      by_cases k0 : e.kind = 0
      · have hs' : stepX t s e = { s with log := s.log ++ [e.a] } := by simp only [stepX, k0, if_true]
        simp +contextual -dsimp -implicitDefEqProofs (maxSteps := 5000000) only [go_sem, reduceIte, reduceCtorEq, Nat.reduceEqDiff, Nat.reduceBEq, Nat.reduceAdd, Nat.reduceLeDiff, Nat.reduceMul, Nat.reduceLT, Int.reduceEq, Int.reduceLT, Int.reduceLE, k0]
        refine draw_intro [1, 0, 0, 0, 0, 0, 0, 0, 3, 0, 0, 2] AHeap.none (by kernel_rfl) none_le ?_
        simp +contextual -dsimp -implicitDefEqProofs (maxSteps := 5000000) only [go_sem, reduceIte, reduceCtorEq, Nat.reduceEqDiff, Nat.reduceBEq, Nat.reduceAdd, Nat.reduceLeDiff, Nat.reduceMul, Nat.reduceLT, Int.reduceEq, Int.reduceLT, Int.reduceLE, k0, n1, n2]
        refine mach_app1 hg1 hg2 hb n1 hn2 (by have := ok.log; omega) fun x2 G G1 y1 y2 y3 y4 y5 => ?_
        obtain ⟨r1, r2⟩ := y5
        simp +contextual -dsimp -implicitDefEqProofs (maxSteps := 5000000) only [go_sem, reduceIte, reduceCtorEq, Nat.reduceEqDiff, Nat.reduceBEq, Nat.reduceAdd, Nat.reduceLeDiff, Nat.reduceMul, Nat.reduceLT, Int.reduceEq, Int.reduceLT, Int.reduceLE, k0, n1, n2, r1, r2]
        exact go { s with log := s.log ++ [e.a] } _ hs' ⟨x2, xf, G1, G, hF, y1, y2, y3, rfl⟩ (by rw [set_other n1]; exact y4)
      · by_cases k1 : e.kind = 1
        · simp +contextual -dsimp -implicitDefEqProofs (maxSteps := 5000000) only [go_sem, reduceIte, reduceCtorEq, Nat.reduceEqDiff, Nat.reduceBEq, Nat.reduceAdd, Nat.reduceLeDiff, Nat.reduceMul, Nat.reduceLT, Int.reduceEq, Int.reduceLT, Int.reduceLE, k0, k1]
          refine ⟨fun hc => ?_, fun hc => ?_⟩
          · have hs' : stepX t s e = { s with log := s.log ++ [e.a] } := by simp only [stepX, k0, k1, hc, if_true, if_false]; rfl
            refine draw_intro [1, 0, 0, 0, 0, 0, 0, 0, 3, 0, 0, 2] AHeap.none (by kernel_rfl) none_le ?_
            simp +contextual -dsimp -implicitDefEqProofs (maxSteps := 5000000) only [go_sem, reduceIte, reduceCtorEq, Nat.reduceEqDiff, Nat.reduceBEq, Nat.reduceAdd, Nat.reduceLeDiff, Nat.reduceMul, Nat.reduceLT, Int.reduceEq, Int.reduceLT, Int.reduceLE, k0, k1, n1, n2]
            refine mach_app1 hg1 hg2 hb n1 hn2 (by have := ok.log; omega) fun x2 G G1 y1 y2 y3 y4 y5 => ?_
            obtain ⟨r1, r2⟩ := y5
            simp +contextual -dsimp -implicitDefEqProofs (maxSteps := 5000000) only [go_sem, reduceIte, reduceCtorEq, Nat.reduceEqDiff, Nat.reduceBEq, Nat.reduceAdd, Nat.reduceLeDiff, Nat.reduceMul, Nat.reduceLT, Int.reduceEq, Int.reduceLT, Int.reduceLE, k0, k1, n1, n2, r1, r2]
            exact go { s with log := s.log ++ [e.a] } _ hs' ⟨x2, xf, G1, G, hF, y1, y2, y3, rfl⟩ (by rw [set_other n1]; exact y4)
          · have hs' : stepX t s e = s := by simp only [stepX, k0, k1, hc, if_true, if_false]; rfl
            exact go s _ hs' hMk hn
        · by_cases k2 : e.kind = 2
          · by_cases hc : 0 ≤ s.cur
            · simp +contextual -dsimp -implicitDefEqProofs (maxSteps := 5000000) only [go_sem, reduceIte, reduceCtorEq, Nat.reduceEqDiff, Nat.reduceBEq, Nat.reduceAdd, Nat.reduceLeDiff, Nat.reduceMul, Nat.reduceLT, Int.reduceEq, Int.reduceLT, Int.reduceLE, k0, k1, k2]
              refine draw_intro [0, 0, 0, 0, 0, 0, 0, 0, 0, 0, 0, 0, 0, 0, 0, 0, 0, 0, 2, 0] AHeap.none (by kernel_rfl) none_le ?_
              rcases hg2 with ⟨e1, _, _⟩ | ⟨bf, clf, hbf, rfl, rfl⟩
              · have := ok.cur; rw [e1] at this; simp at this; omega
              have hb' := hb
              have hn3 := hn2
              rw [set_none] at hb' hn3
              have w1 := hb'.1
              have w2 := hb'.2.1
              have w3 := hn3.1
              have w4 := hn3.2.1
              have i1 := ok.cur
              have i2 : s.cur.toNat < s.fs.length := by omega
              simp +contextual -dsimp -implicitDefEqProofs (maxSteps := 5000000) only [go_sem, reduceIte, reduceCtorEq, Nat.reduceEqDiff, Nat.reduceBEq, Nat.reduceAdd, Nat.reduceLeDiff, Nat.reduceMul, Nat.reduceLT, Int.reduceEq, Int.reduceLT, Int.reduceLE, k0, k1, k2, hc, n1, n2, w1, w2, w3, w4, i1, i2]
              have hcl := ok.cls s.cur.toNat i2
              refine (c_is t cl _ e.a _ hT hcl.2).det ?_
              simp +contextual -dsimp -implicitDefEqProofs (maxSteps := 5000000) only [go_sem, reduceIte, reduceCtorEq, Nat.reduceEqDiff, Nat.reduceBEq, Nat.reduceAdd, Nat.reduceLeDiff, Nat.reduceMul, Nat.reduceLT, Int.reduceEq, Int.reduceLT, Int.reduceLE, k0, k1, k2, hc, n1, n2, w1, w2, w3, w4, i1, i2]
              refine ⟨fun hq => ?_, fun hq => ?_⟩
              · have hs' : stepX t s e = { s with cur := -1 } := by
                  simp only [stepX, k2, hc, isF, hq, and_self, if_true]; rfl
                exact go { s with cur := -1 } _ hs' hMk hn
              · have hs' : stepX t s e = s := by
                  simp only [stepX, k2, hc, isF, hq, and_self, if_true]; rfl
                exact go s _ hs' hMk hn
            · have hs' : stepX t s e = s := by simp only [stepX, k0, k1, k2, hc, if_true, if_false, false_and]; rfl
              simp +contextual -dsimp -implicitDefEqProofs (maxSteps := 5000000) only [go_sem, reduceIte, reduceCtorEq, Nat.reduceEqDiff, Nat.reduceBEq, Nat.reduceAdd, Nat.reduceLeDiff, Nat.reduceMul, Nat.reduceLT, Int.reduceEq, Int.reduceLT, Int.reduceLE, k0, k1, k2]
              refine draw_intro [0, 0, 0, 0, 0, 0, 0, 0, 0, 0, 0, 0, 0, 0, 0, 0, 0, 0, 2, 0] AHeap.none (by kernel_rfl) none_le ?_
              simp +contextual -dsimp -implicitDefEqProofs (maxSteps := 5000000) only [go_sem, reduceIte, reduceCtorEq, Nat.reduceEqDiff, Nat.reduceBEq, Nat.reduceAdd, Nat.reduceLeDiff, Nat.reduceMul, Nat.reduceLT, Int.reduceEq, Int.reduceLT, Int.reduceLE, k0, k1, k2, hc, n1, n2]
              exact go s _ hs' hMk hn
          · by_cases k3 : e.kind = 3
            · simp +contextual -dsimp -implicitDefEqProofs (maxSteps := 5000000) only [go_sem, reduceIte, reduceCtorEq, Nat.reduceEqDiff, Nat.reduceBEq, Nat.reduceAdd, Nat.reduceLeDiff, Nat.reduceMul, Nat.reduceLT, Int.reduceEq, Int.reduceLT, Int.reduceLE, k0, k1, k2, k3]
              refine (c_raise _ _ bm _ p s.log s.fs first e.a e.b s.cur (mach_in (K := ⟨1, 3, [[I s.cur]]⟩) hMk hn) (by have := ok.len; omega) ok.ho ok.cur).mono ?_
              rintro _ H9 ⟨rfl, hM9⟩
              obtain ⟨H10, rfl, hM10, hn10⟩ := mach_out hM9 hFk
              have hs' : stepX t s e = { s with fs := raiseF s.fs e.a e.b s.cur, cur := s.fs.length } := by simp only [stepX, k0, k1, k2, k3, if_true, if_false]; rfl
              simp +contextual -dsimp -implicitDefEqProofs (maxSteps := 5000000) only [go_sem, reduceIte, reduceCtorEq, Nat.reduceEqDiff, Nat.reduceBEq, Nat.reduceAdd, Nat.reduceLeDiff, Nat.reduceMul, Nat.reduceLT, Int.reduceEq, Int.reduceLT, Int.reduceLE, k0, k1, k2, k3]
              exact go { s with fs := raiseF s.fs e.a e.b s.cur, cur := s.fs.length } _ hs' hM10 hn10
            · have hs' : stepX t s e = s := by simp only [stepX, k0, k1, k2, k3, if_false]
              simp +contextual -dsimp -implicitDefEqProofs (maxSteps := 5000000) only [go_sem, reduceIte, reduceCtorEq, Nat.reduceEqDiff, Nat.reduceBEq, Nat.reduceAdd, Nat.reduceLeDiff, Nat.reduceMul, Nat.reduceLT, Int.reduceEq, Int.reduceLT, Int.reduceLE, k0, k1, k2, k3]
              exact go s _ hs' hMk hn
    ·
      rintro H' ⟨s, H'', hsk, ok, hMk, hn, rfl⟩
      rw [backL_length, List.take_of_length_le (by simp)] at hsk
      have hfin : closeX t l x = s := by rw [closeX, hsk]
      simp +contextual -dsimp -implicitDefEqProofs (maxSteps := 5000000) only [go_sem, reduceIte, reduceCtorEq, Nat.reduceEqDiff, Nat.reduceBEq, Nat.reduceAdd, Nat.reduceLeDiff, Nat.reduceMul, Nat.reduceLT, Int.reduceEq, Int.reduceLT, Int.reduceLE]
      refine retR_less (l := [I s.cur]) (H' := H'') ?_ (le_set hn) ⟨by rw [hfin]; rfl, by rw [hfin]; exact hMk⟩
      simp only [resA, ↓aw_skip, ↓aw_ret, ↓aw_exit, ↓aw_region, ↓aw_draw, ↓aw_seq, ↓aw_block, ↓aw_loop, ↓aw_cond, ↓frz_nil, ↓frz_cons, frzV_ptr, frzV_sl, frzK_some, set_none, set_other, AHeap.set_self, set_del, set_set, cnd_t, cnd_f, cnd_b, ↓sq_normal, ↓sq_ret, ↓sq_exit, ↓exB_normal, ↓exB_ret, ↓exB_same, ↓exB_other, ↓retQ_ret, ↓retQ_normal, ↓ret0_ret, ↓ret0_normal, retA_one, retA_two, retA_three, retA_four, retA_nil, ↓ao_nil, ↓go1, ↓g_move, ↓g_assign, ↓g_pick, ↓g_build, ↓g_load, ↓g_binOp, ↓g_unOp, ↓g_convert, ↓g_fieldAddr, ↓g_field, ↓g_indexAddr, ↓g_index, ↓g_extract, ↓g_lookup, ↓g_slice, ↓g_nilCheck, ↓g_len, ↓g_makeFunc, ↓h_call, ↓h_append, ↓h_alloc, ↓h_box, ↓h_buildSlice, ↓h_makeSlice, ↓h_store, gIf_b, mrgV_b, mrgV_wh, mrgV_U, gIf_U, gIf_wh, mrgB_f, mrgB_some, mrgB_if, wh_true, wh_false, keepA_some, keepA_if, ↓gV, gD_zero, gD_succ, gT_some, ↓i_box, ↓i_buildSlice, bxA_t, bxA_f, ↓i_move, ↓i_assign, ↓i_build, ↓i_load, ↓i_binOp, ↓i_unOp, ↓i_convert, ↓i_fieldAddr, ↓i_field, ↓i_indexAddr, ↓i_index, ↓i_extract, ↓i_lookup, ↓i_makeMap, ↓i_mapUpdate, ↓i_slice, ↓i_nilCheck, ↓i_makeFunc, ↓i_len, ↓i_max, ↓i_min, ↓i_alloc, ↓i_makeSlice, ↓i_store, ↓i_append, ↓i_call, ↓i_pick, ↓boxI, ↓boxA, ↓buildSliceI, ↓buildSliceA, ↓makeSliceA, ↓makeMapA, ↓allocA, ↓storeA, ↓p_move, ↓p_assign, ↓p_pick, ↓p_build, ↓p_load, ↓p_binOp, ↓p_unOp, ↓p_convert, ↓p_fieldAddr, ↓p_field, ↓p_indexAddr, ↓p_index, ↓p_extract, ↓p_lookup, ↓p_makeMap, ↓p_mapUpdate, ↓p_slice, ↓p_nilCheck, ↓p_makeFunc, ↓p_len, ↓p_max, ↓p_min, ↓p_alloc, ↓p_box, ↓p_buildSlice, ↓p_makeSlice, ↓p_store, ↓p_append, ↓p_call, callA_fn, ev_tmp, ev_const, ev_global, ev_func, oc_bool, oc_int, oc_string, oc_nil, oc_nilptr, oc_nilfunc, cl_bool, cl_int, cl_string, cl_nil, updO_some, updO_none, upd_same, upd_other, init_at, pickA_b, pickA_wh, selA_t, selA_f, selA_and, selA_or, selA_orn, selA_orm, selA_bb, selA_ii, beqt, b_add, b_sub, b_mul, b_and, b_or, b_xor, b_eql, b_neq, b_lss, b_leq, b_gtr, b_geq, b_quo, b_rem, b_shr, b_seql, b_sneq, b_sadd, b_beql, b_bneq, b_aeql, b_aneq, u_not, u_neg, isConstOp, eqA, eqCellV, List.getD_cons_zero, List.getD_cons_succ, List.map_cons, List.map_nil, List.nil_append, List.cons_append, List.append_nil, if_true, if_false, Option.map_some, Option.map_none, reduceIte, reduceCtorEq, Nat.reduceEqDiff, ne_eq, not_false_eq_true, Nat.reduceBEq, oneA, ldv, ld1v, ld1s, wr1s, ldRow, stRow, row_lit, row_agg, row_vsl, row_sl, row_ptr, row_fn, one_I, one_B, one_S, one_vsl, one_sl, one_ptr, one_fn, extractA, okA, rI, rS, rU, rClass, rFault, rExit, rStart, rLine, Int.toNat_natCast, List.length_cons, List.length_nil, List.length_map, List.all_cons, List.all_nil, Bool.and_true, Nat.reduceAdd, Nat.zero_add, List.getElem?_cons_zero, List.getElem?_cons_succ, List.take_succ_cons, List.take_zero, List.drop_succ_cons, List.drop_zero, Nat.reduceLeDiff, and_self, true_and, and_true, implies_true, decide_eq_true_eq, decide_eq_false_iff_not, Bool.or_eq_true, Bool.or_eq_false_iff, Bool.and_eq_true, Bool.not_eq_true', Bool.not_eq_false', beq_false, decide_true, decide_false, Int.ofNat_lt, Int.ofNat_le, Int.natCast_nonneg, Bool.or_true, Bool.or_false, Bool.true_or, Bool.false_or, beq_self_eq_true, Nat.reduceMul, List.drop_one, Bool.not_true, Bool.not_false, Bool.not_not, Bool.false_eq_true, Bool.true_eq_false, false_implies, true_implies, Bool.true_and, Bool.false_and, Bool.and_false, if_true, if_false, not_true_eq_false, Nat.reduceLT, Int.natCast_eq_zero, Int.natCast_pos, Int.natCast_zero, false_and, and_false, or_false, false_or, or_true, true_or, Bool.or_self, ↓x_nil, ↓x_go1, ↓x_g0, ↓x_g1, ↓x_g2, ↓x_g3, ↓x_s0, ↓x_s1, ↓x_s2, ↓x_s3, none_le_iff, ↓u_move, ↓u_assign, ↓u_pick, ↓u_build, ↓u_load, ↓u_binOp, ↓u_unOp, ↓u_convert, ↓u_fieldAddr, ↓u_field, ↓u_indexAddr, ↓u_index, ↓u_extract, ↓u_lookup, ↓u_slice, ↓u_nilCheck, ↓u_makeFunc, ↓u_len, List.replicate_zero, Int.toNat_zero, List.replicate_succ, buildRows, List.set_cons_zero, List.set_cons_succ, List.set_nil, List.mapM_nil, maxLen_eq, Nat.zero_le, Nat.mul_one, Nat.one_mul, bldA, fillA, spliceA, List.take_nil, List.drop_nil, List.getElem?_nil, Int.reduceEq, Int.reduceLT, Int.reduceLE, decide_eq_true_eq, ld1o, wr1o, ↓u_buildSlice, bldSliceA, le_same, ti1, ti2, tk2, ti3, te3, ts3, tk3, tz3, ti4, tb4, ti5, tk5, tz5, ti9, te9, ts9, tk9, tz9, ti12, tk12, ti13, tp13, tf13_0, tf13_1, ti20, ti21, tk21, tz21, ti22, te22, tz22, ti23, te23, ti24, tp24, tf24_0, ti25, tp25, tf25_0, ti26, te26, ti28, ti29, te29, ti30, te30, ti31, tp31, tf31_0, ti32, tp32, tf32_0, ti33, tp33, tf33_0, tf33_1, tf33_2, tf33_3, ti34, tp34, tf34_0, tf34_1, tf34_2, tf34_3, ti35, ti36, ti37, ti38, ti40, ti42, ti43, ti44, tq44, tp44, tf44_0, tf44_1, tf44_2, ti45, tq45, tp45, tf45_0, tf45_1, tf45_2, ti47, ti48, ti49, tq49, tp49, tf49_0, tf49_1, tf49_2, tf49_3, ti50, tq50, tp50, tf50_0, tf50_1, tf50_2, tf50_3, ti51, ti52, ti54, ti55, ti56, ti57, te57, ti59, ti60, ti61, ti62, ti63, ti64, ti65, ti66, ti67, ti68, tq68, tp68, tf68_0, tf68_1, ti69, tq69, tp69, tf69_0, tf69_1, ti70, ti71, ti72, ti73, ti74, ti75, ti77, ti78, ti79, ti80, ti81, ti82, ti83, ti84, ti85, tq85, tp85, tf85_0, tf85_1, tf85_2, tf85_3, tf85_4, ti86, tq86, tp86, tf86_0, tf86_1, tf86_2, tf86_3, tf86_4, ti87, ti88, ti89, ti90, ti91, ti93, ti94, ti95, ti96, ti97, tq97, tp97, tf97_0, tf97_1, tf97_2, ti98, tq98, tp98, tf98_0, tf98_1, tf98_2, ti99, ti100, ti101, ti102, ti103, ti104, ti105, ti106, ti107, tp107, tf107_0, tf107_1, ti108, tp108, tf108_0, tf108_1, ti109, tp109, tf109_0, tf109_1, tf109_2, tf109_3, tf109_4, ti110, tp110, tf110_0, tf110_1, tf110_2, tf110_3, tf110_4, ti111, ti113, ti114, ti115, ti116, ti117, ti118, ti119, ti120, tp120, tf120_0, tf120_1, tf120_2, tf120_3, ti121, tp121, tf121_0, tf121_1, tf121_2, tf121_3, ti122, tq122, tp122, tf122_0, tf122_1, ti123, tq123, tp123, tf123_0, tf123_1, ti124, ti125, ti126, tq126, tp126, tf126_0, tf126_1, ti127, tq127, tp127, tf127_0, tf127_1, ti128, ti129, ti130, ti131, ti132, ti133, te133, ti134, ti135, ti136, ti137, ti138, ti139, ti140, ti141, ti142, ti143, ti144, tp144, tf144_0, tf144_1, tf144_2, ti145, tp145, tf145_0, tf145_1, tf145_2, ti146, ti147, ti148, ti149, ti150, te150, ti151, ti152, ti153, ti154, ti155, ti156, ti157, ti158, ti159, ti160, ti161, ti162, ti163, ti164, ti165, ti166, ti167, ti168, ti169, ti170, ti171, ti172, ti173, ti174, ti175, tk175, tz175, ti176, ti177, ti178, ti179, ti180, tk180, ti182, ti183, ti184, ti186, ti187, ti188, tk188, tz188, ti189, ti190, tk190, tz190, ti191, tk191, ti192, ti193, ti194, ti195, ti196, ti197, ti199, ti200, ti206, ti210, ti215, fp13_0, fv13_0, fp13_1, fv13_1, fp24_0, fv24_0, fp25_0, fv25_0, fp31_0, fv31_0, fp32_0, fv32_0, fp33_0, fv33_0, fp33_1, fv33_1, fp33_2, fv33_2, fp33_3, fv33_3, fp34_0, fv34_0, fp34_1, fv34_1, fp34_2, fv34_2, fp34_3, fv34_3, fp44_0, fv44_0, fp44_1, fv44_1, fp44_2, fv44_2, fp45_0, fv45_0, fp45_1, fv45_1, fp45_2, fv45_2, fp49_0, fv49_0, fp49_1, fv49_1, fp49_2, fv49_2, fp49_3, fv49_3, fp50_0, fv50_0, fp50_1, fv50_1, fp50_2, fv50_2, fp50_3, fv50_3, fp68_0, fv68_0, fp68_1, fv68_1, fp69_0, fv69_0, fp69_1, fv69_1, fp85_0, fv85_0, fp85_1, fv85_1, fp85_2, fv85_2, fp85_3, fv85_3, fp85_4, fv85_4, fp86_0, fv86_0, fp86_1, fv86_1, fp86_2, fv86_2, fp86_3, fv86_3, fp86_4, fv86_4, fp97_0, fv97_0, fp97_1, fv97_1, fp97_2, fv97_2, fp98_0, fv98_0, fp98_1, fv98_1, fp98_2, fv98_2, fp107_0, fv107_0, fp107_1, fv107_1, fp108_0, fv108_0, fp108_1, fv108_1, fp109_0, fv109_0, fp109_1, fv109_1, fp109_2, fv109_2, fp109_3, fv109_3, fp109_4, fv109_4, fp110_0, fv110_0, fp110_1, fv110_1, fp110_2, fv110_2, fp110_3, fv110_3, fp110_4, fv110_4, fp120_0, fv120_0, fp120_1, fv120_1, fp120_2, fv120_2, fp120_3, fv120_3, fp121_0, fv121_0, fp121_1, fv121_1, fp121_2, fv121_2, fp121_3, fv121_3, fp122_0, fv122_0, fp122_1, fv122_1, fp123_0, fv123_0, fp123_1, fv123_1, fp126_0, fv126_0, fp126_1, fv126_1, fp127_0, fv127_0, fp127_1, fv127_1, fp144_0, fv144_0, fp144_1, fv144_1, fp144_2, fv144_2, fp145_0, fv145_0, fp145_1, fv145_1, fp145_2, fv145_2, lv22, ll22, is22, ix22, sh22, so22, sb22, sm22, sp22, lv23, ll23, is23, ix23, sh23, so23, sb23, sm23, sp23, lv26, ll26, is26, ix26, sh26, so26, sb26, sm26, sp26, lv29, ll29, is29, ix29, sh29, so29, sb29, sm29, sp29, lv30, ll30, is30, ix30, sh30, so30, sb30, sm30, sp30, lv57, ll57, is57, ix57, sh57, so57, sb57, sm57, sp57, lv133, ll133, is133, sp133, lv150, ll150, is150, ix150, sh150, so150, sb150, sm150, sp150, xs9, ls9, sx9, sy9, sz9]
  · refine (c_BackExit l cl' _).det ?_
    simp +contextual -dsimp -implicitDefEqProofs (maxSteps := 5000000) only [go_sem, reduceIte, reduceCtorEq, Nat.reduceEqDiff, Nat.reduceBEq, Nat.reduceAdd, Nat.reduceLeDiff, Nat.reduceMul, Nat.reduceLT, Int.reduceEq, Int.reduceLT, Int.reduceLE]
    refine sim_rangeFunc (caps := [.vptr [[.vsl (l.map rExit) cl']] 0 0]) (by simp only [↓aw_skip, ↓aw_ret, ↓aw_exit, ↓aw_region, ↓aw_draw, ↓aw_seq, ↓aw_block, ↓aw_loop, ↓aw_cond, ↓frz_nil, ↓frz_cons, frzV_ptr, frzV_sl, frzK_some, set_none, set_other, AHeap.set_self, set_del, set_set, cnd_t, cnd_f, cnd_b, ↓sq_normal, ↓sq_ret, ↓sq_exit, ↓exB_normal, ↓exB_ret, ↓exB_same, ↓exB_other, ↓retQ_ret, ↓retQ_normal, ↓ret0_ret, ↓ret0_normal, retA_one, retA_two, retA_three, retA_four, retA_nil, ↓ao_nil, ↓go1, ↓g_move, ↓g_assign, ↓g_pick, ↓g_build, ↓g_load, ↓g_binOp, ↓g_unOp, ↓g_convert, ↓g_fieldAddr, ↓g_field, ↓g_indexAddr, ↓g_index, ↓g_extract, ↓g_lookup, ↓g_slice, ↓g_nilCheck, ↓g_len, ↓g_makeFunc, ↓h_call, ↓h_append, ↓h_alloc, ↓h_box, ↓h_buildSlice, ↓h_makeSlice, ↓h_store, gIf_b, mrgV_b, mrgV_wh, mrgV_U, gIf_U, gIf_wh, mrgB_f, mrgB_some, mrgB_if, wh_true, wh_false, keepA_some, keepA_if, ↓gV, gD_zero, gD_succ, gT_some, ↓i_box, ↓i_buildSlice, bxA_t, bxA_f, ↓i_move, ↓i_assign, ↓i_build, ↓i_load, ↓i_binOp, ↓i_unOp, ↓i_convert, ↓i_fieldAddr, ↓i_field, ↓i_indexAddr, ↓i_index, ↓i_extract, ↓i_lookup, ↓i_makeMap, ↓i_mapUpdate, ↓i_slice, ↓i_nilCheck, ↓i_makeFunc, ↓i_len, ↓i_max, ↓i_min, ↓i_alloc, ↓i_makeSlice, ↓i_store, ↓i_append, ↓i_call, ↓i_pick, ↓boxI, ↓boxA, ↓buildSliceI, ↓buildSliceA, ↓makeSliceA, ↓makeMapA, ↓allocA, ↓storeA, ↓p_move, ↓p_assign, ↓p_pick, ↓p_build, ↓p_load, ↓p_binOp, ↓p_unOp, ↓p_convert, ↓p_fieldAddr, ↓p_field, ↓p_indexAddr, ↓p_index, ↓p_extract, ↓p_lookup, ↓p_makeMap, ↓p_mapUpdate, ↓p_slice, ↓p_nilCheck, ↓p_makeFunc, ↓p_len, ↓p_max, ↓p_min, ↓p_alloc, ↓p_box, ↓p_buildSlice, ↓p_makeSlice, ↓p_store, ↓p_append, ↓p_call, callA_fn, ev_tmp, ev_const, ev_global, ev_func, oc_bool, oc_int, oc_string, oc_nil, oc_nilptr, oc_nilfunc, cl_bool, cl_int, cl_string, cl_nil, updO_some, updO_none, upd_same, upd_other, init_at, pickA_b, pickA_wh, selA_t, selA_f, selA_and, selA_or, selA_orn, selA_orm, selA_bb, selA_ii, beqt, b_add, b_sub, b_mul, b_and, b_or, b_xor, b_eql, b_neq, b_lss, b_leq, b_gtr, b_geq, b_quo, b_rem, b_shr, b_seql, b_sneq, b_sadd, b_beql, b_bneq, b_aeql, b_aneq, u_not, u_neg, isConstOp, eqA, eqCellV, List.getD_cons_zero, List.getD_cons_succ, List.map_cons, List.map_nil, List.nil_append, List.cons_append, List.append_nil, if_true, if_false, Option.map_some, Option.map_none, reduceIte, reduceCtorEq, Nat.reduceEqDiff, ne_eq, not_false_eq_true, Nat.reduceBEq, oneA, ldv, ld1v, ld1s, wr1s, ldRow, stRow, row_lit, row_agg, row_vsl, row_sl, row_ptr, row_fn, one_I, one_B, one_S, one_vsl, one_sl, one_ptr, one_fn, extractA, okA, rI, rS, rU, rClass, rFault, rExit, rStart, rLine, Int.toNat_natCast, List.length_cons, List.length_nil, List.length_map, List.all_cons, List.all_nil, Bool.and_true, Nat.reduceAdd, Nat.zero_add, List.getElem?_cons_zero, List.getElem?_cons_succ, List.take_succ_cons, List.take_zero, List.drop_succ_cons, List.drop_zero, Nat.reduceLeDiff, and_self, true_and, and_true, implies_true, decide_eq_true_eq, decide_eq_false_iff_not, Bool.or_eq_true, Bool.or_eq_false_iff, Bool.and_eq_true, Bool.not_eq_true', Bool.not_eq_false', beq_false, decide_true, decide_false, Int.ofNat_lt, Int.ofNat_le, Int.natCast_nonneg, Bool.or_true, Bool.or_false, Bool.true_or, Bool.false_or, beq_self_eq_true, Nat.reduceMul, List.drop_one, Bool.not_true, Bool.not_false, Bool.not_not, Bool.false_eq_true, Bool.true_eq_false, false_implies, true_implies, Bool.true_and, Bool.false_and, Bool.and_false, if_true, if_false, not_true_eq_false, Nat.reduceLT, Int.natCast_eq_zero, Int.natCast_pos, Int.natCast_zero, false_and, and_false, or_false, false_or, or_true, true_or, Bool.or_self, ↓x_nil, ↓x_go1, ↓x_g0, ↓x_g1, ↓x_g2, ↓x_g3, ↓x_s0, ↓x_s1, ↓x_s2, ↓x_s3, none_le_iff, ↓u_move, ↓u_assign, ↓u_pick, ↓u_build, ↓u_load, ↓u_binOp, ↓u_unOp, ↓u_convert, ↓u_fieldAddr, ↓u_field, ↓u_indexAddr, ↓u_index, ↓u_extract, ↓u_lookup, ↓u_slice, ↓u_nilCheck, ↓u_makeFunc, ↓u_len, List.replicate_zero, Int.toNat_zero, List.replicate_succ, buildRows, List.set_cons_zero, List.set_cons_succ, List.set_nil, List.mapM_nil, maxLen_eq, Nat.zero_le, Nat.mul_one, Nat.one_mul, bldA, fillA, spliceA, List.take_nil, List.drop_nil, List.getElem?_nil, Int.reduceEq, Int.reduceLT, Int.reduceLE, decide_eq_true_eq, ld1o, wr1o, ↓u_buildSlice, bldSliceA, le_same, ti1, ti2, tk2, ti3, te3, ts3, tk3, tz3, ti4, tb4, ti5, tk5, tz5, ti9, te9, ts9, tk9, tz9, ti12, tk12, ti13, tp13, tf13_0, tf13_1, ti20, ti21, tk21, tz21, ti22, te22, tz22, ti23, te23, ti24, tp24, tf24_0, ti25, tp25, tf25_0, ti26, te26, ti28, ti29, te29, ti30, te30, ti31, tp31, tf31_0, ti32, tp32, tf32_0, ti33, tp33, tf33_0, tf33_1, tf33_2, tf33_3, ti34, tp34, tf34_0, tf34_1, tf34_2, tf34_3, ti35, ti36, ti37, ti38, ti40, ti42, ti43, ti44, tq44, tp44, tf44_0, tf44_1, tf44_2, ti45, tq45, tp45, tf45_0, tf45_1, tf45_2, ti47, ti48, ti49, tq49, tp49, tf49_0, tf49_1, tf49_2, tf49_3, ti50, tq50, tp50, tf50_0, tf50_1, tf50_2, tf50_3, ti51, ti52, ti54, ti55, ti56, ti57, te57, ti59, ti60, ti61, ti62, ti63, ti64, ti65, ti66, ti67, ti68, tq68, tp68, tf68_0, tf68_1, ti69, tq69, tp69, tf69_0, tf69_1, ti70, ti71, ti72, ti73, ti74, ti75, ti77, ti78, ti79, ti80, ti81, ti82, ti83, ti84, ti85, tq85, tp85, tf85_0, tf85_1, tf85_2, tf85_3, tf85_4, ti86, tq86, tp86, tf86_0, tf86_1, tf86_2, tf86_3, tf86_4, ti87, ti88, ti89, ti90, ti91, ti93, ti94, ti95, ti96, ti97, tq97, tp97, tf97_0, tf97_1, tf97_2, ti98, tq98, tp98, tf98_0, tf98_1, tf98_2, ti99, ti100, ti101, ti102, ti103, ti104, ti105, ti106, ti107, tp107, tf107_0, tf107_1, ti108, tp108, tf108_0, tf108_1, ti109, tp109, tf109_0, tf109_1, tf109_2, tf109_3, tf109_4, ti110, tp110, tf110_0, tf110_1, tf110_2, tf110_3, tf110_4, ti111, ti113, ti114, ti115, ti116, ti117, ti118, ti119, ti120, tp120, tf120_0, tf120_1, tf120_2, tf120_3, ti121, tp121, tf121_0, tf121_1, tf121_2, tf121_3, ti122, tq122, tp122, tf122_0, tf122_1, ti123, tq123, tp123, tf123_0, tf123_1, ti124, ti125, ti126, tq126, tp126, tf126_0, tf126_1, ti127, tq127, tp127, tf127_0, tf127_1, ti128, ti129, ti130, ti131, ti132, ti133, te133, ti134, ti135, ti136, ti137, ti138, ti139, ti140, ti141, ti142, ti143, ti144, tp144, tf144_0, tf144_1, tf144_2, ti145, tp145, tf145_0, tf145_1, tf145_2, ti146, ti147, ti148, ti149, ti150, te150, ti151, ti152, ti153, ti154, ti155, ti156, ti157, ti158, ti159, ti160, ti161, ti162, ti163, ti164, ti165, ti166, ti167, ti168, ti169, ti170, ti171, ti172, ti173, ti174, ti175, tk175, tz175, ti176, ti177, ti178, ti179, ti180, tk180, ti182, ti183, ti184, ti186, ti187, ti188, tk188, tz188, ti189, ti190, tk190, tz190, ti191, tk191, ti192, ti193, ti194, ti195, ti196, ti197, ti199, ti200, ti206, ti210, ti215, fp13_0, fv13_0, fp13_1, fv13_1, fp24_0, fv24_0, fp25_0, fv25_0, fp31_0, fv31_0, fp32_0, fv32_0, fp33_0, fv33_0, fp33_1, fv33_1, fp33_2, fv33_2, fp33_3, fv33_3, fp34_0, fv34_0, fp34_1, fv34_1, fp34_2, fv34_2, fp34_3, fv34_3, fp44_0, fv44_0, fp44_1, fv44_1, fp44_2, fv44_2, fp45_0, fv45_0, fp45_1, fv45_1, fp45_2, fv45_2, fp49_0, fv49_0, fp49_1, fv49_1, fp49_2, fv49_2, fp49_3, fv49_3, fp50_0, fv50_0, fp50_1, fv50_1, fp50_2, fv50_2, fp50_3, fv50_3, fp68_0, fv68_0, fp68_1, fv68_1, fp69_0, fv69_0, fp69_1, fv69_1, fp85_0, fv85_0, fp85_1, fv85_1, fp85_2, fv85_2, fp85_3, fv85_3, fp85_4, fv85_4, fp86_0, fv86_0, fp86_1, fv86_1, fp86_2, fv86_2, fp86_3, fv86_3, fp86_4, fv86_4, fp97_0, fv97_0, fp97_1, fv97_1, fp97_2, fv97_2, fp98_0, fv98_0, fp98_1, fv98_1, fp98_2, fv98_2, fp107_0, fv107_0, fp107_1, fv107_1, fp108_0, fv108_0, fp108_1, fv108_1, fp109_0, fv109_0, fp109_1, fv109_1, fp109_2, fv109_2, fp109_3, fv109_3, fp109_4, fv109_4, fp110_0, fv110_0, fp110_1, fv110_1, fp110_2, fv110_2, fp110_3, fv110_3, fp110_4, fv110_4, fp120_0, fv120_0, fp120_1, fv120_1, fp120_2, fv120_2, fp120_3, fv120_3, fp121_0, fv121_0, fp121_1, fv121_1, fp121_2, fv121_2, fp121_3, fv121_3, fp122_0, fv122_0, fp122_1, fv122_1, fp123_0, fv123_0, fp123_1, fv123_1, fp126_0, fv126_0, fp126_1, fv126_1, fp127_0, fv127_0, fp127_1, fv127_1, fp144_0, fv144_0, fp144_1, fv144_1, fp144_2, fv144_2, fp145_0, fv145_0, fp145_1, fv145_1, fp145_2, fv145_2, lv22, ll22, is22, ix22, sh22, so22, sb22, sm22, sp22, lv23, ll23, is23, ix23, sh23, so23, sb23, sm23, sp23, lv26, ll26, is26, ix26, sh26, so26, sb26, sm26, sp26, lv29, ll29, is29, ix29, sh29, so29, sb29, sm29, sp29, lv30, ll30, is30, ix30, sh30, so30, sb30, sm30, sp30, lv57, ll57, is57, ix57, sh57, so57, sb57, sm57, sp57, lv133, ll133, is133, sp133, lv150, ll150, is150, ix150, sh150, so150, sb150, sm150, sp150, xs9, ls9, sx9, sy9, sz9]) (it_backExit l cl' (by omega)) (by decide) backL_len
      (fun k H' => ∃ s H'', s = (l.reverse.take k).foldl (stepX t) (startX x) ∧ CloOk t s k ∧ Mach F H'' bm (.vsl (t.map rClass) cl) p s.log s.fs first ∧ H'' b7 = none ∧ H' = H''.set b7 ⟨1, 3, [[I s.cur]]⟩) (fun _ _ => False) ?_ ?_ ?_ (fun _ h => h.elim) (fun _ _ h => h.elim)
    · refine ⟨startX x, H, rfl, st, ?_, hb7, ?_⟩
      · simp only [startX, hx]; exact hM
      · simp [startX, hx]
    ·
      rintro k x' H' lp hx' ⟨s, H'', hsk, ok, hMk, hn, rfl⟩
      obtain ⟨hkl, rfl⟩ := backL_get hx'
      have hi2 : l.length - 1 - k < l.length := by omega
      have he := validX_at hv hi2
      have hrev := rev_take hkl
      generalize l.getD (l.length - 1 - k) default = e at he hrev ⊢
      have ok' := ok.step he
      have hsk' : (l.reverse.take (k + 1)).foldl (stepX t) (startX x) = stepX t s e := by rw [hrev, List.foldl_append, ← hsk]; rfl
      have hFk := mach_none hMk hn
      refine awp_soundAt (fz := fun r => if r = 5 then [9] else []) (im := fun s => s == 3 || s == 5) mixed _ _ _ _ (by kernel_rfl) (.inr (by kernel_rfl)) ?_
      simp +contextual -dsimp -implicitDefEqProofs (maxSteps := 5000000) only [go_sem, reduceIte, reduceCtorEq, Nat.reduceEqDiff, Nat.reduceBEq, Nat.reduceAdd, Nat.reduceLeDiff, Nat.reduceMul, Nat.reduceLT, Int.reduceEq, Int.reduceLT, Int.reduceLE]
      rintro b9 ⟨m1, m2, hb9⟩
      refine awp_soundAt (fz := fun r => if r = 5 then [9] else []) (im := fun s => s == 3 || s == 5) mixed _ _ _ _ (by kernel_rfl) (.inr (by kernel_rfl)) ?_
      have go : ∀ (s' : Clo) (G : AHeap), stepX t s e = s' → Mach F G bm (.vsl (t.map rClass) cl) p s'.log s'.fs first → G b7 = none →
          ∃ s_1 H'', s_1 = (l.reverse.take (k + 1)).foldl (stepX t) (startX x) ∧ CloOk t s_1 (k + 1) ∧ Mach F H'' bm (.vsl (t.map rClass) cl) p s_1.log s_1.fs first ∧ H'' b7 = none ∧ G.set b7 ⟨1, 3, [[I s'.cur]]⟩ = H''.set b7 ⟨1, 3, [[I s_1.cur]]⟩ :=
        fun s' G q1 q2 q3 => ⟨s', G, by rw [hsk', q1], q1 ▸ ok', q2, q3, rfl⟩
      obtain ⟨xl, xf, H1, H2, hF, hg1, hg2, hb, rfl⟩ := id hMk
      have hn' := hn
      rw [set_none] at hn'
      obtain ⟨n1, n2, hn2⟩ := hn'
      by_cases k0 : e.kind = 0
      · have hs' : stepX t s e = { s with log := s.log ++ [e.a] } := by simp only [stepX, k0, if_true]
        simp +contextual -dsimp -implicitDefEqProofs (maxSteps := 5000000) only [go_sem, reduceIte, reduceCtorEq, Nat.reduceEqDiff, Nat.reduceBEq, Nat.reduceAdd, Nat.reduceLeDiff, Nat.reduceMul, Nat.reduceLT, Int.reduceEq, Int.reduceLT, Int.reduceLE, k0]
        refine draw_intro [1, 0, 0, 0, 0, 0, 0, 0, 3, 0, 0, 2] AHeap.none (by kernel_rfl) none_le ?_
        simp +contextual -dsimp -implicitDefEqProofs (maxSteps := 5000000) only [go_sem, reduceIte, reduceCtorEq, Nat.reduceEqDiff, Nat.reduceBEq, Nat.reduceAdd, Nat.reduceLeDiff, Nat.reduceMul, Nat.reduceLT, Int.reduceEq, Int.reduceLT, Int.reduceLE, k0, n1, n2]
        refine mach_app1 hg1 hg2 hb n1 hn2 (by have := ok.log; omega) fun x2 G G1 y1 y2 y3 y4 y5 => ?_
        obtain ⟨r1, r2⟩ := y5
        simp +contextual -dsimp -implicitDefEqProofs (maxSteps := 5000000) only [go_sem, reduceIte, reduceCtorEq, Nat.reduceEqDiff, Nat.reduceBEq, Nat.reduceAdd, Nat.reduceLeDiff, Nat.reduceMul, Nat.reduceLT, Int.reduceEq, Int.reduceLT, Int.reduceLE, k0, n1, n2, r1, r2]
        exact go { s with log := s.log ++ [e.a] } _ hs' ⟨x2, xf, G1, G, hF, y1, y2, y3, rfl⟩ (by rw [set_other n1]; exact y4)
      · by_cases k1 : e.kind = 1
        · simp +contextual -dsimp -implicitDefEqProofs (maxSteps := 5000000) only [go_sem, reduceIte, reduceCtorEq, Nat.reduceEqDiff, Nat.reduceBEq, Nat.reduceAdd, Nat.reduceLeDiff, Nat.reduceMul, Nat.reduceLT, Int.reduceEq, Int.reduceLT, Int.reduceLE, k0, k1]
          refine ⟨fun hc => ?_, fun hc => ?_⟩
          · have hs' : stepX t s e = { s with log := s.log ++ [e.a] } := by simp only [stepX, k0, k1, hc, if_true, if_false]; rfl
            refine draw_intro [1, 0, 0, 0, 0, 0, 0, 0, 3, 0, 0, 2] AHeap.none (by kernel_rfl) none_le ?_
            simp +contextual -dsimp -implicitDefEqProofs (maxSteps := 5000000) only [go_sem, reduceIte, reduceCtorEq, Nat.reduceEqDiff, Nat.reduceBEq, Nat.reduceAdd, Nat.reduceLeDiff, Nat.reduceMul, Nat.reduceLT, Int.reduceEq, Int.reduceLT, Int.reduceLE, k0, k1, n1, n2]
            refine mach_app1 hg1 hg2 hb n1 hn2 (by have := ok.log; omega) fun x2 G G1 y1 y2 y3 y4 y5 => ?_
            obtain ⟨r1, r2⟩ := y5
            simp +contextual -dsimp -implicitDefEqProofs (maxSteps := 5000000) only [go_sem, reduceIte, reduceCtorEq, Nat.reduceEqDiff, Nat.reduceBEq, Nat.reduceAdd, Nat.reduceLeDiff, Nat.reduceMul, Nat.reduceLT, Int.reduceEq, Int.reduceLT, Int.reduceLE, k0, k1, n1, n2, r1, r2]
            exact go { s with log := s.log ++ [e.a] } _ hs' ⟨x2, xf, G1, G, hF, y1, y2, y3, rfl⟩ (by rw [set_other n1]; exact y4)
          · have hs' : stepX t s e = s := by simp only [stepX, k0, k1, hc, if_true, if_false]; rfl
            exact go s _ hs' hMk hn
        · by_cases k2 : e.kind = 2
          · by_cases hc : 0 ≤ s.cur
            · simp +contextual -dsimp -implicitDefEqProofs (maxSteps := 5000000) only [go_sem, reduceIte, reduceCtorEq, Nat.reduceEqDiff, Nat.reduceBEq, Nat.reduceAdd, Nat.reduceLeDiff, Nat.reduceMul, Nat.reduceLT, Int.reduceEq, Int.reduceLT, Int.reduceLE, k0, k1, k2]
              refine draw_intro [0, 0, 0, 0, 0, 0, 0, 0, 0, 0, 0, 0, 0, 0, 0, 0, 0, 0, 2, 0] AHeap.none (by kernel_rfl) none_le ?_
              rcases hg2 with ⟨e1, _, _⟩ | ⟨bf, clf, hbf, rfl, rfl⟩
              · have := ok.cur; rw [e1] at this; simp at this; omega
              have hb' := hb
              have hn3 := hn2
              rw [set_none] at hb' hn3
              have w1 := hb'.1
              have w2 := hb'.2.1
              have w3 := hn3.1
              have w4 := hn3.2.1
              have i1 := ok.cur
              have i2 : s.cur.toNat < s.fs.length := by omega
              simp +contextual -dsimp -implicitDefEqProofs (maxSteps := 5000000) only [go_sem, reduceIte, reduceCtorEq, Nat.reduceEqDiff, Nat.reduceBEq, Nat.reduceAdd, Nat.reduceLeDiff, Nat.reduceMul, Nat.reduceLT, Int.reduceEq, Int.reduceLT, Int.reduceLE, k0, k1, k2, hc, n1, n2, w1, w2, w3, w4, i1, i2]
              have hcl := ok.cls s.cur.toNat i2
              refine (c_is t cl _ e.a _ hT hcl.2).det ?_
              simp +contextual -dsimp -implicitDefEqProofs (maxSteps := 5000000) only [go_sem, reduceIte, reduceCtorEq, Nat.reduceEqDiff, Nat.reduceBEq, Nat.reduceAdd, Nat.reduceLeDiff, Nat.reduceMul, Nat.reduceLT, Int.reduceEq, Int.reduceLT, Int.reduceLE, k0, k1, k2, hc, n1, n2, w1, w2, w3, w4, i1, i2]
              refine ⟨fun hq => ?_, fun hq => ?_⟩
              · have hs' : stepX t s e = { s with cur := -1 } := by
                  simp only [stepX, k2, hc, isF, hq, and_self, if_true]; rfl
                exact go { s with cur := -1 } _ hs' hMk hn
              · have hs' : stepX t s e = s := by
                  simp only [stepX, k2, hc, isF, hq, and_self, if_true]; rfl
                exact go s _ hs' hMk hn
            · have hs' : stepX t s e = s := by simp only [stepX, k0, k1, k2, hc, if_true, if_false, false_and]; rfl
              simp +contextual -dsimp -implicitDefEqProofs (maxSteps := 5000000) only [go_sem, reduceIte, reduceCtorEq, Nat.reduceEqDiff, Nat.reduceBEq, Nat.reduceAdd, Nat.reduceLeDiff, Nat.reduceMul, Nat.reduceLT, Int.reduceEq, Int.reduceLT, Int.reduceLE, k0, k1, k2]
              refine draw_intro [0, 0, 0, 0, 0, 0, 0, 0, 0, 0, 0, 0, 0, 0, 0, 0, 0, 0, 2, 0] AHeap.none (by kernel_rfl) none_le ?_
              simp +contextual -dsimp -implicitDefEqProofs (maxSteps := 5000000) only [go_sem, reduceIte, reduceCtorEq, Nat.reduceEqDiff, Nat.reduceBEq, Nat.reduceAdd, Nat.reduceLeDiff, Nat.reduceMul, Nat.reduceLT, Int.reduceEq, Int.reduceLT, Int.reduceLE, k0, k1, k2, hc, n1, n2]
              exact go s _ hs' hMk hn
          · by_cases k3 : e.kind = 3
            · simp +contextual -dsimp -implicitDefEqProofs (maxSteps := 5000000) only [go_sem, reduceIte, reduceCtorEq, Nat.reduceEqDiff, Nat.reduceBEq, Nat.reduceAdd, Nat.reduceLeDiff, Nat.reduceMul, Nat.reduceLT, Int.reduceEq, Int.reduceLT, Int.reduceLE, k0, k1, k2, k3]
              refine (c_raise _ _ bm _ p s.log s.fs first e.a e.b s.cur (mach_in (K := ⟨1, 3, [[I s.cur]]⟩) hMk hn) (by have := ok.len; omega) ok.ho ok.cur).mono ?_
              rintro _ H9 ⟨rfl, hM9⟩
              obtain ⟨H10, rfl, hM10, hn10⟩ := mach_out hM9 hFk
              have hs' : stepX t s e = { s with fs := raiseF s.fs e.a e.b s.cur, cur := s.fs.length } := by simp only [stepX, k0, k1, k2, k3, if_true, if_false]; rfl
              simp +contextual -dsimp -implicitDefEqProofs (maxSteps := 5000000) only [go_sem, reduceIte, reduceCtorEq, Nat.reduceEqDiff, Nat.reduceBEq, Nat.reduceAdd, Nat.reduceLeDiff, Nat.reduceMul, Nat.reduceLT, Int.reduceEq, Int.reduceLT, Int.reduceLE, k0, k1, k2, k3]
              exact go { s with fs := raiseF s.fs e.a e.b s.cur, cur := s.fs.length } _ hs' hM10 hn10
            · have hs' : stepX t s e = s := by simp only [stepX, k0, k1, k2, k3, if_false]
              simp +contextual -dsimp -implicitDefEqProofs (maxSteps := 5000000) only [go_sem, reduceIte, reduceCtorEq, Nat.reduceEqDiff, Nat.reduceBEq, Nat.reduceAdd, Nat.reduceLeDiff, Nat.reduceMul, Nat.reduceLT, Int.reduceEq, Int.reduceLT, Int.reduceLE, k0, k1, k2, k3]
              exact go s _ hs' hMk hn
    ·
      rintro H' ⟨s, H'', hsk, ok, hMk, hn, rfl⟩
      rw [backL_length, List.take_of_length_le (by simp)] at hsk
      have hfin : closeX t l x = s := by rw [closeX, hsk]
      simp +contextual -dsimp -implicitDefEqProofs (maxSteps := 5000000) only [go_sem, reduceIte, reduceCtorEq, Nat.reduceEqDiff, Nat.reduceBEq, Nat.reduceAdd, Nat.reduceLeDiff, Nat.reduceMul, Nat.reduceLT, Int.reduceEq, Int.reduceLT, Int.reduceLE]
      refine retR_less (l := [I s.cur]) (H' := H'') ?_ (le_set hn) ⟨by rw [hfin]; rfl, by rw [hfin]; exact hMk⟩
      simp only [resA, ↓aw_skip, ↓aw_ret, ↓aw_exit, ↓aw_region, ↓aw_draw, ↓aw_seq, ↓aw_block, ↓aw_loop, ↓aw_cond, ↓frz_nil, ↓frz_cons, frzV_ptr, frzV_sl, frzK_some, set_none, set_other, AHeap.set_self, set_del, set_set, cnd_t, cnd_f, cnd_b, ↓sq_normal, ↓sq_ret, ↓sq_exit, ↓exB_normal, ↓exB_ret, ↓exB_same, ↓exB_other, ↓retQ_ret, ↓retQ_normal, ↓ret0_ret, ↓ret0_normal, retA_one, retA_two, retA_three, retA_four, retA_nil, ↓ao_nil, ↓go1, ↓g_move, ↓g_assign, ↓g_pick, ↓g_build, ↓g_load, ↓g_binOp, ↓g_unOp, ↓g_convert, ↓g_fieldAddr, ↓g_field, ↓g_indexAddr, ↓g_index, ↓g_extract, ↓g_lookup, ↓g_slice, ↓g_nilCheck, ↓g_len, ↓g_makeFunc, ↓h_call, ↓h_append, ↓h_alloc, ↓h_box, ↓h_buildSlice, ↓h_makeSlice, ↓h_store, gIf_b, mrgV_b, mrgV_wh, mrgV_U, gIf_U, gIf_wh, mrgB_f, mrgB_some, mrgB_if, wh_true, wh_false, keepA_some, keepA_if, ↓gV, gD_zero, gD_succ, gT_some, ↓i_box, ↓i_buildSlice, bxA_t, bxA_f, ↓i_move, ↓i_assign, ↓i_build, ↓i_load, ↓i_binOp, ↓i_unOp, ↓i_convert, ↓i_fieldAddr, ↓i_field, ↓i_indexAddr, ↓i_index, ↓i_extract, ↓i_lookup, ↓i_makeMap, ↓i_mapUpdate, ↓i_slice, ↓i_nilCheck, ↓i_makeFunc, ↓i_len, ↓i_max, ↓i_min, ↓i_alloc, ↓i_makeSlice, ↓i_store, ↓i_append, ↓i_call, ↓i_pick, ↓boxI, ↓boxA, ↓buildSliceI, ↓buildSliceA, ↓makeSliceA, ↓makeMapA, ↓allocA, ↓storeA, ↓p_move, ↓p_assign, ↓p_pick, ↓p_build, ↓p_load, ↓p_binOp, ↓p_unOp, ↓p_convert, ↓p_fieldAddr, ↓p_field, ↓p_indexAddr, ↓p_index, ↓p_extract, ↓p_lookup, ↓p_makeMap, ↓p_mapUpdate, ↓p_slice, ↓p_nilCheck, ↓p_makeFunc, ↓p_len, ↓p_max, ↓p_min, ↓p_alloc, ↓p_box, ↓p_buildSlice, ↓p_makeSlice, ↓p_store, ↓p_append, ↓p_call, callA_fn, ev_tmp, ev_const, ev_global, ev_func, oc_bool, oc_int, oc_string, oc_nil, oc_nilptr, oc_nilfunc, cl_bool, cl_int, cl_string, cl_nil, updO_some, updO_none, upd_same, upd_other, init_at, pickA_b, pickA_wh, selA_t, selA_f, selA_and, selA_or, selA_orn, selA_orm, selA_bb, selA_ii, beqt, b_add, b_sub, b_mul, b_and, b_or, b_xor, b_eql, b_neq, b_lss, b_leq, b_gtr, b_geq, b_quo, b_rem, b_shr, b_seql, b_sneq, b_sadd, b_beql, b_bneq, b_aeql, b_aneq, u_not, u_neg, isConstOp, eqA, eqCellV, List.getD_cons_zero, List.getD_cons_succ, List.map_cons, List.map_nil, List.nil_append, List.cons_append, List.append_nil, if_true, if_false, Option.map_some, Option.map_none, reduceIte, reduceCtorEq, Nat.reduceEqDiff, ne_eq, not_false_eq_true, Nat.reduceBEq, oneA, ldv, ld1v, ld1s, wr1s, ldRow, stRow, row_lit, row_agg, row_vsl, row_sl, row_ptr, row_fn, one_I, one_B, one_S, one_vsl, one_sl, one_ptr, one_fn, extractA, okA, rI, rS, rU, rClass, rFault, rExit, rStart, rLine, Int.toNat_natCast, List.length_cons, List.length_nil, List.length_map, List.all_cons, List.all_nil, Bool.and_true, Nat.reduceAdd, Nat.zero_add, List.getElem?_cons_zero, List.getElem?_cons_succ, List.take_succ_cons, List.take_zero, List.drop_succ_cons, List.drop_zero, Nat.reduceLeDiff, and_self, true_and, and_true, implies_true, decide_eq_true_eq, decide_eq_false_iff_not, Bool.or_eq_true, Bool.or_eq_false_iff, Bool.and_eq_true, Bool.not_eq_true', Bool.not_eq_false', beq_false, decide_true, decide_false, Int.ofNat_lt, Int.ofNat_le, Int.natCast_nonneg, Bool.or_true, Bool.or_false, Bool.true_or, Bool.false_or, beq_self_eq_true, Nat.reduceMul, List.drop_one, Bool.not_true, Bool.not_false, Bool.not_not, Bool.false_eq_true, Bool.true_eq_false, false_implies, true_implies, Bool.true_and, Bool.false_and, Bool.and_false, if_true, if_false, not_true_eq_false, Nat.reduceLT, Int.natCast_eq_zero, Int.natCast_pos, Int.natCast_zero, false_and, and_false, or_false, false_or, or_true, true_or, Bool.or_self, ↓x_nil, ↓x_go1, ↓x_g0, ↓x_g1, ↓x_g2, ↓x_g3, ↓x_s0, ↓x_s1, ↓x_s2, ↓x_s3, none_le_iff, ↓u_move, ↓u_assign, ↓u_pick, ↓u_build, ↓u_load, ↓u_binOp, ↓u_unOp, ↓u_convert, ↓u_fieldAddr, ↓u_field, ↓u_indexAddr, ↓u_index, ↓u_extract, ↓u_lookup, ↓u_slice, ↓u_nilCheck, ↓u_makeFunc, ↓u_len, List.replicate_zero, Int.toNat_zero, List.replicate_succ, buildRows, List.set_cons_zero, List.set_cons_succ, List.set_nil, List.mapM_nil, maxLen_eq, Nat.zero_le, Nat.mul_one, Nat.one_mul, bldA, fillA, spliceA, List.take_nil, List.drop_nil, List.getElem?_nil, Int.reduceEq, Int.reduceLT, Int.reduceLE, decide_eq_true_eq, ld1o, wr1o, ↓u_buildSlice, bldSliceA, le_same, ti1, ti2, tk2, ti3, te3, ts3, tk3, tz3, ti4, tb4, ti5, tk5, tz5, ti9, te9, ts9, tk9, tz9, ti12, tk12, ti13, tp13, tf13_0, tf13_1, ti20, ti21, tk21, tz21, ti22, te22, tz22, ti23, te23, ti24, tp24, tf24_0, ti25, tp25, tf25_0, ti26, te26, ti28, ti29, te29, ti30, te30, ti31, tp31, tf31_0, ti32, tp32, tf32_0, ti33, tp33, tf33_0, tf33_1, tf33_2, tf33_3, ti34, tp34, tf34_0, tf34_1, tf34_2, tf34_3, ti35, ti36, ti37, ti38, ti40, ti42, ti43, ti44, tq44, tp44, tf44_0, tf44_1, tf44_2, ti45, tq45, tp45, tf45_0, tf45_1, tf45_2, ti47, ti48, ti49, tq49, tp49, tf49_0, tf49_1, tf49_2, tf49_3, ti50, tq50, tp50, tf50_0, tf50_1, tf50_2, tf50_3, ti51, ti52, ti54, ti55, ti56, ti57, te57, ti59, ti60, ti61, ti62, ti63, ti64, ti65, ti66, ti67, ti68, tq68, tp68, tf68_0, tf68_1, ti69, tq69, tp69, tf69_0, tf69_1, ti70, ti71, ti72, ti73, ti74, ti75, ti77, ti78, ti79, ti80, ti81, ti82, ti83, ti84, ti85, tq85, tp85, tf85_0, tf85_1, tf85_2, tf85_3, tf85_4, ti86, tq86, tp86, tf86_0, tf86_1, tf86_2, tf86_3, tf86_4, ti87, ti88, ti89, ti90, ti91, ti93, ti94, ti95, ti96, ti97, tq97, tp97, tf97_0, tf97_1, tf97_2, ti98, tq98, tp98, tf98_0, tf98_1, tf98_2, ti99, ti100, ti101, ti102, ti103, ti104, ti105, ti106, ti107, tp107, tf107_0, tf107_1, ti108, tp108, tf108_0, tf108_1, ti109, tp109, tf109_0, tf109_1, tf109_2, tf109_3, tf109_4, ti110, tp110, tf110_0, tf110_1, tf110_2, tf110_3, tf110_4, ti111, ti113, ti114, ti115, ti116, ti117, ti118, ti119, ti120, tp120, tf120_0, tf120_1, tf120_2, tf120_3, ti121, tp121, tf121_0, tf121_1, tf121_2, tf121_3, ti122, tq122, tp122, tf122_0, tf122_1, ti123, tq123, tp123, tf123_0, tf123_1, ti124, ti125, ti126, tq126, tp126, tf126_0, tf126_1, ti127, tq127, tp127, tf127_0, tf127_1, ti128, ti129, ti130, ti131, ti132, ti133, te133, ti134, ti135, ti136, ti137, ti138, ti139, ti140, ti141, ti142, ti143, ti144, tp144, tf144_0, tf144_1, tf144_2, ti145, tp145, tf145_0, tf145_1, tf145_2, ti146, ti147, ti148, ti149, ti150, te150, ti151, ti152, ti153, ti154, ti155, ti156, ti157, ti158, ti159, ti160, ti161, ti162, ti163, ti164, ti165, ti166, ti167, ti168, ti169, ti170, ti171, ti172, ti173, ti174, ti175, tk175, tz175, ti176, ti177, ti178, ti179, ti180, tk180, ti182, ti183, ti184, ti186, ti187, ti188, tk188, tz188, ti189, ti190, tk190, tz190, ti191, tk191, ti192, ti193, ti194, ti195, ti196, ti197, ti199, ti200, ti206, ti210, ti215, fp13_0, fv13_0, fp13_1, fv13_1, fp24_0, fv24_0, fp25_0, fv25_0, fp31_0, fv31_0, fp32_0, fv32_0, fp33_0, fv33_0, fp33_1, fv33_1, fp33_2, fv33_2, fp33_3, fv33_3, fp34_0, fv34_0, fp34_1, fv34_1, fp34_2, fv34_2, fp34_3, fv34_3, fp44_0, fv44_0, fp44_1, fv44_1, fp44_2, fv44_2, fp45_0, fv45_0, fp45_1, fv45_1, fp45_2, fv45_2, fp49_0, fv49_0, fp49_1, fv49_1, fp49_2, fv49_2, fp49_3, fv49_3, fp50_0, fv50_0, fp50_1, fv50_1, fp50_2, fv50_2, fp50_3, fv50_3, fp68_0, fv68_0, fp68_1, fv68_1, fp69_0, fv69_0, fp69_1, fv69_1, fp85_0, fv85_0, fp85_1, fv85_1, fp85_2, fv85_2, fp85_3, fv85_3, fp85_4, fv85_4, fp86_0, fv86_0, fp86_1, fv86_1, fp86_2, fv86_2, fp86_3, fv86_3, fp86_4, fv86_4, fp97_0, fv97_0, fp97_1, fv97_1, fp97_2, fv97_2, fp98_0, fv98_0, fp98_1, fv98_1, fp98_2, fv98_2, fp107_0, fv107_0, fp107_1, fv107_1, fp108_0, fv108_0, fp108_1, fv108_1, fp109_0, fv109_0, fp109_1, fv109_1, fp109_2, fv109_2, fp109_3, fv109_3, fp109_4, fv109_4, fp110_0, fv110_0, fp110_1, fv110_1, fp110_2, fv110_2, fp110_3, fv110_3, fp110_4, fv110_4, fp120_0, fv120_0, fp120_1, fv120_1, fp120_2, fv120_2, fp120_3, fv120_3, fp121_0, fv121_0, fp121_1, fv121_1, fp121_2, fv121_2, fp121_3, fv121_3, fp122_0, fv122_0, fp122_1, fv122_1, fp123_0, fv123_0, fp123_1, fv123_1, fp126_0, fv126_0, fp126_1, fv126_1, fp127_0, fv127_0, fp127_1, fv127_1, fp144_0, fv144_0, fp144_1, fv144_1, fp144_2, fv144_2, fp145_0, fv145_0, fp145_1, fv145_1, fp145_2, fv145_2, lv22, ll22, is22, ix22, sh22, so22, sb22, sm22, sp22, lv23, ll23, is23, ix23, sh23, so23, sb23, sm23, sp23, lv26, ll26, is26, ix26, sh26, so26, sb26, sm26, sp26, lv29, ll29, is29, ix29, sh29, so29, sb29, sm29, sp29, lv30, ll30, is30, ix30, sh30, so30, sb30, sm30, sp30, lv57, ll57, is57, ix57, sh57, so57, sb57, sm57, sp57, lv133, ll133, is133, sp133, lv150, ll150, is150, ix150, sh150, so150, sb150, sm150, sp150, xs9, ls9, sx9, sy9, sz9]
end
section
open Go Go.Sim
set_option maxRecDepth 100000

theorem c_Sort (H : AHeap) (b : Nat) (ty : TypeId) (l : List Int) (cl : Bool) {Q : AV → AHeap → Prop} (hb : H b = some ⟨1, ty, l.map rI⟩) (hl : l.length < 4611686018427387904) (k : Q (.tup []) (H.set b ⟨1, ty, (sortI l).map rI⟩)) :
    ACalls Tryz.prog 149 [.sl b 1 0 l.length cl] H Q :=
  acalls_sort (by kernel_rfl) Tryz.slices_Sort_int hb hl k
theorem c_SortG (H0 H : AHeap) (x : AV) (l : List Int) (hg : Grow rI 1 3 H0 H x l) (hn : l ≠ []) (hl : l.length < 4611686018427387904) :
    ACalls Tryz.prog 149 [x] H fun r H' => r = .tup [] ∧ Grow rI 1 3 H0 H' x (sortI l) := by
  rcases hg with ⟨e, _, _⟩ | ⟨b, cl, hb, rfl, rfl⟩
  · exact absurd e hn
  · refine c_Sort _ b 3 l cl (AHeap.set_self ..) hl ⟨rfl, .inr ⟨b, cl, hb, by rw [sortI_len], set_set⟩⟩

def causeOf (h : List Fault) (a : Int) : Int := (h.getD a.toNat default).cause
/-- A link's end put to what is there, if it is new. -/
def addF (out : List Int) (g : Int) : List Int := if 0 ≤ g ∧ (out.any fun x => decide (g = x)) = false then out ++ [g] else out
def bfsG (h : List Fault) : Nat → Nat → List Int → List Int
  | 0, _, out => out
  | n + 1, i, out => if i < out.length then bfsG h n (i + 1) (addF (addF out (causeOf h (out.getD i default))) (ctxOf h (out.getD i default))) else out
def bfsF (h : List Fault) (f : Int) : List Int := bfsG h (h.length + 1) 0 [f]
/-- Numbers of a heap, each once. -/
structure Nums (n : Nat) (out : List Int) : Prop where
  mem : ∀ a ∈ out, 0 ≤ a ∧ a < n
  free : freeN n out + out.length ≤ n
theorem Nums.add {n : Nat} {out : List Int} (h : Nums n out) {g : Int} (hg : g < n) : Nums n (addF out g) := by
  unfold addF
  split
  · rename_i hc
    refine ⟨fun a ha => ?_, ?_⟩
    · rcases List.mem_append.1 ha with q | q
      · exact h.mem a q
      · simp at q; subst q; exact ⟨hc.1, hg⟩
    · have := freeN_lt hc.1 hg hc.2
      have := h.free
      simp; omega
  · exact h
theorem Nums.one {n : Nat} {f : Int} (h0 : 0 ≤ f) (h1 : f < n) : Nums n [f] := by
  refine ⟨fun a ha => by simp at ha; subst ha; exact ⟨h0, h1⟩, ?_⟩
  have := freeN_lt (out := []) h0 h1 rfl
  have := freeN_nil n
  simp at *; omega
theorem addF_len (out : List Int) (g : Int) : out.length ≤ (addF out g).length := by
  unfold addF; split <;> simp

theorem c_mreach (h : List Fault) (cl : Bool) (f : Int) (H : AHeap) (hl : h.length ≤ 1000000) (h0 : 0 ≤ f) (h1 : f < h.length) (hlk : ∀ k, k < h.length → (h.getD k default).cause < h.length ∧ (h.getD k default).ctx < h.length) :
    ACalls Tryz.prog 118 [aHeap h cl, I f] H fun r H' => Grow rI 1 3 H H' r (sortI (bfsF h f)) := by
  refine acalls_of0 Tryz.func118 rfl (by kernel_rfl) rfl rfl (awp_sound (fz := fun _ => []) (im := fun s => s == 2 || s == 51) mixed _ _ _ _ (by kernel_rfl) ?_)
  simp +contextual -dsimp -implicitDefEqProofs (maxSteps := 5000000) only [go_sem, reduceIte, reduceCtorEq, Nat.reduceEqDiff, Nat.reduceBEq, Nat.reduceAdd, Nat.reduceLeDiff, Nat.reduceMul, Nat.reduceLT, Int.reduceEq, Int.reduceLT, Int.reduceLE]
  intro b5 hb5
  refine aloop mixed (fz := fun _ => []) (im := fun s => s == 2 || s == 51) (by kernel_rfl) (fun m tm H' => ∃ (i : Nat) (out : List Int) (x : AV), m = h.length + 1 - i ∧ i ≤ out.length ∧ Nums h.length out ∧ out ≠ [] ∧ Grow rI 1 3 H H' x out ∧ tm 2 = .vptr [[.vsl (h.map rFault) cl]] 0 0 ∧ tm 5 = x ∧ tm 6 = I i ∧ bfsG h (h.length + 1 - i) i out = bfsF h f) (h.length + 1) ⟨0, [f], .sl b5 1 0 1 true, rfl, by simp, Nums.one h0 h1, by simp, .inr ⟨b5, true, hb5, rfl, rfl⟩, ?_⟩ ?_
  · simp +contextual -dsimp -implicitDefEqProofs (maxSteps := 5000000) only [go_sem, reduceIte, reduceCtorEq, Nat.reduceEqDiff, Nat.reduceBEq, Nat.reduceAdd, Nat.reduceLeDiff, Nat.reduceMul, Nat.reduceLT, Int.reduceEq, Int.reduceLT, Int.reduceLE]
    rfl
  · rintro m tm H' ⟨i, out, x, rfl, hi, hn, hne, hg, t2, t5, t6, he⟩
    have hlen := grow_len te29 hg
    have hol : out.length ≤ h.length := by have := hn.free; omega
    simp +contextual -dsimp -implicitDefEqProofs (maxSteps := 5000000) only [go_sem, reduceIte, reduceCtorEq, Nat.reduceEqDiff, Nat.reduceBEq, Nat.reduceAdd, Nat.reduceLeDiff, Nat.reduceMul, Nat.reduceLT, Int.reduceEq, Int.reduceLT, Int.reduceLE, t2, t5, t6, hlen]
    refine ⟨fun hlt => ?_, fun hlt => ?_⟩
    · refine draw_intro [0, 0, 0, 0, 0, 0, 0, 0, 0, 0, 0, 0, 0, 0, 0, 0, 0, 0, 0, 0, 0] AHeap.none (by kernel_rfl) none_le ?_
      rcases hg with ⟨e1, _, _⟩ | ⟨b, cl', hb, rfl, rfl⟩
      · exact absurd e1 hne
      have hm := hn.mem (out.getD i default) (by rw [List.getD_eq_getElem?_getD, List.getElem?_eq_getElem hlt]; exact List.getElem_mem hlt)
      have i1 := hm.1
      have i2 := hm.2
      have i3 : (out.getD i default).toNat < h.length := by omega
      have hk1 := (hlk _ i3).1
      have hk2 := (hlk _ i3).2
      simp +contextual -dsimp -implicitDefEqProofs (maxSteps := 5000000) only [go_sem, reduceIte, reduceCtorEq, Nat.reduceEqDiff, Nat.reduceBEq, Nat.reduceAdd, Nat.reduceLeDiff, Nat.reduceMul, Nat.reduceLT, Int.reduceEq, Int.reduceLT, Int.reduceLE, t2, t5, t6, hlt, i1, i2, i3]
      have hg : Grow rI 1 3 H (H.set b ⟨1, 3, out.map rI⟩) (.sl b 1 0 out.length cl') out := .inr ⟨b, cl', hb, rfl, rfl⟩
      generalize H.set b ⟨1, 3, out.map rI⟩ = HH at hg ⊢
      generalize hx : AV.sl b 1 0 out.length cl' = x at hg ⊢
      refine aloop mixed (fz := fun _ => []) (im := fun s => s == 2 || s == 51) (by kernel_rfl) (fun m tm H' => ∃ (j : Nat) (o : List Int) (x : AV), m = 2 - j ∧ j ≤ 2 ∧ Grow rI 1 3 H H' x o ∧ Nums h.length o ∧ o ≠ [] ∧ out.length ≤ o.length ∧ tm 2 = .vptr [[.vsl (h.map rFault) cl]] 0 0 ∧ tm 5 = x ∧ tm 6 = I i ∧ tm 35 = .vsl ([causeOf h (out.getD i default), ctxOf h (out.getD i default)].map rI) true ∧ tm 36 = I 2 ∧ tm 37 = I j ∧ o = (if j = 0 then out else if j = 1 then addF out (causeOf h (out.getD i default)) else addF (addF out (causeOf h (out.getD i default))) (ctxOf h (out.getD i default)))) 2 ⟨0, out, x, rfl, by simp, hg, hn, hne, Nat.le_refl _, ?_⟩ ?_
      · simp +contextual -dsimp -implicitDefEqProofs (maxSteps := 5000000) only [go_sem, reduceIte, reduceCtorEq, Nat.reduceEqDiff, Nat.reduceBEq, Nat.reduceAdd, Nat.reduceLeDiff, Nat.reduceMul, Nat.reduceLT, Int.reduceEq, Int.reduceLT, Int.reduceLE, t2, t5, t6, hlt, i1, i2, i3, hx]
        simp [causeOf, ctxOf]
      · rintro m tm H' ⟨j, o, x', rfl, hj, hg', hn', hne', hol', t2, t5, t6, t35, t36, t37, ho⟩
        have hol2 : o.length ≤ h.length := by have := hn'.free; omega
        generalize hL : [causeOf h (out.getD i default), ctxOf h (out.getD i default)] = L at t35
        have hLl : L.length = 2 := by rw [← hL]; rfl
        simp +contextual -dsimp -implicitDefEqProofs (maxSteps := 5000000) only [go_sem, reduceIte, reduceCtorEq, Nat.reduceEqDiff, Nat.reduceBEq, Nat.reduceAdd, Nat.reduceLeDiff, Nat.reduceMul, Nat.reduceLT, Int.reduceEq, Int.reduceLT, Int.reduceLE, t2, t5, t6, t35, t36, t37, hLl]
        refine ⟨fun hj2 => ⟨by omega, ?_⟩, fun hj2 => ?_⟩
        · have hc : ∀ g, g = L.getD j default → g < h.length := by
            rintro g rfl
            have : j = 0 ∨ j = 1 := by omega
            rcases this with rfl | rfl
            · rw [← hL]; exact hk1
            · rw [← hL]; exact hk2
          have hnx : (if j + 1 = 0 then out else if j + 1 = 1 then addF out (causeOf h (out.getD i default)) else addF (addF out (causeOf h (out.getD i default))) (ctxOf h (out.getD i default))) = addF o (L.getD j default) := by
            have : j = 0 ∨ j = 1 := by omega
            rcases this with rfl | rfl
            · rw [← hL, ho]; rfl
            · rw [← hL, ho]; rfl
          have hgl := hc _ rfl
          generalize L.getD j default = g at hgl hnx
          refine ⟨by omega, fun hg0 => (c_ContainsG o x' g H H' hg').det ?_, fun hg0 => ?_⟩
          · cases ha : o.any fun x => decide (g = x)
            · simp +contextual -dsimp -implicitDefEqProofs (maxSteps := 5000000) only [go_sem, reduceIte, reduceCtorEq, Nat.reduceEqDiff, Nat.reduceBEq, Nat.reduceAdd, Nat.reduceLeDiff, Nat.reduceMul, Nat.reduceLT, Int.reduceEq, Int.reduceLT, Int.reduceLE, t2, t5, t6, t35, t36, t37, hLl, hg0]
              have hadd : addF o g = o ++ [g] := by rw [addF, if_pos ⟨hg0, ha⟩]
              refine grow_append (m := [g]) te29 ti3 rI_len (by decide) hg' (by simp; omega) (by simp; omega) rfl fun x2 H2 hg2 => ?_
              simp +contextual -dsimp -implicitDefEqProofs (maxSteps := 5000000) only [go_sem, reduceIte, reduceCtorEq, Nat.reduceEqDiff, Nat.reduceBEq, Nat.reduceAdd, Nat.reduceLeDiff, Nat.reduceMul, Nat.reduceLT, Int.reduceEq, Int.reduceLT, Int.reduceLE, t2, t5, t6, t35, t36, t37, hLl, hg0]
              rw [← hadd] at hg2
              exact ⟨2 - (j + 1), by omega, j + 1, addF o g, x2, rfl, by omega, hg2, hn'.add hgl, by rw [hadd]; simp, Nat.le_trans hol' (addF_len _ _), rfl, I_wrap (by simp) (by omega) (by omega), hnx.symm⟩
            · simp +contextual -dsimp -implicitDefEqProofs (maxSteps := 5000000) only [go_sem, reduceIte, reduceCtorEq, Nat.reduceEqDiff, Nat.reduceBEq, Nat.reduceAdd, Nat.reduceLeDiff, Nat.reduceMul, Nat.reduceLT, Int.reduceEq, Int.reduceLT, Int.reduceLE, t2, t5, t6, t35, t36, t37, hLl, hg0]
              exact ⟨2 - (j + 1), by omega, j + 1, o, x', rfl, by omega, hg', hn', hne', hol', rfl, I_wrap (by simp) (by omega) (by omega), by rw [hnx, addF, if_neg (by rw [ha]; simp)]⟩
          · exact ⟨2 - (j + 1), by omega, j + 1, o, x', rfl, by omega, hg', hn', hne', hol', rfl, I_wrap (by simp) (by omega) (by omega), by rw [hnx, addF, if_neg (fun q => hg0 q.1)]⟩
        · have hj3 : j = 2 := by omega
          subst hj3
          have hq : h.length + 1 - i = (h.length + 1 - (i + 1)) + 1 := by omega
          rw [hq, bfsG, if_pos hlt] at he
          have ho' : o = addF (addF out (causeOf h (out.getD i default))) (ctxOf h (out.getD i default)) := ho
          exact ⟨_, by omega, i + 1, o, x', rfl, by omega, hn', hne', hg', rfl, I_wrap (by simp) (by omega) (by omega), by rw [ho']; exact he⟩
    · refine (c_SortG H H' x out hg hne (by omega)).mono ?_
      rintro _ H'' ⟨rfl, hg'⟩
      simp +contextual -dsimp -implicitDefEqProofs (maxSteps := 5000000) only [go_sem, reduceIte, reduceCtorEq, Nat.reduceEqDiff, Nat.reduceBEq, Nat.reduceAdd, Nat.reduceLeDiff, Nat.reduceMul, Nat.reduceLT, Int.reduceEq, Int.reduceLT, Int.reduceLE, t2, t5, t6, hlen]
      refine (c_ClipG (sortI out) x H H'' hg').mono fun r H3 hg3 => ?_
      simp +contextual -dsimp -implicitDefEqProofs (maxSteps := 5000000) only [go_sem, reduceIte, reduceCtorEq, Nat.reduceEqDiff, Nat.reduceBEq, Nat.reduceAdd, Nat.reduceLeDiff, Nat.reduceMul, Nat.reduceLT, Int.reduceEq, Int.reduceLT, Int.reduceLE, t2, t5, t6, hlen]
      have : bfsF h f = out := by
        rw [← he]
        cases hq : h.length + 1 - i with
        | zero => rfl
        | succ q => rw [bfsG, if_neg hlt]
      rw [this]; exact hg3
end
section
open Go Go.Sim
set_option maxRecDepth 100000

theorem c_misolate0 (h : List Fault) (cl : Bool) (f : Int) (H : AHeap) (hl : h.length ≤ 999999) (h0 : 0 ≤ f) (h1 : f < h.length) (hlk : ∀ k, k < h.length → (h.getD k default).cause < h.length ∧ (h.getD k default).ctx < h.length) (hm : ∀ a ∈ sortI (bfsF h f), 0 ≤ a ∧ a < h.length) (hll : (sortI (bfsF h f)).length ≤ 999999) :
    ACalls Tryz.prog 76 [aHeap h cl, I f] H fun r H' => ∃ x, r = .tup [.agg [x], I (idxF (fun x => decide (f = x)) (sortI (bfsF h f)))] ∧ Grow rFault 5 86 H H' x (isoL h (sortI (bfsF h f))) := by
  refine acalls_of1 Tryz.func76 rfl (by kernel_rfl) rfl rfl (awp_sound (fz := fun r => if r = 7 then [10] else []) (im := fun s => s == 2 || s == 42) mixed _ _ _ _ (by kernel_rfl) ?_)
  simp +contextual -dsimp -implicitDefEqProofs (maxSteps := 5000000) only [go_sem, reduceIte, reduceCtorEq, Nat.reduceEqDiff, Nat.reduceBEq, Nat.reduceAdd, Nat.reduceLeDiff, Nat.reduceMul, Nat.reduceLT, Int.reduceEq, Int.reduceLT, Int.reduceLE]
  intro b4 hb4
  refine acalls_frz (c_mreach h cl f _ (by omega) h0 h1 hlk) fun cl1 => ?_
  generalize sortI (bfsF h f) = L at hm hll ⊢
  simp +contextual -dsimp -implicitDefEqProofs (maxSteps := 5000000) only [go_sem, reduceIte, reduceCtorEq, Nat.reduceEqDiff, Nat.reduceBEq, Nat.reduceAdd, Nat.reduceLeDiff, Nat.reduceMul, Nat.reduceLT, Int.reduceEq, Int.reduceLT, Int.reduceLE]
  refine ⟨by omega, by omega, ?_⟩
  rintro bx ⟨x1, x2, hbx⟩ b7 ⟨n1, n2, n3, n4, hb7⟩
  have hgx : Grow rFault 5 86 H (H.set bx ⟨5, 86, []⟩) (.sl bx 5 0 0 false) [] := .inr ⟨bx, false, hbx, rfl, rfl⟩
  have hcm : ((H.set b4 ⟨1, 32, [[.vsl [] true]]⟩).set bx ⟨5, 86, []⟩).set b7 ⟨1, 32, [[.sl bx 5 0 0 false]]⟩ = ((H.set bx ⟨5, 86, []⟩).set b4 ⟨1, 32, [[.vsl [] true]]⟩).set b7 ⟨1, 32, [[.sl bx 5 0 0 false]]⟩ := by rw [set_comm (H := H) x2]
  rw [hcm]
  have e40 : (H.set bx ⟨5, 86, []⟩) b4 = none := by rw [set_other x2]; exact hb4
  have e70 : (H.set bx ⟨5, 86, []⟩) b7 = none := by rw [set_other n1]; exact hb7
  generalize H.set bx ⟨5, 86, []⟩ = H20 at hgx e40 e70 ⊢
  generalize AV.sl bx 5 0 0 false = x0 at hgx ⊢
  refine aloop mixed (fz := fun r => if r = 7 then [10] else []) (im := fun s => s == 2 || s == 42) (by kernel_rfl) (fun m tm H' => ∃ (k : Nat) (H2 : AHeap) (x : AV), m = L.length - k ∧ k ≤ L.length ∧ Grow rFault 5 86 H H2 x ((L.take k).map (isoAt h L)) ∧ H2 b4 = none ∧ H2 b7 = none ∧ H' = (H2.set b4 ⟨1, 32, [[.vsl [] true]]⟩).set b7 ⟨1, 32, [[x]]⟩ ∧
    tm 1 = I f ∧ tm 2 = .vptr [[.vsl (h.map rFault) cl]] 0 0 ∧ tm 4 = .ptr b4 1 0 0 ∧ tm 6 = .vsl (L.map rI) cl1 ∧ tm 7 = .ptr b7 1 0 0 ∧ tm 18 = .vsl (L.map rI) cl1 ∧ tm 19 = I L.length ∧ tm 20 = I k) L.length ⟨0, H20, x0, rfl, by omega, by simpa using hgx, e40, e70, rfl, ?_⟩ ?_
  · simp +contextual -dsimp -implicitDefEqProofs (maxSteps := 5000000) only [go_sem, reduceIte, reduceCtorEq, Nat.reduceEqDiff, Nat.reduceBEq, Nat.reduceAdd, Nat.reduceLeDiff, Nat.reduceMul, Nat.reduceLT, Int.reduceEq, Int.reduceLT, Int.reduceLE]
  · rintro m tm H' ⟨k, H2, x, rfl, hk, hg, e4, e7, rfl, t1, t2, t4, t6, t7, t18, t19, t20⟩
    obtain ⟨r1, r2⟩ := one_grow hg
    simp +contextual -dsimp -implicitDefEqProofs (maxSteps := 5000000) only [go_sem, reduceIte, reduceCtorEq, Nat.reduceEqDiff, Nat.reduceBEq, Nat.reduceAdd, Nat.reduceLeDiff, Nat.reduceMul, Nat.reduceLT, Int.reduceEq, Int.reduceLT, Int.reduceLE, t1, t2, t4, t6, t7, t18, t19, t20, r1, r2, n3, n4]
    refine ⟨fun hk0 => ?_, fun hk0 => ?_⟩
    · have hx := hm (L.getD k default) (by rw [List.getD_eq_getElem?_getD, List.getElem?_eq_getElem hk0]; exact List.getElem_mem hk0)
      have i0 := hx.1
      have i2 := hx.2
      have i1 : (L.getD k default).toNat < h.length := by omega
      simp +contextual -dsimp -implicitDefEqProofs (maxSteps := 5000000) only [go_sem, reduceIte, reduceCtorEq, Nat.reduceEqDiff, Nat.reduceBEq, Nat.reduceAdd, Nat.reduceLeDiff, Nat.reduceMul, Nat.reduceLT, Int.reduceEq, Int.reduceLT, Int.reduceLE, t1, t2, t4, t6, t7, t18, t19, t20, r1, r2, n3, n4, hk0, i0, i2, i1]
      rintro b9 ⟨m1, m2, m3, m4, hb9⟩
      refine draw_intro [0, 0, 0, 3, 0, 0, 1, 2, 0, 2, 0, 2] _ (by kernel_rfl) (AHeap.le_refl _) ?_
      simp +contextual -dsimp -implicitDefEqProofs (maxSteps := 5000000) only [go_sem, reduceIte, reduceCtorEq, Nat.reduceEqDiff, Nat.reduceBEq, Nat.reduceAdd, Nat.reduceLeDiff, Nat.reduceMul, Nat.reduceLT, Int.reduceEq, Int.reduceLT, Int.reduceLE, t1, t2, t4, t6, t7, t18, t19, t20, r1, r2, n3, n4, hk0, i0, i2, i1, m1, m2, m3, m4]
      refine (c_Index _ _ _ _).det ?_
      simp +contextual -dsimp -implicitDefEqProofs (maxSteps := 5000000) only [go_sem, reduceIte, reduceCtorEq, Nat.reduceEqDiff, Nat.reduceBEq, Nat.reduceAdd, Nat.reduceLeDiff, Nat.reduceMul, Nat.reduceLT, Int.reduceEq, Int.reduceLT, Int.reduceLE, t1, t2, t4, t6, t7, t18, t19, t20, r1, r2, n3, n4, hk0, i0, i2, i1, m1, m2, m3, m4]
      refine (c_Index _ _ _ _).det ?_
      simp +contextual -dsimp -implicitDefEqProofs (maxSteps := 5000000) only [go_sem, reduceIte, reduceCtorEq, Nat.reduceEqDiff, Nat.reduceBEq, Nat.reduceAdd, Nat.reduceLeDiff, Nat.reduceMul, Nat.reduceLT, Int.reduceEq, Int.reduceLT, Int.reduceLE, t1, t2, t4, t6, t7, t18, t19, t20, r1, r2, n3, n4, hk0, i0, i2, i1, m1, m2, m3, m4, hb9]
      have e74 : (H2.set b4 ⟨1, 32, [[.vsl [] true]]⟩) b7 = none := by rw [set_other n3]; exact e7
      refine grow_append (m := [isoAt h L (L.getD k default)]) te30 ti86 rFault_len (by decide) (grow_in (grow_in hg e4) e74) (by simp; omega) (by simp; omega) rfl fun x' H' hg' => ?_
      have f4 := grow_none hg e4
      have f7 := grow_none hg e7
      obtain ⟨G1, hg1, rfl, u7⟩ := grow_out hg' (by rw [set_other n3]; exact f7)
      obtain ⟨G3, hg3, rfl, u4⟩ := grow_out hg1 f4
      obtain ⟨r3, r4⟩ := one_grow hg3
      rw [set_other n3] at u7
      simp +contextual -dsimp -implicitDefEqProofs (maxSteps := 5000000) only [go_sem, reduceIte, reduceCtorEq, Nat.reduceEqDiff, Nat.reduceBEq, Nat.reduceAdd, Nat.reduceLeDiff, Nat.reduceMul, Nat.reduceLT, Int.reduceEq, Int.reduceLT, Int.reduceLE, t1, t2, t4, t6, t7, t18, t19, t20, r1, r2, r3, r4, n3, n4, hk0, i0, i2, i1, m1, m2, m3, m4]
      exact ⟨_, by omega, k + 1, G3, x', rfl, hk0, by rw [List.take_succ_eq_append_getElem hk0, List.map_append]; simpa [List.getD_eq_getElem?_getD, hk0] using hg3, u4, u7, rfl, I_wrap (by omega) (by omega) (by omega)⟩
    · refine draw_intro [1, 0, 0, 3, 2, 0] _ (by kernel_rfl) (AHeap.le_refl _) ?_
      simp +contextual -dsimp -implicitDefEqProofs (maxSteps := 5000000) only [go_sem, reduceIte, reduceCtorEq, Nat.reduceEqDiff, Nat.reduceBEq, Nat.reduceAdd, Nat.reduceLeDiff, Nat.reduceMul, Nat.reduceLT, Int.reduceEq, Int.reduceLT, Int.reduceLE, t1, t2, t4, t6, t7, t18, t19, t20, r1, r2, n3, n4]
      refine (c_Index _ _ _ _).det ?_
      simp +contextual -dsimp -implicitDefEqProofs (maxSteps := 5000000) only [go_sem, reduceIte, reduceCtorEq, Nat.reduceEqDiff, Nat.reduceBEq, Nat.reduceAdd, Nat.reduceLeDiff, Nat.reduceMul, Nat.reduceLT, Int.reduceEq, Int.reduceLT, Int.reduceLE, t1, t2, t4, t6, t7, t18, t19, t20, r1, r2, n3, n4]
      rw [List.take_of_length_le (by omega)] at hg
      refine retR_less (l := [.agg [x], I (idxF (fun x => decide (f = x)) L)]) (H' := H2) ?_ (fun c k hc => ?_) ⟨x, rfl, hg⟩
      · simp only [resA, ↓aw_skip, ↓aw_ret, ↓aw_exit, ↓aw_region, ↓aw_draw, ↓aw_seq, ↓aw_block, ↓aw_loop, ↓aw_cond, ↓frz_nil, ↓frz_cons, frzV_ptr, frzV_sl, frzK_some, set_none, set_other, AHeap.set_self, set_del, set_set, cnd_t, cnd_f, cnd_b, ↓sq_normal, ↓sq_ret, ↓sq_exit, ↓exB_normal, ↓exB_ret, ↓exB_same, ↓exB_other, ↓retQ_ret, ↓retQ_normal, ↓ret0_ret, ↓ret0_normal, retA_one, retA_two, retA_three, retA_four, retA_nil, ↓ao_nil, ↓go1, ↓g_move, ↓g_assign, ↓g_pick, ↓g_build, ↓g_load, ↓g_binOp, ↓g_unOp, ↓g_convert, ↓g_fieldAddr, ↓g_field, ↓g_indexAddr, ↓g_index, ↓g_extract, ↓g_lookup, ↓g_slice, ↓g_nilCheck, ↓g_len, ↓g_makeFunc, ↓h_call, ↓h_append, ↓h_alloc, ↓h_box, ↓h_buildSlice, ↓h_makeSlice, ↓h_store, gIf_b, mrgV_b, mrgV_wh, mrgV_U, gIf_U, gIf_wh, mrgB_f, mrgB_some, mrgB_if, wh_true, wh_false, keepA_some, keepA_if, ↓gV, gD_zero, gD_succ, gT_some, ↓i_box, ↓i_buildSlice, bxA_t, bxA_f, ↓i_move, ↓i_assign, ↓i_build, ↓i_load, ↓i_binOp, ↓i_unOp, ↓i_convert, ↓i_fieldAddr, ↓i_field, ↓i_indexAddr, ↓i_index, ↓i_extract, ↓i_lookup, ↓i_makeMap, ↓i_mapUpdate, ↓i_slice, ↓i_nilCheck, ↓i_makeFunc, ↓i_len, ↓i_max, ↓i_min, ↓i_alloc, ↓i_makeSlice, ↓i_store, ↓i_append, ↓i_call, ↓i_pick, ↓boxI, ↓boxA, ↓buildSliceI, ↓buildSliceA, ↓makeSliceA, ↓makeMapA, ↓allocA, ↓storeA, ↓p_move, ↓p_assign, ↓p_pick, ↓p_build, ↓p_load, ↓p_binOp, ↓p_unOp, ↓p_convert, ↓p_fieldAddr, ↓p_field, ↓p_indexAddr, ↓p_index, ↓p_extract, ↓p_lookup, ↓p_makeMap, ↓p_mapUpdate, ↓p_slice, ↓p_nilCheck, ↓p_makeFunc, ↓p_len, ↓p_max, ↓p_min, ↓p_alloc, ↓p_box, ↓p_buildSlice, ↓p_makeSlice, ↓p_store, ↓p_append, ↓p_call, callA_fn, ev_tmp, ev_const, ev_global, ev_func, oc_bool, oc_int, oc_string, oc_nil, oc_nilptr, oc_nilfunc, cl_bool, cl_int, cl_string, cl_nil, updO_some, updO_none, upd_same, upd_other, init_at, pickA_b, pickA_wh, selA_t, selA_f, selA_and, selA_or, selA_orn, selA_orm, selA_bb, selA_ii, beqt, b_add, b_sub, b_mul, b_and, b_or, b_xor, b_eql, b_neq, b_lss, b_leq, b_gtr, b_geq, b_quo, b_rem, b_shr, b_seql, b_sneq, b_sadd, b_beql, b_bneq, b_aeql, b_aneq, u_not, u_neg, isConstOp, eqA, eqCellV, List.getD_cons_zero, List.getD_cons_succ, List.map_cons, List.map_nil, List.nil_append, List.cons_append, List.append_nil, if_true, if_false, Option.map_some, Option.map_none, reduceIte, reduceCtorEq, Nat.reduceEqDiff, ne_eq, not_false_eq_true, Nat.reduceBEq, oneA, ldv, ld1v, ld1s, wr1s, ldRow, stRow, row_lit, row_agg, row_vsl, row_sl, row_ptr, row_fn, one_I, one_B, one_S, one_vsl, one_sl, one_ptr, one_fn, extractA, okA, rI, rS, rU, rClass, rFault, rExit, rStart, rLine, Int.toNat_natCast, List.length_cons, List.length_nil, List.length_map, List.all_cons, List.all_nil, Bool.and_true, Nat.reduceAdd, Nat.zero_add, List.getElem?_cons_zero, List.getElem?_cons_succ, List.take_succ_cons, List.take_zero, List.drop_succ_cons, List.drop_zero, Nat.reduceLeDiff, and_self, true_and, and_true, implies_true, decide_eq_true_eq, decide_eq_false_iff_not, Bool.or_eq_true, Bool.or_eq_false_iff, Bool.and_eq_true, Bool.not_eq_true', Bool.not_eq_false', beq_false, decide_true, decide_false, Int.ofNat_lt, Int.ofNat_le, Int.natCast_nonneg, Bool.or_true, Bool.or_false, Bool.true_or, Bool.false_or, beq_self_eq_true, Nat.reduceMul, List.drop_one, Bool.not_true, Bool.not_false, Bool.not_not, Bool.false_eq_true, Bool.true_eq_false, false_implies, true_implies, Bool.true_and, Bool.false_and, Bool.and_false, if_true, if_false, not_true_eq_false, Nat.reduceLT, Int.natCast_eq_zero, Int.natCast_pos, Int.natCast_zero, false_and, and_false, or_false, false_or, or_true, true_or, Bool.or_self, ↓x_nil, ↓x_go1, ↓x_g0, ↓x_g1, ↓x_g2, ↓x_g3, ↓x_s0, ↓x_s1, ↓x_s2, ↓x_s3, none_le_iff, ↓u_move, ↓u_assign, ↓u_pick, ↓u_build, ↓u_load, ↓u_binOp, ↓u_unOp, ↓u_convert, ↓u_fieldAddr, ↓u_field, ↓u_indexAddr, ↓u_index, ↓u_extract, ↓u_lookup, ↓u_slice, ↓u_nilCheck, ↓u_makeFunc, ↓u_len, List.replicate_zero, Int.toNat_zero, List.replicate_succ, buildRows, List.set_cons_zero, List.set_cons_succ, List.set_nil, List.mapM_nil, maxLen_eq, Nat.zero_le, Nat.mul_one, Nat.one_mul, bldA, fillA, spliceA, List.take_nil, List.drop_nil, List.getElem?_nil, Int.reduceEq, Int.reduceLT, Int.reduceLE, decide_eq_true_eq, ld1o, wr1o, ↓u_buildSlice, bldSliceA, le_same, ti1, ti2, tk2, ti3, te3, ts3, tk3, tz3, ti4, tb4, ti5, tk5, tz5, ti9, te9, ts9, tk9, tz9, ti12, tk12, ti13, tp13, tf13_0, tf13_1, ti20, ti21, tk21, tz21, ti22, te22, tz22, ti23, te23, ti24, tp24, tf24_0, ti25, tp25, tf25_0, ti26, te26, ti28, ti29, te29, ti30, te30, ti31, tp31, tf31_0, ti32, tp32, tf32_0, ti33, tp33, tf33_0, tf33_1, tf33_2, tf33_3, ti34, tp34, tf34_0, tf34_1, tf34_2, tf34_3, ti35, ti36, ti37, ti38, ti40, ti42, ti43, ti44, tq44, tp44, tf44_0, tf44_1, tf44_2, ti45, tq45, tp45, tf45_0, tf45_1, tf45_2, ti47, ti48, ti49, tq49, tp49, tf49_0, tf49_1, tf49_2, tf49_3, ti50, tq50, tp50, tf50_0, tf50_1, tf50_2, tf50_3, ti51, ti52, ti54, ti55, ti56, ti57, te57, ti59, ti60, ti61, ti62, ti63, ti64, ti65, ti66, ti67, ti68, tq68, tp68, tf68_0, tf68_1, ti69, tq69, tp69, tf69_0, tf69_1, ti70, ti71, ti72, ti73, ti74, ti75, ti77, ti78, ti79, ti80, ti81, ti82, ti83, ti84, ti85, tq85, tp85, tf85_0, tf85_1, tf85_2, tf85_3, tf85_4, ti86, tq86, tp86, tf86_0, tf86_1, tf86_2, tf86_3, tf86_4, ti87, ti88, ti89, ti90, ti91, ti93, ti94, ti95, ti96, ti97, tq97, tp97, tf97_0, tf97_1, tf97_2, ti98, tq98, tp98, tf98_0, tf98_1, tf98_2, ti99, ti100, ti101, ti102, ti103, ti104, ti105, ti106, ti107, tp107, tf107_0, tf107_1, ti108, tp108, tf108_0, tf108_1, ti109, tp109, tf109_0, tf109_1, tf109_2, tf109_3, tf109_4, ti110, tp110, tf110_0, tf110_1, tf110_2, tf110_3, tf110_4, ti111, ti113, ti114, ti115, ti116, ti117, ti118, ti119, ti120, tp120, tf120_0, tf120_1, tf120_2, tf120_3, ti121, tp121, tf121_0, tf121_1, tf121_2, tf121_3, ti122, tq122, tp122, tf122_0, tf122_1, ti123, tq123, tp123, tf123_0, tf123_1, ti124, ti125, ti126, tq126, tp126, tf126_0, tf126_1, ti127, tq127, tp127, tf127_0, tf127_1, ti128, ti129, ti130, ti131, ti132, ti133, te133, ti134, ti135, ti136, ti137, ti138, ti139, ti140, ti141, ti142, ti143, ti144, tp144, tf144_0, tf144_1, tf144_2, ti145, tp145, tf145_0, tf145_1, tf145_2, ti146, ti147, ti148, ti149, ti150, te150, ti151, ti152, ti153, ti154, ti155, ti156, ti157, ti158, ti159, ti160, ti161, ti162, ti163, ti164, ti165, ti166, ti167, ti168, ti169, ti170, ti171, ti172, ti173, ti174, ti175, tk175, tz175, ti176, ti177, ti178, ti179, ti180, tk180, ti182, ti183, ti184, ti186, ti187, ti188, tk188, tz188, ti189, ti190, tk190, tz190, ti191, tk191, ti192, ti193, ti194, ti195, ti196, ti197, ti199, ti200, ti206, ti210, ti215, fp13_0, fv13_0, fp13_1, fv13_1, fp24_0, fv24_0, fp25_0, fv25_0, fp31_0, fv31_0, fp32_0, fv32_0, fp33_0, fv33_0, fp33_1, fv33_1, fp33_2, fv33_2, fp33_3, fv33_3, fp34_0, fv34_0, fp34_1, fv34_1, fp34_2, fv34_2, fp34_3, fv34_3, fp44_0, fv44_0, fp44_1, fv44_1, fp44_2, fv44_2, fp45_0, fv45_0, fp45_1, fv45_1, fp45_2, fv45_2, fp49_0, fv49_0, fp49_1, fv49_1, fp49_2, fv49_2, fp49_3, fv49_3, fp50_0, fv50_0, fp50_1, fv50_1, fp50_2, fv50_2, fp50_3, fv50_3, fp68_0, fv68_0, fp68_1, fv68_1, fp69_0, fv69_0, fp69_1, fv69_1, fp85_0, fv85_0, fp85_1, fv85_1, fp85_2, fv85_2, fp85_3, fv85_3, fp85_4, fv85_4, fp86_0, fv86_0, fp86_1, fv86_1, fp86_2, fv86_2, fp86_3, fv86_3, fp86_4, fv86_4, fp97_0, fv97_0, fp97_1, fv97_1, fp97_2, fv97_2, fp98_0, fv98_0, fp98_1, fv98_1, fp98_2, fv98_2, fp107_0, fv107_0, fp107_1, fv107_1, fp108_0, fv108_0, fp108_1, fv108_1, fp109_0, fv109_0, fp109_1, fv109_1, fp109_2, fv109_2, fp109_3, fv109_3, fp109_4, fv109_4, fp110_0, fv110_0, fp110_1, fv110_1, fp110_2, fv110_2, fp110_3, fv110_3, fp110_4, fv110_4, fp120_0, fv120_0, fp120_1, fv120_1, fp120_2, fv120_2, fp120_3, fv120_3, fp121_0, fv121_0, fp121_1, fv121_1, fp121_2, fv121_2, fp121_3, fv121_3, fp122_0, fv122_0, fp122_1, fv122_1, fp123_0, fv123_0, fp123_1, fv123_1, fp126_0, fv126_0, fp126_1, fv126_1, fp127_0, fv127_0, fp127_1, fv127_1, fp144_0, fv144_0, fp144_1, fv144_1, fp144_2, fv144_2, fp145_0, fv145_0, fp145_1, fv145_1, fp145_2, fv145_2, lv22, ll22, is22, ix22, sh22, so22, sb22, sm22, sp22, lv23, ll23, is23, ix23, sh23, so23, sb23, sm23, sp23, lv26, ll26, is26, ix26, sh26, so26, sb26, sm26, sp26, lv29, ll29, is29, ix29, sh29, so29, sb29, sm29, sp29, lv30, ll30, is30, ix30, sh30, so30, sb30, sm30, sp30, lv57, ll57, is57, ix57, sh57, so57, sb57, sm57, sp57, lv133, ll133, is133, sp133, lv150, ll150, is150, ix150, sh150, so150, sb150, sm150, sp150, xs9, ls9, sx9, sy9, sz9, n3, n4, t4, ld_o, ldO_1]
      · have c1 : c ≠ b4 := fun e => by rw [e, e4] at hc; cases hc
        have c2 : c ≠ b7 := fun e => by rw [e, e7] at hc; cases hc
        rw [set_other c2, set_other c1]; exact hc
theorem rFault_nov (y : Fault) : ∀ c ∈ rFault y, NoV c := by
  intro c hc
  simp only [rFault, List.mem_cons, List.not_mem_nil, or_false] at hc
  rcases hc with rfl | rfl | rfl | rfl | rfl <;> exact .lit _
theorem bfsF_ne (h : List Fault) (f : Int) : bfsF h f ≠ [] := by
  have key : ∀ (n i : Nat) (out : List Int), out ≠ [] → bfsG h n i out ≠ [] := by
    intro n
    induction n with
    | zero => intro i out hne; exact hne
    | succ n ih =>
      intro i out hne
      simp only [bfsG]
      split
      · refine ih _ _ fun e => hne ?_
        have h1 := addF_len out (causeOf h (out.getD i default))
        have h2 := addF_len (addF out (causeOf h (out.getD i default))) (ctxOf h (out.getD i default))
        rw [e] at h2
        exact List.eq_nil_of_length_eq_zero (by simp only [List.length_nil] at h2; omega)
      · exact hne
  exact key _ _ _ (by simp)
theorem sortI_ne {l : List Int} (h : l ≠ []) : sortI l ≠ [] := fun e => h (List.eq_nil_of_length_eq_zero (by rw [← sortI_len, e]; rfl))
theorem bfsF_nums {h : List Fault} (hlk : ∀ k, k < h.length → (h.getD k default).cause < h.length ∧ (h.getD k default).ctx < h.length) {f : Int} (h0 : 0 ≤ f) (h1 : f < h.length) : Nums h.length (bfsF h f) := by
  have key : ∀ (n i : Nat) (out : List Int), Nums h.length out → Nums h.length (bfsG h n i out) := by
    intro n
    induction n with
    | zero => intro i out h; exact h
    | succ n ih =>
      intro i out hn
      simp only [bfsG]
      split
      · rename_i hi
        have hm := hn.mem (out.getD i default) (by rw [List.getD_eq_getElem?_getD, List.getElem?_eq_getElem hi]; exact List.getElem_mem hi)
        have hk := hlk (out.getD i default).toNat (by omega)
        exact ih _ _ ((hn.add hk.1).add hk.2)
      · exact hn
  exact key _ _ _ (Nums.one h0 h1)
theorem sortI_mem {l : List Int} {a : Int} : a ∈ sortI l ↔ a ∈ l := List.mem_mergeSort
theorem heapOk_links {fs : List Fault} (ho : heapOk fs) : ∀ k, k < fs.length → (fs.getD k default).cause < fs.length ∧ (fs.getD k default).ctx < fs.length := fun k hk => by
  have := ho k hk; omega

/-- What is left of a machine. -/
theorem c_ClipX (l : List Int) (x : AV) (H0 H : AHeap) (hg : Grow rI 1 3 H0 H x l) : ∃ x', Grow rI 1 3 H0 H x' l ∧ ∀ K, ACalls Tryz.prog 75 [x] K fun r K' => r = x' ∧ K' = K := by
  rcases hg with ⟨rfl, rfl, rfl⟩ | ⟨b, cl, hb, rfl, rfl⟩
  · exact ⟨.vsl [] true, .inl ⟨rfl, rfl, rfl⟩, fun K => c_ClipV [] true K⟩
  · refine ⟨.sl b 1 0 l.length true, .inr ⟨b, true, hb, rfl, rfl⟩, fun K => ?_⟩
    refine acalls_of0 Tryz.func75 rfl (by kernel_rfl) rfl rfl (awp_sound (fz := fun _ => []) (im := fun _ => false) mixed _ _ _ _ (by kernel_rfl) ?_)
    simp +contextual -dsimp -implicitDefEqProofs (maxSteps := 5000000) only [go_sem, reduceIte, reduceCtorEq, Nat.reduceEqDiff, Nat.reduceBEq, Nat.reduceAdd, Nat.reduceLeDiff, Nat.reduceMul, Nat.reduceLT, Int.reduceEq, Int.reduceLT, Int.reduceLE]
    simp
theorem c_misolateG (fs : List Fault) (x : AV) (val : Int) (H0 H : AHeap) (hg : Grow rFault 5 86 H0 H x fs) (K : ABlk) (c : Nat) (ho : heapOk fs) (hl : fs.length ≤ 999999) (h0 : 0 ≤ val) (h1 : val < fs.length) :
    ACalls Tryz.prog 76 [.agg [x], I val] H fun r H' => ∃ y, r = .tup [.agg [y], I (idxF (fun x => decide (val = x)) (sortI (bfsF fs val)))] ∧ Grow rFault 5 86 H H' y (isoL fs (sortI (bfsF fs val))) := by
  obtain ⟨cl, hz⟩ := grow_froz hg
  have hn := bfsF_nums (heapOk_links ho) h0 h1
  have hm : ∀ a ∈ sortI (bfsF fs val), 0 ≤ a ∧ a < fs.length := fun a ha => hn.mem a (sortI_mem.1 ha)
  have hlen : (sortI (bfsF fs val)).length ≤ 999999 := by rw [sortI_len]; have := hn.free; omega
  refine acalls_borrowX [aHeap fs cl, I val] (.cons (.agg rfl ?_) (.cons (.same _) .nil)) (c_misolate0 fs cl val AHeap.none hl h0 h1 (heapOk_links ho) hm hlen) ?_
  · intro i c c' q1 q2
    cases i with
    | zero => simp at q1 q2; subst q1; subst q2; exact hz
    | succ i => simp at q1
  · rintro _ K ⟨y, rfl, hy⟩
    have hne : isoL fs (sortI (bfsF fs val)) ≠ [] := fun e => sortI_ne (bfsF_ne fs val) (by simpa [isoL] using e)
    obtain ⟨v1, v2⟩ := grow_nov hy hne rFault_nov
    refine ⟨.tup _ ?_, v2, fun hd => ⟨y, rfl, grow_un hy hd⟩⟩
    intro c hc
    simp only [List.mem_cons, List.not_mem_nil, or_false] at hc
    rcases hc with rfl | rfl
    · exact .agg _ fun c hc => by simp at hc; subst hc; exact v1
    · exact .lit _
theorem c_mresult (F H : AHeap) (bm : Nat) (t p : AV) (log : List Int) (fs : List Fault) (first : Int) (ed val : Int) (hM : Mach F H bm t p log fs first) (ho : heapOk fs) (hl : fs.length ≤ 999999) (hv : ed = 2 → 0 ≤ val ∧ val < fs.length) :
    ACalls Tryz.prog 35 [.ptr bm 5 0 0, .agg [I ed, I val]] H fun r H' => ∃ xl xh G1, r = .agg [xl, I ed, I (if ed = 2 then idxF (fun x => decide (val = x)) (sortI (bfsF fs val)) else val), xh] ∧ Grow rI 1 3 F G1 xl log ∧ Grow rFault 5 86 G1 H' xh (if ed = 2 then isoL fs (sortI (bfsF fs val)) else []) := by
  obtain ⟨xl, xf, H1, H2, hF, hg1, hg2, hb, rfl⟩ := hM
  obtain ⟨xl', hgl, hclip⟩ := c_ClipX log xl F H1 hg1
  obtain ⟨r1, r2⟩ := one_grow hgl
  refine acalls_of1 Tryz.func35 rfl (by kernel_rfl) rfl rfl (awp_sound (fz := fun _ => []) (im := fun s => s == 3) mixed _ _ _ _ (by kernel_rfl) ?_)
  simp +contextual -dsimp -implicitDefEqProofs (maxSteps := 5000000) only [go_sem, reduceIte, reduceCtorEq, Nat.reduceEqDiff, Nat.reduceBEq, Nat.reduceAdd, Nat.reduceLeDiff, Nat.reduceMul, Nat.reduceLT, Int.reduceEq, Int.reduceLT, Int.reduceLE]
  rintro b4 ⟨n1, n2, hb4⟩
  refine draw_introQ [4] [0, 0, 0, 1, 4, 0, 1, 0, 1, 0, 3, 2] (fun _ => xl') _ (by kernel_rfl) (AHeap.le_refl _) ?_
  simp +contextual -dsimp -implicitDefEqProofs (maxSteps := 5000000) only [go_sem, reduceIte, reduceCtorEq, Nat.reduceEqDiff, Nat.reduceBEq, Nat.reduceAdd, Nat.reduceLeDiff, Nat.reduceMul, Nat.reduceLT, Int.reduceEq, Int.reduceLT, Int.reduceLE, n1, n2]
  refine ⟨fun H' _ => hclip H', ?_⟩
  simp +contextual -dsimp -implicitDefEqProofs (maxSteps := 5000000) only [go_sem, reduceIte, reduceCtorEq, Nat.reduceEqDiff, Nat.reduceBEq, Nat.reduceAdd, Nat.reduceLeDiff, Nat.reduceMul, Nat.reduceLT, Int.reduceEq, Int.reduceLT, Int.reduceLE, n1, n2, r1, r2]
  rintro b5 ⟨m1, m2, m3, m4, hb5⟩
  have hbm5 : (H2.set bm ⟨5, 110, [[t, p, xl, xf, I first]]⟩) b5 = none := by rw [set_other m3]; exact hb5
  have hbm4 : (H2.set bm ⟨5, 110, [[t, p, xl, xf, I first]]⟩) b4 = none := by rw [set_other n1]; exact hb4
  have hle0 : ∀ K L : ABlk, AHeap.le ((H2.set bm ⟨5, 110, [[t, p, xl, xf, I first]]⟩).set b4 K) (((H2.set bm ⟨5, 110, [[t, p, xl, xf, I first]]⟩).set b4 K).set b5 L) := fun K L => le_set (by rw [set_other m1]; exact hbm5)
  by_cases he : ed = 2
  · obtain ⟨v1, v2⟩ := hv he
    simp +contextual -dsimp -implicitDefEqProofs (maxSteps := 5000000) only [go_sem, reduceIte, reduceCtorEq, Nat.reduceEqDiff, Nat.reduceBEq, Nat.reduceAdd, Nat.reduceLeDiff, Nat.reduceMul, Nat.reduceLT, Int.reduceEq, Int.reduceLT, Int.reduceLE, n1, n2, m1, m2, m3, m4, r1, r2, he]
    refine ⟨hle0 _ _, ?_⟩
    refine draw_intro [0, 0, 0, 0, 0, 0, 2, 0, 0, 0, 0, 2, 0, 2] AHeap.none (by kernel_rfl) none_le ?_
    simp +contextual -dsimp -implicitDefEqProofs (maxSteps := 5000000) only [go_sem, reduceIte, reduceCtorEq, Nat.reduceEqDiff, Nat.reduceBEq, Nat.reduceAdd, Nat.reduceLeDiff, Nat.reduceMul, Nat.reduceLT, Int.reduceEq, Int.reduceLT, Int.reduceLE, n1, n2, m1, m2, m3, m4, r1, r2, he]
    refine (c_misolateG fs xf val _ _ (grow_in (grow_in (grow_in hg2 hb) hbm4) (by rw [set_other m1]; exact hbm5)) ⟨0, 0, []⟩ 0 ho hl v1 v2).mono ?_
    rintro _ H' ⟨y, rfl, hy⟩
    obtain ⟨G1, hy1, rfl, u5⟩ := grow_out hy (by rw [set_other m1]; exact hbm5)
    obtain ⟨G2, hy2, rfl, u4⟩ := grow_out hy1 hbm4
    obtain ⟨G3, hy3, rfl, u3⟩ := grow_out hy2 hb
    obtain ⟨G4, hy4, hy5⟩ := grow_swap hg2 hy3
    obtain ⟨r3, r4⟩ := one_grow hy4
    simp +contextual -dsimp -implicitDefEqProofs (maxSteps := 5000000) only [go_sem, reduceIte, reduceCtorEq, Nat.reduceEqDiff, Nat.reduceBEq, Nat.reduceAdd, Nat.reduceLeDiff, Nat.reduceMul, Nat.reduceLT, Int.reduceEq, Int.reduceLT, Int.reduceLE, n1, n2, m1, m2, m3, m4, r1, r2, r3, r4, he]
    refine retR_less (l := [.agg [xl', I 2, I (idxF (fun x => decide (val = x)) (sortI (bfsF fs val))), y]]) (H' := G4) ?_ ?_ ⟨xl', y, H1, rfl, hgl, hy4⟩
    · simp only [resA, go_sem, reduceIte, reduceCtorEq, Nat.reduceEqDiff, Nat.reduceBEq, Nat.reduceAdd, Nat.reduceLeDiff, Nat.reduceMul, Nat.reduceLT, Int.reduceEq, Int.reduceLT, Int.reduceLE, n1, n2, m1, m2, m3, m4]
    · refine AHeap.le_trans (grow_le hy5) (AHeap.le_trans (le_set u3) (AHeap.le_trans (le_set u4) (le_set (by rw [set_other m1] at u5 ⊢; exact u5))))
  · simp +contextual -dsimp -implicitDefEqProofs (maxSteps := 5000000) only [go_sem, reduceIte, reduceCtorEq, Nat.reduceEqDiff, Nat.reduceBEq, Nat.reduceAdd, Nat.reduceLeDiff, Nat.reduceMul, Nat.reduceLT, Int.reduceEq, Int.reduceLT, Int.reduceLE, n1, n2, m1, m2, m3, m4, r1, r2, he]
    refine ⟨hle0 _ _, ?_⟩
    refine retR_less (l := [.agg [xl', I ed, I val, .vsl [] true]]) (H' := H1) ?_ ?_ ⟨xl', .vsl [] true, H1, rfl, hgl, .inl ⟨rfl, rfl, rfl⟩⟩
    · simp only [resA, go_sem, reduceIte, reduceCtorEq, Nat.reduceEqDiff, Nat.reduceBEq, Nat.reduceAdd, Nat.reduceLeDiff, Nat.reduceMul, Nat.reduceLT, Int.reduceEq, Int.reduceLT, Int.reduceLE, n1, n2, m1, m2, m3, m4]
    · exact AHeap.le_trans (grow_le hg2) (AHeap.le_trans (le_set hb) (AHeap.le_trans (le_set hbm4) (hle0 _ _)))
end
section
open Go Go.Sim
set_option maxRecDepth 100000

/-- A result of its own blocks. -/
def OwnRes (F H : AHeap) (r : AV) (R : Res) : Prop := ∃ xl xh G1, r = .agg [xl, I R.ed, I R.val, xh] ∧ Grow rI 1 3 F G1 xl R.log ∧ Grow rFault 5 86 G1 H xh R.heap
def res0 : Res := ⟨[], 0, 0, []⟩
theorem own0 (H : AHeap) : OwnRes H H (.agg [.vsl [] true, I 0, I 0, .vsl [] true]) res0 := ⟨_, _, H, rfl, .inl ⟨rfl, rfl, rfl⟩, .inl ⟨rfl, rfl, rfl⟩⟩
theorem own_out {F H : AHeap} {r : AV} {R : Res} {c : Nat} {K : ABlk} (h : OwnRes (F.set c K) H r R) (hc : F c = none) : ∃ H', H = H'.set c K ∧ OwnRes F H' r R ∧ H' c = none := by
  obtain ⟨xl, xh, G1, h1, h2, h3⟩ := h
  obtain ⟨G2, k1, rfl, k2⟩ := grow_out h2 hc
  obtain ⟨G3, k3, rfl, k4⟩ := grow_out h3 k2
  exact ⟨G3, rfl, ⟨xl, xh, G2, h1, k1, k3⟩, k4⟩
theorem own_row {F H : AHeap} {r : AV} {R : Res} (h : OwnRes F H r R) : ∃ xl xh, r = .agg [xl, I R.ed, I R.val, xh] ∧ xl.one = true ∧ xh.one = true := by
  obtain ⟨xl, xh, G1, h1, h2, h3⟩ := h
  exact ⟨xl, xh, h1, (one_grow h2).2, (one_grow h3).2⟩
abbrev aRes (R : Res) (c1 c2 : Bool) : AV := .agg [.vsl (R.log.map rI) c1, I R.ed, I R.val, .vsl (R.heap.map rFault) c2]
theorem own_frz {P : Program} {f : FuncId} {args : List AV} {H : AHeap} {R : Res} (h : ACalls P f args H fun r H' => OwnRes H H' r R) : ACalls P f args H fun r H' => (∃ c1 c2, r = aRes R c1 c2) ∧ H' = H := by
  refine acalls_fz h ?_
  rintro _ H' ⟨xl, xh, G1, rfl, h2, h3⟩
  have hle := AHeap.le_trans (grow_le h2) (grow_le h3)
  obtain ⟨c2, z2⟩ := grow_fz h3
  have hz1 : ∃ c1, Fz H' H xl (.vsl (R.log.map rI) c1) := by
    rcases h2 with ⟨e1, e2, e3⟩ | ⟨b, cl, hb, rfl, rfl⟩
    · rw [e1, e2]; exact ⟨true, .same _⟩
    · refine ⟨cl, ?_⟩
      have hk : H' b = some ⟨1, 3, R.log.map rI⟩ := grow_le h3 b _ (AHeap.set_self ..)
      have := Fz.sl (H := H') (K := H) (b := b) (sz := 1) (off := 0) (len := R.log.length) (cl := cl) hk rfl (by simp) hb
      simpa [List.take_of_length_le] using this
  have hz2 : ∃ c2, Fz H' H xh (.vsl (R.heap.map rFault) c2) := by
    rcases h3 with ⟨e1, e2, e3⟩ | ⟨b, cl, hb, rfl, rfl⟩
    · rw [e1, e2]; exact ⟨true, .same _⟩
    · refine ⟨cl, ?_⟩
      have hn : H b = none := by
        cases hq : H b with
        | none => rfl
        | some k => rw [grow_le h2 b k hq] at hb; cases hb
      have := Fz.sl (H := G1.set b ⟨5, 86, R.heap.map rFault⟩) (K := H) (b := b) (sz := 5) (off := 0) (len := R.heap.length) (cl := cl) (AHeap.set_self ..) rfl (by simp) hn
      simpa [List.take_of_length_le] using this
  obtain ⟨c1, z1⟩ := hz1
  obtain ⟨c2, z2⟩ := hz2
  exact ⟨_, H, hle, fz_agg (.cons z1 (.cons (.same _) (.cons (.same _) (.cons z2 .nil)))), ⟨c1, c2, rfl⟩, rfl⟩

/-- What the program's exits end with. -/
def resM (s : Clo) : Res :=
  if 0 ≤ s.cur then ⟨s.log, 2, idxF (fun x => decide (s.cur = x)) (sortI (bfsF s.fs s.cur)), isoL s.fs (sortI (bfsF s.fs s.cur))⟩ else ⟨s.log, 0, 0, []⟩
theorem closeX_ok {t : List Class} {l : List Exi} {x : Sta} (hv : validX t l = true) (hs : startOk t x = true) : CloOk t (closeX t l x) l.length := by
  have key : ∀ k, k ≤ l.length → CloOk t ((l.reverse.take k).foldl (stepX t) (startX x)) k := by
    intro k
    induction k with
    | zero => intro _; exact CloOk.start hs
    | succ k ih =>
      intro hk
      rw [rev_take hk, List.foldl_append]
      exact (ih (by omega)).step (validX_at hv (by omega))
  have := key l.length (Nat.le_refl _)
  rw [List.take_of_length_le (by simp)] at this
  exact this
theorem c_mcloseExits (t : List Class) (cl : Bool) (l : List Exi) (cl' : Bool) (x : Sta) (H : AHeap) (hv : validX t l = true) (hs : startOk t x = true) :
    ACalls Tryz.prog 62 [aTree t cl, .vsl (l.map rExit) cl', .agg (rStart x)] H fun r H' => OwnRes H H' r (resM (closeX t l x)) := by
  have hok := closeX_ok hv hs
  have hl8 := (validX_T hv).2
  refine acalls_of1 Tryz.func62 rfl (by kernel_rfl) rfl rfl (awp_sound (fz := fun _ => []) (im := fun s => s == 3 || s == 5) mixed _ _ _ _ (by kernel_rfl) ?_)
  simp +contextual -dsimp -implicitDefEqProofs (maxSteps := 5000000) only [go_sem, reduceIte, reduceCtorEq, Nat.reduceEqDiff, Nat.reduceBEq, Nat.reduceAdd, Nat.reduceLeDiff, Nat.reduceMul, Nat.reduceLT, Int.reduceEq, Int.reduceLT, Int.reduceLE]
  intro b6 hb6
  refine (c_machineOf t cl _ [] true).mono ?_
  rintro _ H1 ⟨bm, rfl, hM⟩
  simp +contextual -dsimp -implicitDefEqProofs (maxSteps := 5000000) only [go_sem, reduceIte, reduceCtorEq, Nat.reduceEqDiff, Nat.reduceBEq, Nat.reduceAdd, Nat.reduceLeDiff, Nat.reduceMul, Nat.reduceLT, Int.reduceEq, Int.reduceLT, Int.reduceLE]
  refine (c_mclosed _ H1 bm t cl _ (-1) l cl' x hM hv hs).mono ?_
  rintro _ H2 ⟨rfl, hM2⟩
  generalize closeX t l x = s at hok hM2 ⊢
  have hcur := hok.cur
  have hlen := hok.len
  by_cases hc : s.cur < 0
  · simp +contextual -dsimp -implicitDefEqProofs (maxSteps := 5000000) only [go_sem, reduceIte, reduceCtorEq, Nat.reduceEqDiff, Nat.reduceBEq, Nat.reduceAdd, Nat.reduceLeDiff, Nat.reduceMul, Nat.reduceLT, Int.reduceEq, Int.reduceLT, Int.reduceLE, hc]
    refine (c_mresult _ H2 bm _ _ s.log s.fs (-1) 0 0 hM2 hok.ho (by omega) (by simp)).mono ?_
    rintro r H3 hr
    have hr' : OwnRes (H.set b6 ⟨4, 34, [[.vsl [] true, I 0, I 0, .vsl [] true]]⟩) H3 r (resM s) := by
      obtain ⟨xl, xh, G1, h1, h2, h3⟩ := hr
      refine ⟨xl, xh, G1, ?_, ?_, ?_⟩
      · rw [h1]; simp [resM, show ¬ 0 ≤ s.cur by omega]
      · simpa [resM, show ¬ 0 ≤ s.cur by omega] using h2
      · simpa [resM, show ¬ 0 ≤ s.cur by omega] using h3
    obtain ⟨H4, rfl, hown, hn⟩ := own_out hr' hb6
    obtain ⟨xl, xh, rfl, o1, o2⟩ := own_row hown
    simp +contextual -dsimp -implicitDefEqProofs (maxSteps := 5000000) only [go_sem, reduceIte, reduceCtorEq, Nat.reduceEqDiff, Nat.reduceBEq, Nat.reduceAdd, Nat.reduceLeDiff, Nat.reduceMul, Nat.reduceLT, Int.reduceEq, Int.reduceLT, Int.reduceLE, hc, o1, o2]
    refine retR_less (l := [.agg [xl, I (resM s).ed, I (resM s).val, xh]]) (H' := H4) ?_ (le_set hn) hown
    simp only [resA, go_sem, reduceIte, reduceCtorEq, Nat.reduceEqDiff, Nat.reduceBEq, Nat.reduceAdd, Nat.reduceLeDiff, Nat.reduceMul, Nat.reduceLT, Int.reduceEq, Int.reduceLT, Int.reduceLE]
  · have h0 : 0 ≤ s.cur := by omega
    simp +contextual -dsimp -implicitDefEqProofs (maxSteps := 5000000) only [go_sem, reduceIte, reduceCtorEq, Nat.reduceEqDiff, Nat.reduceBEq, Nat.reduceAdd, Nat.reduceLeDiff, Nat.reduceMul, Nat.reduceLT, Int.reduceEq, Int.reduceLT, Int.reduceLE, hc]
    refine (c_mresult _ H2 bm _ _ s.log s.fs (-1) 2 s.cur hM2 hok.ho (by omega) (fun _ => ⟨h0, hcur⟩)).mono ?_
    rintro r H3 hr
    have hr' : OwnRes (H.set b6 ⟨4, 34, [[.vsl [] true, I 0, I 0, .vsl [] true]]⟩) H3 r (resM s) := by
      obtain ⟨xl, xh, G1, h1, h2, h3⟩ := hr
      refine ⟨xl, xh, G1, ?_, ?_, ?_⟩
      · rw [h1]; simp [resM, h0]
      · simpa [resM, h0] using h2
      · simpa [resM, h0] using h3
    obtain ⟨H4, rfl, hown, hn⟩ := own_out hr' hb6
    obtain ⟨xl, xh, rfl, o1, o2⟩ := own_row hown
    simp +contextual -dsimp -implicitDefEqProofs (maxSteps := 5000000) only [go_sem, reduceIte, reduceCtorEq, Nat.reduceEqDiff, Nat.reduceBEq, Nat.reduceAdd, Nat.reduceLeDiff, Nat.reduceMul, Nat.reduceLT, Int.reduceEq, Int.reduceLT, Int.reduceLE, hc, o1, o2]
    refine retR_less (l := [.agg [xl, I (resM s).ed, I (resM s).val, xh]]) (H' := H4) ?_ (le_set hn) hown
    simp only [resA, go_sem, reduceIte, reduceCtorEq, Nat.reduceEqDiff, Nat.reduceBEq, Nat.reduceAdd, Nat.reduceLeDiff, Nat.reduceMul, Nat.reduceLT, Int.reduceEq, Int.reduceLT, Int.reduceLE]
theorem c_mCloseExits (t : List Class) (cl : Bool) (l : List Exi) (cl' : Bool) (x : Sta) (H : AHeap) (hn : namesOk t) :
    ACalls Tryz.prog 25 [aTree t cl, .vsl (l.map rExit) cl', .agg (rStart x)] H fun r H' => OwnRes H H' r (if (validX t l && startOk t x) = true then resM (closeX t l x) else res0) := by
  refine acalls_of1 Tryz.func25 rfl (by kernel_rfl) rfl rfl (awp_sound (fz := fun _ => []) (im := fun s => s == 3 || s == 5) mixed _ _ _ _ (by kernel_rfl) ?_)
  simp +contextual -dsimp -implicitDefEqProofs (maxSteps := 5000000) only [go_sem, reduceIte, reduceCtorEq, Nat.reduceEqDiff, Nat.reduceBEq, Nat.reduceAdd, Nat.reduceLeDiff, Nat.reduceMul, Nat.reduceLT, Int.reduceEq, Int.reduceLT, Int.reduceLE]
  intro b6 hb6
  refine (c_ValidExits t cl l cl' _ hn).det ?_
  cases hv : validX t l
  · simp +contextual -dsimp -implicitDefEqProofs (maxSteps := 5000000) only [go_sem, reduceIte, reduceCtorEq, Nat.reduceEqDiff, Nat.reduceBEq, Nat.reduceAdd, Nat.reduceLeDiff, Nat.reduceMul, Nat.reduceLT, Int.reduceEq, Int.reduceLT, Int.reduceLE]
    refine retR_less (l := [.agg [.vsl [] true, I 0, I 0, .vsl [] true]]) (H' := H) ?_ (le_set hb6) (own0 H)
    simp only [resA, go_sem, reduceIte, reduceCtorEq, Nat.reduceEqDiff, Nat.reduceBEq, Nat.reduceAdd, Nat.reduceLeDiff, Nat.reduceMul, Nat.reduceLT, Int.reduceEq, Int.reduceLT, Int.reduceLE]
  · simp +contextual -dsimp -implicitDefEqProofs (maxSteps := 5000000) only [go_sem, reduceIte, reduceCtorEq, Nat.reduceEqDiff, Nat.reduceBEq, Nat.reduceAdd, Nat.reduceLeDiff, Nat.reduceMul, Nat.reduceLT, Int.reduceEq, Int.reduceLT, Int.reduceLE]
    refine (c_startValid t cl x _).det ?_
    cases hs : startOk t x
    · simp +contextual -dsimp -implicitDefEqProofs (maxSteps := 5000000) only [go_sem, reduceIte, reduceCtorEq, Nat.reduceEqDiff, Nat.reduceBEq, Nat.reduceAdd, Nat.reduceLeDiff, Nat.reduceMul, Nat.reduceLT, Int.reduceEq, Int.reduceLT, Int.reduceLE]
      refine retR_less (l := [.agg [.vsl [] true, I 0, I 0, .vsl [] true]]) (H' := H) ?_ (le_set hb6) (own0 H)
      simp only [resA, go_sem, reduceIte, reduceCtorEq, Nat.reduceEqDiff, Nat.reduceBEq, Nat.reduceAdd, Nat.reduceLeDiff, Nat.reduceMul, Nat.reduceLT, Int.reduceEq, Int.reduceLT, Int.reduceLE]
    · simp +contextual -dsimp -implicitDefEqProofs (maxSteps := 5000000) only [go_sem, reduceIte, reduceCtorEq, Nat.reduceEqDiff, Nat.reduceBEq, Nat.reduceAdd, Nat.reduceLeDiff, Nat.reduceMul, Nat.reduceLT, Int.reduceEq, Int.reduceLT, Int.reduceLE]
      refine (c_mcloseExits t cl l cl' x _ hv hs).mono ?_
      rintro r H3 hr
      obtain ⟨H4, rfl, hown, hn⟩ := own_out hr hb6
      obtain ⟨xl, xh, rfl, o1, o2⟩ := own_row hown
      simp +contextual -dsimp -implicitDefEqProofs (maxSteps := 5000000) only [go_sem, reduceIte, reduceCtorEq, Nat.reduceEqDiff, Nat.reduceBEq, Nat.reduceAdd, Nat.reduceLeDiff, Nat.reduceMul, Nat.reduceLT, Int.reduceEq, Int.reduceLT, Int.reduceLE, o1, o2]
      refine retR_less (l := [.agg [xl, I (resM (closeX t l x)).ed, I (resM (closeX t l x)).val, xh]]) (H' := H4) ?_ (le_set hn) hown
      simp only [resA, go_sem, reduceIte, reduceCtorEq, Nat.reduceEqDiff, Nat.reduceBEq, Nat.reduceAdd, Nat.reduceLeDiff, Nat.reduceMul, Nat.reduceLT, Int.reduceEq, Int.reduceLT, Int.reduceLE]
end
section
open Go Go.Sim
set_option maxRecDepth 100000

theorem xor64 (x y : Nat) (hx : x < 4611686018427387904) (hy : y < 4611686018427387904) : ∃ z : Nat, bits .xor .i64 (x : Int) (y : Int) = z ∧ z < 4611686018427387904 := by
  refine ⟨x ^^^ y, ?_, Nat.xor_lt_two_pow (n := 62) hx hy⟩
  have hz : x ^^^ y < 4611686018427387904 := Nat.xor_lt_two_pow (n := 62) hx hy
  show IntKind.i64.wrap ((BitVec.ofInt 64 (x : Int) ^^^ BitVec.ofInt 64 (y : Int)).toNat : Int) = _
  have h1 : (BitVec.ofInt 64 (x : Int)).toNat = x := by rw [BitVec.ofInt_natCast, BitVec.toNat_ofNat]; exact Nat.mod_eq_of_lt (by omega)
  have h2 : (BitVec.ofInt 64 (y : Int)).toNat = y := by rw [BitVec.ofInt_natCast, BitVec.toNat_ofNat]; exact Nat.mod_eq_of_lt (by omega)
  rw [BitVec.toNat_xor, h1, h2, w64 (by omega) (by omega)]

/-- A reader that has been asked at most n times, in a block of its own. -/
def Rd (F H : AHeap) (br : Nat) (n : Nat) : Prop := ∃ (bs : List UInt8) (cb : Bool) (p : Nat), bs.length ≤ 2000 ∧ p ≤ n ∧ F br = none ∧ H = F.set br ⟨2, 108, [[.vsl (bs.map rU) cb, I p]]⟩
section
variable {F H : AHeap} {br n m c : Nat} {K : ABlk}
end
theorem pick_val (a b p l k : Int) (ha : 0 ≤ a) (ha' : a ≤ 255) (hb : 0 ≤ b) (hb' : b ≤ 255) (hp : 0 ≤ p) (hp' : p ≤ 1000000000) (hl : 0 < l) (hk : 0 < k) :
    ∃ z : Int, (bits .xor .i64 (a * 131 + b * 1117 + p * 29 + p.tdiv l * 53) ((a * 131 + b * 1117 + p * 29 + p.tdiv l * 53).tdiv 64)).tmod k = z ∧ 0 ≤ z ∧ z < k := by
  have hd : 0 ≤ p.tdiv l ∧ p.tdiv l ≤ p := ⟨Int.tdiv_nonneg hp (by omega), Int.tdiv_le_self _ hp⟩
  generalize p.tdiv l = q at hd
  have h0 : 0 ≤ a * 131 + b * 1117 + p * 29 + q * 53 ∧ a * 131 + b * 1117 + p * 29 + q * 53 ≤ 1000000000000 := by omega
  generalize a * 131 + b * 1117 + p * 29 + q * 53 = x at h0
  obtain ⟨y, rfl⟩ := Int.eq_ofNat_of_zero_le h0.1
  have hdiv : ((y : Int)).tdiv 64 = ((y / 64 : Nat) : Int) := rfl
  rw [hdiv]
  obtain ⟨z, hz, hz'⟩ := xor64 y (y / 64) (by omega) (by omega)
  rw [hz]
  exact ⟨_, rfl, Int.tmod_nonneg _ (by omega), Int.tmod_lt_of_pos _ hk⟩

theorem c_pick (F H : AHeap) (br n : Nat) (k : Int) (h : Rd F H br n) (hn : n < 1000000000) : ACalls Tryz.prog 57 [.ptr br 2 0 0, I k] H fun r H' => ∃ v : Int, r = I v ∧ 0 ≤ v ∧ (0 < k → v < k) ∧ (k ≤ 0 → v = 0) ∧ Rd F H' br (n + 1) := by
  obtain ⟨bs, cb, p, h1, h2, h3, rfl⟩ := h
  refine acalls_of0 Tryz.func57 rfl (by kernel_rfl) rfl rfl (awp_sound (fz := fun _ => []) (im := fun _ => false) mixed _ _ _ _ (by kernel_rfl) ?_)
  simp +contextual -dsimp -implicitDefEqProofs (maxSteps := 5000000) only [go_sem, reduceIte, reduceCtorEq, Nat.reduceEqDiff, Nat.reduceBEq, Nat.reduceAdd, Nat.reduceLeDiff, Nat.reduceMul, Nat.reduceLT, Int.reduceEq, Int.reduceLT, Int.reduceLE]
  have hw : IntKind.i64.wrap ((p : Int) + 1) = ((p + 1 : Nat) : Int) := by rw [w64 (by omega) (by omega)]; simp
  have hRd : ∀ v : Int, 0 ≤ v → (0 < k → v < k) → (k ≤ 0 → v = 0) → ∃ v' : Int, I v = I v' ∧ 0 ≤ v' ∧ (0 < k → v' < k) ∧ (k ≤ 0 → v' = 0) ∧ Rd F (F.set br ⟨2, 108, [[.vsl (bs.map rU) cb, I (IntKind.i64.wrap ((p : Int) + 1))]]⟩) br (n + 1) :=
    fun v q1 q2 q3 => ⟨v, rfl, q1, q2, q3, bs, cb, p + 1, h1, by omega, h3, by rw [hw]⟩
  have hw2 : IntKind.i64.wrap (IntKind.i64.wrap ((p : Int) + 1) - 1) = (p : Int) := by rw [hw, w64 (by omega) (by omega)]; simp
  simp only [hw2, Int.toNat_natCast]
  refine ⟨fun q => hRd 0 (by omega) (fun h => h) (fun _ => rfl), fun q => ⟨fun hlt => ?_, fun hge => ?_⟩⟩
  · have hpl : p < bs.length := by omega
    have hb := (bs.getD p default).toNat_lt
    simp +contextual -dsimp -implicitDefEqProofs (maxSteps := 5000000) only [go_sem, reduceIte, reduceCtorEq, Nat.reduceEqDiff, Nat.reduceBEq, Nat.reduceAdd, Nat.reduceLeDiff, Nat.reduceMul, Nat.reduceLT, Int.reduceEq, Int.reduceLT, Int.reduceLE, hpl]
    refine ⟨by omega, ?_⟩
    rw [w64 (by omega) (by omega)]
    exact hRd _ (Int.tmod_nonneg _ (by omega)) (fun h => Int.tmod_lt_of_pos _ h) (fun h => by omega)
  · refine draw_intro [0, 0, 0, 0, 0, 0, 0, 0, 0, 0, 0, 0, 0, 0, 0, 0, 0, 0, 0, 0, 0, 0, 0, 0, 0, 0, 0, 0, 0, 0, 0, 0, 0, 0, 0, 0, 0, 0, 0, 0, 0, 0, 0, 0, 0, 0] AHeap.none (by kernel_rfl) none_le ?_
    have hl0 : ¬ (bs.length : Int) = 0 := by omega
    have hlp : (0 : Int) < bs.length := by omega
    have e1 : IntKind.i64.wrap ((p : Int) * 7) = (p : Int) * 7 := w64 (by omega) (by omega)
    have e2 : IntKind.i64.wrap ((p : Int) * 7 + 3) = (p : Int) * 7 + 3 := w64 (by omega) (by omega)
    have j1 := Int.tmod_nonneg (bs.length : Int) (show 0 ≤ (p : Int) by omega)
    have j2 := Int.tmod_lt_of_pos (p : Int) hlp
    have j3 := Int.tmod_nonneg (bs.length : Int) (show 0 ≤ (p : Int) * 7 + 3 by omega)
    have j4 := Int.tmod_lt_of_pos ((p : Int) * 7 + 3) hlp
    have j5 : ((p : Int).tmod bs.length).toNat < bs.length := by omega
    have j6 : (((p : Int) * 7 + 3).tmod bs.length).toNat < bs.length := by omega
    simp +contextual -dsimp -implicitDefEqProofs (maxSteps := 5000000) only [go_sem, reduceIte, reduceCtorEq, Nat.reduceEqDiff, Nat.reduceBEq, Nat.reduceAdd, Nat.reduceLeDiff, Nat.reduceMul, Nat.reduceLT, Int.reduceEq, Int.reduceLT, Int.reduceLE, hw2, hl0, e1, e2, j1, j2, j3, j4, j5, j6]
    have ha := (bs.getD ((p : Int).tmod bs.length).toNat default).toNat_lt
    have hb := (bs.getD (((p : Int) * 7 + 3).tmod bs.length).toNat default).toNat_lt
    generalize (bs.getD ((p : Int).tmod bs.length).toNat default).toNat = a at ha
    generalize (bs.getD (((p : Int) * 7 + 3).tmod bs.length).toNat default).toNat = b at hb
    have hk : 0 < k := by omega
    obtain ⟨z, hz, z0, z1⟩ := pick_val a b p bs.length k (by omega) (by omega) (by omega) (by omega) (by omega) (by omega) hlp hk
    have hd : 0 ≤ (p : Int).tdiv bs.length ∧ (p : Int).tdiv bs.length ≤ p := ⟨Int.tdiv_nonneg (by omega) (by omega), Int.tdiv_le_self _ (by omega)⟩
    generalize (p : Int).tdiv bs.length = q2 at hd hz
    rw [w64 (a := (a : Int)) (by omega) (by omega), w64 (a := (b : Int)) (by omega) (by omega), w64 (a := (a : Int) * 131) (by omega) (by omega), w64 (a := (b : Int) * 1117) (by omega) (by omega),
      w64 (a := (a : Int) * 131 + (b : Int) * 1117) (by omega) (by omega), w64 (a := (p : Int) * 29) (by omega) (by omega), w64 (a := (a : Int) * 131 + (b : Int) * 1117 + (p : Int) * 29) (by omega) (by omega),
      w64 (a := q2) (by omega) (by omega), w64 (a := q2 * 53) (by omega) (by omega), w64 (a := (a : Int) * 131 + (b : Int) * 1117 + (p : Int) * 29 + q2 * 53) (by omega) (by omega)]
    have hd2 : 0 ≤ ((a : Int) * 131 + (b : Int) * 1117 + (p : Int) * 29 + q2 * 53).tdiv 64 ∧ ((a : Int) * 131 + (b : Int) * 1117 + (p : Int) * 29 + q2 * 53).tdiv 64 ≤ (a : Int) * 131 + (b : Int) * 1117 + (p : Int) * 29 + q2 * 53 := ⟨Int.tdiv_nonneg (by omega) (by omega), Int.tdiv_le_self _ (by omega)⟩
    rw [w64 (a := ((a : Int) * 131 + (b : Int) * 1117 + (p : Int) * 29 + q2 * 53).tdiv 64) (by omega) (by omega), hz]
    exact ⟨by omega, hRd z z0 (fun _ => z1) (fun h => by omega)⟩
theorem c_newReader (bs : List UInt8) (cb : Bool) (H : AHeap) : ACalls Tryz.prog 33 [.vsl (bs.map rU) cb] H fun r H' => ∃ br, r = .ptr br 2 0 0 ∧ Rd H H' br 0 := by
  refine acalls_of0 Tryz.func33 rfl (by kernel_rfl) rfl rfl (awp_sound (fz := fun _ => []) (im := fun _ => false) mixed _ _ _ _ (by kernel_rfl) ?_)
  simp +contextual -dsimp -implicitDefEqProofs (maxSteps := 5000000) only [go_sem, reduceIte, reduceCtorEq, Nat.reduceEqDiff, Nat.reduceBEq, Nat.reduceAdd, Nat.reduceLeDiff, Nat.reduceMul, Nat.reduceLT, Int.reduceEq, Int.reduceLT, Int.reduceLE]
  refine ⟨fun h => ⟨by omega, fun b hb => ⟨b, rfl, _, _, 0, ?_, Nat.le_refl _, hb, rfl⟩⟩, fun h b hb => ⟨b, rfl, _, _, 0, by omega, Nat.le_refl _, hb, rfl⟩⟩
  simp; omega
theorem c_one (F H : AHeap) (br n : Nat) (l : List Int) (cl : Bool) (h : Rd F H br n) (hn : n < 1000000000) (hl : l ≠ []) : ACalls Tryz.prog 58 [.ptr br 2 0 0, .vsl (l.map rI) cl] H fun r H' => ∃ v, r = I v ∧ v ∈ l ∧ Rd F H' br (n + 1) := by
  have hp : 0 < l.length := List.length_pos_iff.2 hl
  refine acalls_of0 Tryz.func58 rfl (by kernel_rfl) rfl rfl (awp_sound (fz := fun _ => []) (im := fun _ => false) mixed _ _ _ _ (by kernel_rfl) ?_)
  simp +contextual -dsimp -implicitDefEqProofs (maxSteps := 5000000) only [go_sem, reduceIte, reduceCtorEq, Nat.reduceEqDiff, Nat.reduceBEq, Nat.reduceAdd, Nat.reduceLeDiff, Nat.reduceMul, Nat.reduceLT, Int.reduceEq, Int.reduceLT, Int.reduceLE]
  refine (c_pick F H br n l.length h hn).mono ?_
  rintro _ H' ⟨v, rfl, v0, v1, v2, hR⟩
  have v3 := v1 (by omega)
  simp +contextual -dsimp -implicitDefEqProofs (maxSteps := 5000000) only [go_sem, reduceIte, reduceCtorEq, Nat.reduceEqDiff, Nat.reduceBEq, Nat.reduceAdd, Nat.reduceLeDiff, Nat.reduceMul, Nat.reduceLT, Int.reduceEq, Int.reduceLT, Int.reduceLE, v0, v3]
  have i1 : v.toNat < l.length := by omega
  refine ⟨i1, l.getD v.toNat default, rfl, ?_, hR⟩
  rw [List.getD_eq_getElem?_getD, List.getElem?_eq_getElem i1]; exact List.getElem_mem i1
theorem c_of (F H : AHeap) (br n : Nat) (l : List Str) (cl : Bool) (h : Rd F H br n) (hn : n < 1000000000) (hl : l ≠ []) : ACalls Tryz.prog 115 [.ptr br 2 0 0, .vsl (l.map rS) cl] H fun r H' => ∃ v, r = S v ∧ v ∈ l ∧ Rd F H' br (n + 1) := by
  have hp : 0 < l.length := List.length_pos_iff.2 hl
  refine acalls_of0 Tryz.func115 rfl (by kernel_rfl) rfl rfl (awp_sound (fz := fun _ => []) (im := fun _ => false) mixed _ _ _ _ (by kernel_rfl) ?_)
  simp +contextual -dsimp -implicitDefEqProofs (maxSteps := 5000000) only [go_sem, reduceIte, reduceCtorEq, Nat.reduceEqDiff, Nat.reduceBEq, Nat.reduceAdd, Nat.reduceLeDiff, Nat.reduceMul, Nat.reduceLT, Int.reduceEq, Int.reduceLT, Int.reduceLE]
  refine (c_pick F H br n l.length h hn).mono ?_
  rintro _ H' ⟨v, rfl, v0, v1, v2, hR⟩
  have v3 := v1 (by omega)
  simp +contextual -dsimp -implicitDefEqProofs (maxSteps := 5000000) only [go_sem, reduceIte, reduceCtorEq, Nat.reduceEqDiff, Nat.reduceBEq, Nat.reduceAdd, Nat.reduceLeDiff, Nat.reduceMul, Nat.reduceLT, Int.reduceEq, Int.reduceLT, Int.reduceLE, v0, v3]
  have i1 : v.toNat < l.length := by omega
  refine ⟨i1, l.getD v.toNat default, rfl, ?_, hR⟩
  rw [List.getD_eq_getElem?_getD, List.getElem?_eq_getElem i1]; exact List.getElem_mem i1
end
section
open Go Go.Sim
set_option maxRecDepth 100000

/-- A reader's block, asked at most n times. -/
def RdK (n : Nat) (K : ABlk) : Prop := ∃ (bs : List UInt8) (cb : Bool) (p : Nat), bs.length ≤ 2000 ∧ p ≤ n ∧ K = ⟨2, 108, [[.vsl (bs.map rU) cb, I p]]⟩
theorem rdk_mono {n m : Nat} {K : ABlk} (h : RdK n K) (hm : n ≤ m) : RdK m K := by
  obtain ⟨bs, cb, p, h1, h2, h3⟩ := h
  exact ⟨bs, cb, p, h1, Nat.le_trans h2 hm, h3⟩
theorem rd_of {F : AHeap} {br n : Nat} {K : ABlk} (h : RdK n K) (hF : F br = none) : Rd F (F.set br K) br n := by
  obtain ⟨bs, cb, p, h1, h2, rfl⟩ := h
  exact ⟨bs, cb, p, h1, h2, hF, rfl⟩
theorem rd_to {F H : AHeap} {br n : Nat} (h : Rd F H br n) : ∃ K, RdK n K ∧ H = F.set br K := by
  obtain ⟨bs, cb, p, h1, h2, h3, rfl⟩ := h
  exact ⟨_, ⟨bs, cb, p, h1, h2, rfl⟩, rfl⟩
theorem k_pick {F : AHeap} {br n : Nat} {K : ABlk} (k : Int) (h : RdK n K) (hF : F br = none) (hn : n < 1000000000) {H : AHeap} (hH : H = F.set br K) {Q : AV → AHeap → Prop}
    (k0 : ∀ (v : Int) K', 0 ≤ v → (0 < k → v < k) → (k ≤ 0 → v = 0) → RdK (n + 1) K' → Q (I v) (F.set br K')) : ACalls Tryz.prog 57 [.ptr br 2 0 0, I k] H Q := by
  subst hH
  refine (c_pick F _ br n k (rd_of h hF) hn).mono ?_
  rintro _ H' ⟨v, rfl, v0, v1, v2, hR⟩
  obtain ⟨K', hK, rfl⟩ := rd_to hR
  exact k0 v K' v0 v1 v2 hK
theorem k_one {F : AHeap} {br n : Nat} {K : ABlk} (l : List Int) (cl : Bool) (h : RdK n K) (hF : F br = none) (hn : n < 1000000000) (hl : l ≠ []) {H : AHeap} (hH : H = F.set br K) {Q : AV → AHeap → Prop} {es : List (List AV)} (hes : es = l.map rI)
    (k0 : ∀ (v : Int) K', v ∈ l → RdK (n + 1) K' → Q (I v) (F.set br K')) : ACalls Tryz.prog 58 [.ptr br 2 0 0, .vsl es cl] H Q := by
  subst hH hes
  refine (c_one F _ br n l cl (rd_of h hF) hn hl).mono ?_
  rintro _ H' ⟨v, rfl, v0, hR⟩
  obtain ⟨K', hK, rfl⟩ := rd_to hR
  exact k0 v K' v0 hK
theorem k_of {F : AHeap} {br n : Nat} {K : ABlk} (l : List Str) (cl : Bool) (h : RdK n K) (hF : F br = none) (hn : n < 1000000000) (hl : l ≠ []) {H : AHeap} (hH : H = F.set br K) {Q : AV → AHeap → Prop} {es : List (List AV)} (hes : es = l.map rS)
    (k0 : ∀ (v : Str) K', v ∈ l → RdK (n + 1) K' → Q (S v) (F.set br K')) : ACalls Tryz.prog 115 [.ptr br 2 0 0, .vsl es cl] H Q := by
  subst hH hes
  refine (c_of F _ br n l cl (rd_of h hF) hn hl).mono ?_
  rintro _ H' ⟨v, rfl, v0, hR⟩
  obtain ⟨K', hK, rfl⟩ := rd_to hR
  exact k0 v K' v0 hK

def treeNames : List Str := [[97, 110, 121], [105, 111], [107, 101, 121], [116, 105, 109, 101], [110, 101, 116], [100, 105, 115, 107], [116, 121, 112, 101], [111, 100, 100]]
theorem treeNames_len : treeNames.length = 8 := rfl
def shortNames (l : List Class) : Prop := ∀ c ∈ l, c.name.length ≤ 10
theorem short_ok {l : List Class} (h : shortNames l) : namesOk l := fun c hc => by have := h c hc; omega
theorem c_goodTree (F : AHeap) (br n : Nat) (K : ABlk) (h : RdK n K) (hF : F br = none) (hn : n < 900000000) : ACalls Tryz.prog 114 [.ptr br 2 0 0] (F.set br K) fun r H' =>
    ∃ x l G K', r = .agg [x] ∧ Grow rClass 2 127 F G x l ∧ G br = none ∧ H' = G.set br K' ∧ RdK (n + 20) K' ∧ 1 ≤ l.length ∧ l.length ≤ 8 ∧ shortNames l := by
  refine acalls_of1 Tryz.func114 rfl (by kernel_rfl) rfl rfl (awp_sound (fz := fun _ => []) (im := fun s => s == 7 || s == 12) mixed _ _ _ _ (by kernel_rfl) ?_)
  simp +contextual -dsimp -implicitDefEqProofs (maxSteps := 5000000) only [go_sem, reduceIte, reduceCtorEq, Nat.reduceEqDiff, Nat.reduceBEq, Nat.reduceAdd, Nat.reduceLeDiff, Nat.reduceMul, Nat.reduceLT, Int.reduceEq, Int.reduceLT, Int.reduceLE]
  rintro b2 ⟨p1, p2, hb2⟩ b9 ⟨q1, q2, q3, q4, hb9⟩ b4 ⟨m1, m2, m3, m4, m5, m6, hb4⟩
  have hg0 : Grow rClass 2 127 F (F.set b9 ⟨2, 127, [⟨[97, 110, 121], -1⟩].map rClass⟩) (.sl b9 2 0 1 true) [⟨[97, 110, 121], -1⟩] := .inr ⟨b9, true, hb9, rfl, rfl⟩
  have hH : (((F.set br K).set b2 ⟨1, 25, [[.vsl [] true]]⟩).set b9 ⟨2, 127, [[S [97, 110, 121], I (-1)]]⟩).set b4 ⟨1, 25, [[.sl b9 2 0 1 true]]⟩ =
      (((F.set b9 ⟨2, 127, [⟨[97, 110, 121], -1⟩].map rClass⟩).set b2 ⟨1, 25, [[.vsl [] true]]⟩).set b4 ⟨1, 25, [[.sl b9 2 0 1 true]]⟩).set br K := by
    rw [set_comm (H := F) (Ne.symm p1), set_comm (H := F.set b2 _) (Ne.symm q3), set_comm (H := (F.set b2 _).set b9 _) (Ne.symm m5), set_comm (H := F) (Ne.symm q1)]
    rfl
  rw [hH]
  have e2 : (F.set b9 ⟨2, 127, [⟨[97, 110, 121], -1⟩].map rClass⟩) b2 = none := by rw [set_other q2]; exact hb2
  have e4 : (F.set b9 ⟨2, 127, [⟨[97, 110, 121], -1⟩].map rClass⟩) b4 = none := by rw [set_other m1]; exact hb4
  have er : (F.set b9 ⟨2, 127, [⟨[97, 110, 121], -1⟩].map rClass⟩) br = none := by rw [set_other q4]; exact hF
  generalize F.set b9 ⟨2, 127, [⟨[97, 110, 121], -1⟩].map rClass⟩ = G0 at hg0 e2 e4 er ⊢
  generalize AV.sl b9 2 0 1 true = x0 at hg0 ⊢
  have none3 : ∀ (G : AHeap) (K2 K4 : ABlk), G br = none → ((G.set b2 K2).set b4 K4) br = none := fun G K2 K4 h => by rw [set_other m6, set_other p2]; exact h
  refine k_one [4, 5, 3, 6, 2, 1, 8] _ h (none3 _ _ _ er) (by omega) (by simp) rfl rfl fun v K1 hv hK1 => ?_
  have hv8 : 1 ≤ v ∧ v ≤ 8 := by simp at hv; omega
  clear hH
  simp +contextual -dsimp -implicitDefEqProofs (maxSteps := 5000000) only [go_sem, reduceIte, reduceCtorEq, Nat.reduceEqDiff, Nat.reduceBEq, Nat.reduceAdd, Nat.reduceLeDiff, Nat.reduceMul, Nat.reduceLT, Int.reduceEq, Int.reduceLT, Int.reduceLE]
  refine aloop mixed (fz := fun _ => []) (im := fun s => s == 7 || s == 12) (by kernel_rfl) (fun m tm H' => ∃ (i : Nat) (G : AHeap) (x : AV) (l : List Class) (K : ABlk), m = v.toNat - i ∧ 1 ≤ i ∧ i ≤ v ∧ l.length = i ∧ shortNames l ∧ Grow rClass 2 127 F G x l ∧ G b2 = none ∧ G b4 = none ∧ G br = none ∧ RdK (n + 2 + 2 * i) K ∧
    H' = ((G.set b2 ⟨1, 25, [[.vsl [] true]]⟩).set b4 ⟨1, 25, [[x]]⟩).set br K ∧ tm 0 = .ptr br 2 0 0 ∧ tm 2 = .ptr b2 1 0 0 ∧ tm 3 = .vsl (treeNames.map rS) true ∧ tm 4 = .ptr b4 1 0 0 ∧ tm 5 = I v ∧ tm 6 = I i) (v.toNat - 1) ⟨1, G0, x0, _, K1, rfl, by omega, by omega, rfl, ?_, hg0, e2, e4, er, rdk_mono hK1 (by omega), rfl, ?_⟩ ?_
  · intro c hc; simp at hc; subst hc; decide
  · simp +contextual -dsimp -implicitDefEqProofs (maxSteps := 5000000) only [go_sem, reduceIte, reduceCtorEq, Nat.reduceEqDiff, Nat.reduceBEq, Nat.reduceAdd, Nat.reduceLeDiff, Nat.reduceMul, Nat.reduceLT, Int.reduceEq, Int.reduceLT, Int.reduceLE]
    exact ⟨rfl, rfl⟩
  · rintro m tm H' ⟨i, G, x, l, K, rfl, hi1, hi, hl, hs, hg, f2, f4, fr, hK, rfl, t0, t2, t3, t4, t5, t6⟩
    obtain ⟨r1, r2⟩ := one_grow hg
    simp +contextual -dsimp -implicitDefEqProofs (maxSteps := 5000000) only [go_sem, reduceIte, reduceCtorEq, Nat.reduceEqDiff, Nat.reduceBEq, Nat.reduceAdd, Nat.reduceLeDiff, Nat.reduceMul, Nat.reduceLT, Int.reduceEq, Int.reduceLT, Int.reduceLE, t0, t2, t3, t4, t5, t6, p1, p2, m3, m4, m5, m6, r1, r2]
    refine ⟨fun hlt => ?_, fun hge => ?_⟩
    · refine draw_intro [0, 1, 0, 0, 0, 1, 0, 0, 0, 3, 0, 0, 0, 3, 0, 0, 2, 0, 2] ((G.set b2 ⟨1, 25, [[.vsl [] true]]⟩).set b4 ⟨1, 25, [[x]]⟩) (by kernel_rfl) (le_set (none3 _ _ _ fr)) ?_
      have i8 : i < 8 := by omega
      have hnm : (treeNames.getD i default).length ≤ 10 := by
        have : ∀ j, j < 8 → (treeNames.getD j default).length ≤ 10 := by decide
        exact this i i8
      simp +contextual -dsimp -implicitDefEqProofs (maxSteps := 5000000) only [go_sem, reduceIte, reduceCtorEq, Nat.reduceEqDiff, Nat.reduceBEq, Nat.reduceAdd, Nat.reduceLeDiff, Nat.reduceMul, Nat.reduceLT, Int.reduceEq, Int.reduceLT, Int.reduceLE, t0, t2, t3, t4, t5, t6, p1, p2, m3, m4, m5, m6, r1, r2, treeNames_len, i8]
      refine k_pick i hK (none3 _ _ _ fr) (by omega) rfl fun u K2 u0 u1 u2 hK2 => ⟨le_set (none3 _ _ _ fr), ?_⟩
      simp +contextual -dsimp -implicitDefEqProofs (maxSteps := 5000000) only [go_sem, reduceIte, reduceCtorEq, Nat.reduceEqDiff, Nat.reduceBEq, Nat.reduceAdd, Nat.reduceLeDiff, Nat.reduceMul, Nat.reduceLT, Int.reduceEq, Int.reduceLT, Int.reduceLE, t0, t2, t3, t4, t5, t6, p1, p2, m3, m4, m5, m6, r1, r2, treeNames_len, i8]
      refine k_one [0, u, IntKind.i64.wrap ((i : Int) - 1)] _ hK2 (none3 _ _ _ fr) (by omega) (by simp) rfl rfl fun z K3 hz hK3 => ⟨le_set (none3 _ _ _ fr), ?_⟩
      simp +contextual -dsimp -implicitDefEqProofs (maxSteps := 5000000) only [go_sem, reduceIte, reduceCtorEq, Nat.reduceEqDiff, Nat.reduceBEq, Nat.reduceAdd, Nat.reduceLeDiff, Nat.reduceMul, Nat.reduceLT, Int.reduceEq, Int.reduceLT, Int.reduceLE, t0, t2, t3, t4, t5, t6, p1, p2, m3, m4, m5, m6, r1, r2, treeNames_len, i8]
      have f4' : (G.set b2 ⟨1, 25, [[.vsl [] true]]⟩) b4 = none := by rw [set_other m3]; exact f4
      refine grow_append (m := [⟨treeNames.getD i default, z⟩]) te23 ti127 rClass_len (by decide) (grow_in (grow_in (grow_in hg f2) f4') (none3 _ _ _ fr)) (by simp; omega) (by simp; omega) rfl fun x' H' hg' => ?_
      have g2 := grow_none hg f2
      have g4 := grow_none hg f4
      have gr := grow_none hg fr
      obtain ⟨G1, hg1, rfl, u7⟩ := grow_out hg' (none3 _ _ _ gr)
      obtain ⟨G2, hg2, rfl, u6⟩ := grow_out hg1 (by rw [set_other m3]; exact g4)
      obtain ⟨G3, hg3, rfl, u5⟩ := grow_out hg2 g2
      obtain ⟨r3, r4⟩ := one_grow hg3
      rw [set_other m3] at u6
      rw [set_other m6, set_other p2] at u7
      simp +contextual -dsimp -implicitDefEqProofs (maxSteps := 5000000) only [go_sem, reduceIte, reduceCtorEq, Nat.reduceEqDiff, Nat.reduceBEq, Nat.reduceAdd, Nat.reduceLeDiff, Nat.reduceMul, Nat.reduceLT, Int.reduceEq, Int.reduceLT, Int.reduceLE, t0, t2, t3, t4, t5, t6, p1, p2, m3, m4, m5, m6, r1, r2, r3, r4, treeNames_len, i8]
      refine ⟨_, ?_, i + 1, G3, x', l ++ [⟨treeNames.getD i default, z⟩], K3, rfl, by omega, by omega, by simp [hl], ?_, hg3, u5, u6, u7, rdk_mono hK3 (by omega), rfl, I_wrap (by simp) (by omega) (by omega)⟩
      · omega
      · intro c hc
        rcases List.mem_append.1 hc with q | q
        · exact hs c q
        · simp at q; subst q; exact hnm
    · refine retR_less (l := [.agg [x]]) (H' := G.set br K) ?_ (fun c k hc => ?_) ⟨x, l, G, K, rfl, hg, fr, rfl, rdk_mono hK (by omega), by omega, by omega, hs⟩
      · simp only [resA, go_sem, reduceIte, reduceCtorEq, Nat.reduceEqDiff, Nat.reduceBEq, Nat.reduceAdd, Nat.reduceLeDiff, Nat.reduceMul, Nat.reduceLT, Int.reduceEq, Int.reduceLT, Int.reduceLE, p1, p2, m3, m4, m5, m6, t2]
      · by_cases c0 : c = br
        · subst c0; rw [AHeap.set_self] at hc ⊢; exact hc
        · rw [set_other c0] at hc
          have c1 : c ≠ b2 := fun e => by rw [e, f2] at hc; cases hc
          have c2 : c ≠ b4 := fun e => by rw [e, f4] at hc; cases hc
          rw [set_other c0, set_other c2, set_other c1]; exact hc
end
section
open Go Go.Sim
set_option maxRecDepth 100000

theorem br_out {F : AHeap} {br b : Nat} {K K2 : ABlk} (h : b ≠ br) : (F.set br K).set b K2 = (F.set b K2).set br K := set_comm (Ne.symm h)
theorem le_ch {F G : AHeap} {br : Nat} {K : ABlk} (h : AHeap.le F G) : AHeap.le (F.set br K) (G.set br K) := by
  intro c k hc
  by_cases c0 : c = br
  · subst c0; rw [AHeap.set_self] at hc ⊢; exact hc
  · rw [set_other c0] at hc ⊢; exact h c k hc
theorem le_s1 {F G : AHeap} {b : Nat} {A : ABlk} (h : AHeap.le F G) (hb : F b = none) : AHeap.le F (G.set b A) := by
  intro c k hc
  have c1 : c ≠ b := fun e => by rw [e, hb] at hc; cases hc
  rw [set_other c1]; exact h c k hc
theorem c_aClass (F : AHeap) (br n : Nat) (K : ABlk) (t : List Class) (cl : Bool) (h : RdK n K) (hF : F br = none) (hn : n < 900000000) : ACalls Tryz.prog 46 [.ptr br 2 0 0, aTree t cl] (F.set br K) fun r H' => ∃ v K', r = I v ∧ RdK (n + 2) K' ∧ H' = F.set br K' := by
  refine acalls_len1 (by kernel_rfl) (List.mem_cons_of_mem _ (List.mem_cons_self ..)) fun hl => ?_
  refine acalls_of0 Tryz.func46 rfl (by kernel_rfl) rfl rfl (awp_sound (fz := fun _ => []) (im := fun s => s == 3 || s == 12) mixed _ _ _ _ (by kernel_rfl) ?_)
  simp +contextual -dsimp -implicitDefEqProofs (maxSteps := 5000000) only [go_sem, reduceIte, reduceCtorEq, Nat.reduceEqDiff, Nat.reduceBEq, Nat.reduceAdd, Nat.reduceLeDiff, Nat.reduceMul, Nat.reduceLT, Int.reduceEq, Int.reduceLT, Int.reduceLE]
  refine k_pick 16 h hF (by omega) rfl fun v K1 v0 v1 v2 hK1 => ?_
  simp +contextual -dsimp -implicitDefEqProofs (maxSteps := 5000000) only [go_sem, reduceIte, reduceCtorEq, Nat.reduceEqDiff, Nat.reduceBEq, Nat.reduceAdd, Nat.reduceLeDiff, Nat.reduceMul, Nat.reduceLT, Int.reduceEq, Int.reduceLT, Int.reduceLE]
  refine ⟨fun hv => ?_, fun hv => ?_⟩
  · refine k_one [-1, t.length, 8] _ hK1 hF (by omega) (by simp) rfl rfl fun v K1 hv hK1 => ?_
    simp +contextual -dsimp -implicitDefEqProofs (maxSteps := 5000000) only [go_sem, reduceIte, reduceCtorEq, Nat.reduceEqDiff, Nat.reduceBEq, Nat.reduceAdd, Nat.reduceLeDiff, Nat.reduceMul, Nat.reduceLT, Int.reduceEq, Int.reduceLT, Int.reduceLE]
    exact ⟨_, _, rfl, hK1, rfl⟩
  · refine k_pick t.length hK1 hF (by omega) rfl fun v K1 v0 v1 v2 hK1 => ?_
    simp +contextual -dsimp -implicitDefEqProofs (maxSteps := 5000000) only [go_sem, reduceIte, reduceCtorEq, Nat.reduceEqDiff, Nat.reduceBEq, Nat.reduceAdd, Nat.reduceLeDiff, Nat.reduceMul, Nat.reduceLT, Int.reduceEq, Int.reduceLT, Int.reduceLE]
    exact ⟨_, _, rfl, hK1, rfl⟩
theorem c_anExit (F : AHeap) (br n : Nat) (K : ABlk) (t : List Class) (cl : Bool) (h : RdK n K) (hF : F br = none) (hn : n < 900000000) : ACalls Tryz.prog 142 [.ptr br 2 0 0, aTree t cl] (F.set br K) fun r H' => ∃ e K', r = .agg (rExit e) ∧ RdK (n + 3) K' ∧ H' = F.set br K' := by
  refine acalls_len1 (by kernel_rfl) (List.mem_cons_of_mem _ (List.mem_cons_self ..)) fun hl => ?_
  refine acalls_of1 Tryz.func142 rfl (by kernel_rfl) rfl rfl (awp_sound (fz := fun _ => []) (im := fun s => s == 3 || s == 19 || s == 26) mixed _ _ _ _ (by kernel_rfl) ?_)
  simp +contextual -dsimp -implicitDefEqProofs (maxSteps := 5000000) only [go_sem, reduceIte, reduceCtorEq, Nat.reduceEqDiff, Nat.reduceBEq, Nat.reduceAdd, Nat.reduceLeDiff, Nat.reduceMul, Nat.reduceLT, Int.reduceEq, Int.reduceLT, Int.reduceLE]
  rintro b4 ⟨p1, p2, hb4⟩
  have n4 : ∀ K4, (F.set b4 K4) br = none := fun K4 => by rw [set_other p2]; exact hF
  refine k_pick 4 h (n4 _) (by omega) (br_out p1) fun v K1 v0 v1 v2 hK1 => ?_
  simp +contextual -dsimp -implicitDefEqProofs (maxSteps := 5000000) only [go_sem, reduceIte, reduceCtorEq, Nat.reduceEqDiff, Nat.reduceBEq, Nat.reduceAdd, Nat.reduceLeDiff, Nat.reduceMul, Nat.reduceLT, Int.reduceEq, Int.reduceLT, Int.reduceLE]
  rintro b5 ⟨q1, q2, q3, q4, hb5⟩
  rw [br_out q1]
  have n5 : ∀ K4 K5, ((F.set b4 K4).set b5 K5) br = none := fun K4 K5 => by rw [set_other q2]; exact n4 _
  have fin : ∀ (K2 K3 : ABlk) (a b : Int) (tm : Tm), RdK (n + 3) K3 → tm 4 = .ptr b4 3 0 0 → retR Tryz.prog [.cell 4 98] (fun r H' => ∃ e K', r = .agg (rExit e) ∧ RdK (n + 3) K' ∧ H' = F.set br K') tm (((F.set b4 ⟨3, 98, [[I v, I a, I b]]⟩).set b5 K2).set br K3) := by
    intro K2 K3 a b tm hK h4
    refine retR_less (l := [.agg [I v, I a, I b]]) (H' := F.set br K3) ?_ (le_ch (le_s1 (le_s1 (AHeap.le_refl _) hb4) hb5)) ⟨⟨v, a, b⟩, K3, rfl, hK, rfl⟩
    simp only [resA, go_sem, reduceIte, reduceCtorEq, Nat.reduceEqDiff, Nat.reduceBEq, Nat.reduceAdd, Nat.reduceLeDiff, Nat.reduceMul, Nat.reduceLT, Int.reduceEq, Int.reduceLT, Int.reduceLE, p1, p2, q1, q2, q3, q4, h4]
  refine ⟨fun hv => ?_, fun hv => ?_⟩
  · refine k_pick t.length hK1 (n5 _ _) (by omega) rfl fun a K2 _ _ _ hK2 => ?_
    simp +contextual -dsimp -implicitDefEqProofs (maxSteps := 5000000) only [go_sem, reduceIte, reduceCtorEq, Nat.reduceEqDiff, Nat.reduceBEq, Nat.reduceAdd, Nat.reduceLeDiff, Nat.reduceMul, Nat.reduceLT, Int.reduceEq, Int.reduceLT, Int.reduceLE, p1, p2, q1, q2, q3, q4]
    refine ⟨fun h3 => ?_, fun h3 => ?_⟩
    · subst h3
      refine k_one [1, 2, 3] _ hK2 (n5 _ _) (by omega) (by simp) rfl rfl fun b K3 _ hK3 => ?_
      simp +contextual -dsimp -implicitDefEqProofs (maxSteps := 5000000) only [go_sem, reduceIte, reduceCtorEq, Nat.reduceEqDiff, Nat.reduceBEq, Nat.reduceAdd, Nat.reduceLeDiff, Nat.reduceMul, Nat.reduceLT, Int.reduceEq, Int.reduceLT, Int.reduceLE, p1, p2, q1, q2, q3, q4]
      refine fin _ K3 a b _ hK3 ?_
      rfl
    · refine fin _ K2 a 0 _ (rdk_mono hK2 (by omega)) ?_
      rfl
  · refine k_one [1, 2, 3, 0, 99] _ hK1 (n5 _ _) (by omega) (by simp) rfl rfl fun a K2 _ hK2 => ?_
    simp +contextual -dsimp -implicitDefEqProofs (maxSteps := 5000000) only [go_sem, reduceIte, reduceCtorEq, Nat.reduceEqDiff, Nat.reduceBEq, Nat.reduceAdd, Nat.reduceLeDiff, Nat.reduceMul, Nat.reduceLT, Int.reduceEq, Int.reduceLT, Int.reduceLE, p1, p2, q1, q2, q3, q4]
    refine ⟨fun h3 => ?_, fun h3 => ?_⟩
    · subst h3
      refine k_one [1, 2, 3] _ hK2 (n5 _ _) (by omega) (by simp) rfl rfl fun b K3 _ hK3 => ?_
      simp +contextual -dsimp -implicitDefEqProofs (maxSteps := 5000000) only [go_sem, reduceIte, reduceCtorEq, Nat.reduceEqDiff, Nat.reduceBEq, Nat.reduceAdd, Nat.reduceLeDiff, Nat.reduceMul, Nat.reduceLT, Int.reduceEq, Int.reduceLT, Int.reduceLE, p1, p2, q1, q2, q3, q4]
      refine fin _ K3 a b _ hK3 ?_
      rfl
    · refine fin _ K2 a 0 _ (rdk_mono hK2 (by omega)) ?_
      rfl
theorem c_goodExits (F : AHeap) (br n : Nat) (K : ABlk) (t : List Class) (cl : Bool) (h : RdK n K) (hF : F br = none) (hn : n < 800000000) : ACalls Tryz.prog 107 [.ptr br 2 0 0, aTree t cl] (F.set br K) fun r H' =>
    ∃ (l : List Exi) (G : AHeap) (K' : ABlk), Grow rExit 3 98 F G r l ∧ G br = none ∧ H' = G.set br K' ∧ RdK (n + 30) K' ∧ l.length ≤ 8 := by
  refine acalls_of0 Tryz.func107 rfl (by kernel_rfl) rfl rfl (awp_sound (fz := fun _ => []) (im := fun s => s == 3 || s == 7 || s == 9 || s == 19) mixed _ _ _ _ (by kernel_rfl) ?_)
  simp +contextual -dsimp -implicitDefEqProofs (maxSteps := 5000000) only [go_sem, reduceIte, reduceCtorEq, Nat.reduceEqDiff, Nat.reduceBEq, Nat.reduceAdd, Nat.reduceLeDiff, Nat.reduceMul, Nat.reduceLT, Int.reduceEq, Int.reduceLT, Int.reduceLE]
  refine k_one [3, 4, 2, 1, 5, 0, 8] _ h hF (by omega) (by simp) rfl rfl fun v K1 hv hK1 => ?_
  have hv8 : 0 ≤ v ∧ v ≤ 8 := by simp at hv; omega
  simp +contextual -dsimp -implicitDefEqProofs (maxSteps := 5000000) only [go_sem, reduceIte, reduceCtorEq, Nat.reduceEqDiff, Nat.reduceBEq, Nat.reduceAdd, Nat.reduceLeDiff, Nat.reduceMul, Nat.reduceLT, Int.reduceEq, Int.reduceLT, Int.reduceLE]
  refine aloop mixed (fz := fun _ => []) (im := fun s => s == 3 || s == 7 || s == 9 || s == 19) (by kernel_rfl) (fun m tm H' => ∃ (l : List Exi) (G : AHeap) (x : AV) (K : ABlk) (i : Nat), m = (v - l.length).toNat ∧ i = l.length ∧ i ≤ v ∧ Grow rExit 3 98 F G x l ∧ G br = none ∧ RdK (n + 1 + 3 * i) K ∧ H' = G.set br K ∧ tm 0 = .ptr br 2 0 0 ∧ tm 3 = .vptr [[.vsl (t.map rClass) cl]] 0 0 ∧ tm 5 = x ∧ tm 6 = I (v - i)) (v - 0).toNat ⟨[], F, .vsl [] true, K1, 0, rfl, rfl, by omega, grow_nil, hF, hK1, rfl, ?_⟩ ?_
  · simp +contextual -dsimp -implicitDefEqProofs (maxSteps := 5000000) only [go_sem, reduceIte, reduceCtorEq, Nat.reduceEqDiff, Nat.reduceBEq, Nat.reduceAdd, Nat.reduceLeDiff, Nat.reduceMul, Nat.reduceLT, Int.reduceEq, Int.reduceLT, Int.reduceLE]
    simp
  · rintro m tm H' ⟨l, G, x, K, i, rfl, hi, hiv, hg, fr, hK, rfl, t0, t3, t5, t6⟩
    simp +contextual -dsimp -implicitDefEqProofs (maxSteps := 5000000) only [go_sem, reduceIte, reduceCtorEq, Nat.reduceEqDiff, Nat.reduceBEq, Nat.reduceAdd, Nat.reduceLeDiff, Nat.reduceMul, Nat.reduceLT, Int.reduceEq, Int.reduceLT, Int.reduceLE, t0, t3, t5, t6]
    refine ⟨fun hlt => ?_, fun hge => ?_⟩
    · refine (c_anExit G br _ K t cl hK fr (by omega)).mono ?_
      rintro _ H' ⟨e, K2, rfl, hK2, rfl⟩
      simp +contextual -dsimp -implicitDefEqProofs (maxSteps := 5000000) only [go_sem, reduceIte, reduceCtorEq, Nat.reduceEqDiff, Nat.reduceBEq, Nat.reduceAdd, Nat.reduceLeDiff, Nat.reduceMul, Nat.reduceLT, Int.reduceEq, Int.reduceLT, Int.reduceLE, t0, t3, t5, t6]
      refine grow_append (m := [e]) te57 ti98 rExit_len (by decide) (grow_in hg fr) (by simp; omega) (by simp; omega) rfl fun x' H' hg' => ?_
      obtain ⟨G1, hg1, rfl, u1⟩ := grow_out hg' (grow_none hg fr)
      simp +contextual -dsimp -implicitDefEqProofs (maxSteps := 5000000) only [go_sem, reduceIte, reduceCtorEq, Nat.reduceEqDiff, Nat.reduceBEq, Nat.reduceAdd, Nat.reduceLeDiff, Nat.reduceMul, Nat.reduceLT, Int.reduceEq, Int.reduceLT, Int.reduceLE, t0, t3, t5, t6]
      exact ⟨_, by simp; omega, l ++ [e], G1, x', K2, i + 1, rfl, by simp; omega, by omega, hg1, u1, rdk_mono hK2 (by omega), rfl, rfl, I_wrap (by simp; omega) (by omega) (by omega)⟩
    · exact ⟨l, G, K, hg, fr, rfl, rdk_mono hK (by omega), by omega⟩
theorem c_someTree (F : AHeap) (br n : Nat) (K : ABlk) (h : RdK n K) (hF : F br = none) (hn : n < 800000000) : ACalls Tryz.prog 73 [.ptr br 2 0 0] (F.set br K) fun r H' =>
    ∃ x l G K', r = .agg [x] ∧ Grow rClass 2 127 F G x l ∧ G br = none ∧ H' = G.set br K' ∧ RdK (n + 25) K' ∧ l.length ≤ 8 ∧ shortNames l := by
  refine acalls_of1 Tryz.func73 rfl (by kernel_rfl) rfl rfl (awp_sound (fz := fun _ => []) (im := fun _ => false) mixed _ _ _ _ (by kernel_rfl) ?_)
  simp +contextual -dsimp -implicitDefEqProofs (maxSteps := 5000000) only [go_sem, reduceIte, reduceCtorEq, Nat.reduceEqDiff, Nat.reduceBEq, Nat.reduceAdd, Nat.reduceLeDiff, Nat.reduceMul, Nat.reduceLT, Int.reduceEq, Int.reduceLT, Int.reduceLE]
  rintro b2 ⟨p1, p2, hb2⟩
  have n2 : ∀ K4, (F.set b2 K4) br = none := fun K4 => by rw [set_other p2]; exact hF
  rw [br_out p1]
  refine (c_goodTree _ br n K h (n2 _) (by omega)).mono ?_
  rintro _ _ ⟨x, l, G0, K1, rfl, hg0, hr0, rfl, hK1, hl1, hl8, hs⟩
  obtain ⟨G, hg, rfl, e2⟩ := grow_out hg0 hb2
  rw [set_other p2] at hr0
  -- the slice has a block of its own
  rcases hg with ⟨e, _, _⟩ | ⟨bx, clx, hbx, rfl, rfl⟩
  · rw [e] at hl1; simp at hl1
  simp +contextual -dsimp -implicitDefEqProofs (maxSteps := 5000000) only [go_sem, reduceIte, reduceCtorEq, Nat.reduceEqDiff, Nat.reduceBEq, Nat.reduceAdd, Nat.reduceLeDiff, Nat.reduceMul, Nat.reduceLT, Int.reduceEq, Int.reduceLT, Int.reduceLE]
  intro b3 hb3c
  obtain ⟨q1, q2, q3, q4, w1, w2, hb3f⟩ := hb3c
  have hb3 : (F.set bx ⟨2, 127, l.map rClass⟩) b3 = none := by rw [set_other w1]; exact hb3f
  rw [br_out q1]
  have n3 : ∀ (G : AHeap) (K2 K4 : ABlk), G br = none → ((G.set b2 K2).set b3 K4) br = none := fun G K2 K4 h => by rw [set_other q2, set_other p2]; exact h
  have hb3' := hb3
  have e2' := e2
  have hr' := hr0
  rw [set_none] at hb3' e2' hr'
  have w1 := hb3'.1
  have w2 := hb3'.2.1
  have w3 := e2'.1
  have w4 := e2'.2.1
  have w5 := hr'.1
  have w6 := hr'.2.1
  have fin : ∀ (l' : List Class) (K2 K3 : ABlk) (tm : Tm), l'.length = l.length → shortNames l' → RdK (n + 25) K3 → tm 2 = .ptr b2 1 0 0 → retR Tryz.prog [.cell 2 25] (fun r H' => ∃ x l G K', r = .agg [x] ∧ Grow rClass 2 127 F G x l ∧ G br = none ∧ H' = G.set br K' ∧ RdK (n + 25) K' ∧ l.length ≤ 8 ∧ shortNames l) tm
      ((((F.set bx ⟨2, 127, l'.map rClass⟩).set b2 ⟨1, 25, [[.sl bx 2 0 l.length clx]]⟩).set b3 K2).set br K3) := by
    intro l' K2 K3 tm hl' hs' hK h2
    have f2 : (F.set bx ⟨2, 127, l'.map rClass⟩) b2 = none := by rw [set_other w3]; exact hb2
    have f3 : (F.set bx ⟨2, 127, l'.map rClass⟩) b3 = none := by rw [set_other w1]; exact hb3'.2.2
    refine retR_less (l := [.agg [.sl bx 2 0 l.length clx]]) (H' := (F.set bx ⟨2, 127, l'.map rClass⟩).set br K3) ?_ (le_ch (le_s1 (le_s1 (AHeap.le_refl _) f2) f3)) ⟨_, l', _, K3, rfl, .inr ⟨bx, clx, hbx, by rw [hl'], rfl⟩, by rw [set_other w5]; exact hF, rfl, hK, by omega, hs'⟩
    simp only [resA, go_sem, reduceIte, reduceCtorEq, Nat.reduceEqDiff, Nat.reduceBEq, Nat.reduceAdd, Nat.reduceLeDiff, Nat.reduceMul, Nat.reduceLT, Int.reduceEq, Int.reduceLT, Int.reduceLE, p1, p2, q1, q2, q3, q4, h2]
  refine k_pick l.length hK1 (n3 _ _ _ hr0) (by omega) rfl fun v K2 v0 v1 v2 hK2 => ?_
  have vl := v1 (by omega)
  have vn : v.toNat < l.length := by omega
  simp +contextual -dsimp -implicitDefEqProofs (maxSteps := 5000000) only [go_sem, reduceIte, reduceCtorEq, Nat.reduceEqDiff, Nat.reduceBEq, Nat.reduceAdd, Nat.reduceLeDiff, Nat.reduceMul, Nat.reduceLT, Int.reduceEq, Int.reduceLT, Int.reduceLE, p1, p2, q1, q2, q3, q4, w1, w2, w3, w4, w5, w6]
  refine k_pick 24 hK2 (n3 _ _ _ hr0) (by omega) rfl fun z K3 z0 z1 z2 hK3 => ?_
  by_cases c0 : z = 0
  · simp +contextual -dsimp -implicitDefEqProofs (maxSteps := 5000000) only [go_sem, reduceIte, reduceCtorEq, Nat.reduceEqDiff, Nat.reduceBEq, Nat.reduceAdd, Nat.reduceLeDiff, Nat.reduceMul, Nat.reduceLT, Int.reduceEq, Int.reduceLT, Int.reduceLE, c0, p1, p2, q1, q2, q3, q4, w1, w2, w3, w4, w5, w6]
    refine draw_intro [0, 1, 0, 0, 0, 3, 0, 0, 2] _ (by kernel_rfl) (le_set (n3 _ _ _ hr0)) ?_
    simp +contextual -dsimp -implicitDefEqProofs (maxSteps := 5000000) only [go_sem, reduceIte, reduceCtorEq, Nat.reduceEqDiff, Nat.reduceBEq, Nat.reduceAdd, Nat.reduceLeDiff, Nat.reduceMul, Nat.reduceLT, Int.reduceEq, Int.reduceLT, Int.reduceLE, c0, p1, p2, q1, q2, q3, q4, w1, w2, w3, w4, w5, w6]
    refine k_of [[], [97, 110, 121], [65], [116, 111, 111, 108, 111, 110, 103]] _ hK3 (n3 _ _ _ hr0) (by omega) (by simp) rfl rfl fun s K4 hsm hK4 => ⟨le_set (n3 _ _ _ hr0), ?_⟩
    have hsl : s.length ≤ 10 := by simp at hsm; rcases hsm with rfl | rfl | rfl | rfl <;> decide
    simp +contextual -dsimp -implicitDefEqProofs (maxSteps := 5000000) only [go_sem, reduceIte, reduceCtorEq, Nat.reduceEqDiff, Nat.reduceBEq, Nat.reduceAdd, Nat.reduceLeDiff, Nat.reduceMul, Nat.reduceLT, Int.reduceEq, Int.reduceLT, Int.reduceLE, c0, p1, p2, q1, q2, q3, q4, w1, w2, w3, w4, w5, w6, v0, vl, vn]
    rw [wrO_y (y := { l.getD v.toNat default with name := s }) vn rfl]
    simp +contextual -dsimp -implicitDefEqProofs (maxSteps := 5000000) only [go_sem, reduceIte, reduceCtorEq, Nat.reduceEqDiff, Nat.reduceBEq, Nat.reduceAdd, Nat.reduceLeDiff, Nat.reduceMul, Nat.reduceLT, Int.reduceEq, Int.reduceLT, Int.reduceLE, c0, p1, p2, q1, q2, q3, q4, w1, w2, w3, w4, w5, w6, v0, vl, vn]
    refine fin (l.set v.toNat { l.getD v.toNat default with name := s }) _ K4 _ (by simp) (fun c hc => ?_) (rdk_mono hK4 (by omega)) ?_
    · rcases List.mem_or_eq_of_mem_set hc with q | rfl
      · exact hs c q
      · exact hsl
    · rfl
  · by_cases c1 : z = 1
    · simp +contextual -dsimp -implicitDefEqProofs (maxSteps := 5000000) only [go_sem, reduceIte, reduceCtorEq, Nat.reduceEqDiff, Nat.reduceBEq, Nat.reduceAdd, Nat.reduceLeDiff, Nat.reduceMul, Nat.reduceLT, Int.reduceEq, Int.reduceLT, Int.reduceLE, c0, c1, p1, p2, q1, q2, q3, q4, w1, w2, w3, w4, w5, w6]
      refine draw_intro [0, 1, 0, 0, 0, 0, 3, 0, 0, 2] _ (by kernel_rfl) (le_set (n3 _ _ _ hr0)) ?_
      simp +contextual -dsimp -implicitDefEqProofs (maxSteps := 5000000) only [go_sem, reduceIte, reduceCtorEq, Nat.reduceEqDiff, Nat.reduceBEq, Nat.reduceAdd, Nat.reduceLeDiff, Nat.reduceMul, Nat.reduceLT, Int.reduceEq, Int.reduceLT, Int.reduceLE, c0, p1, p2, q1, q2, q3, q4, w1, w2, w3, w4, w5, w6]
      refine k_one [v, -1, 8, -2] _ hK3 (n3 _ _ _ hr0) (by omega) (by simp) rfl rfl fun s K4 hsm hK4 => ⟨le_set (n3 _ _ _ hr0), ?_⟩
      simp +contextual -dsimp -implicitDefEqProofs (maxSteps := 5000000) only [go_sem, reduceIte, reduceCtorEq, Nat.reduceEqDiff, Nat.reduceBEq, Nat.reduceAdd, Nat.reduceLeDiff, Nat.reduceMul, Nat.reduceLT, Int.reduceEq, Int.reduceLT, Int.reduceLE, c0, p1, p2, q1, q2, q3, q4, w1, w2, w3, w4, w5, w6, v0, vl, vn]
      rw [wrO_y (y := { l.getD v.toNat default with parent := s }) vn rfl]
      simp +contextual -dsimp -implicitDefEqProofs (maxSteps := 5000000) only [go_sem, reduceIte, reduceCtorEq, Nat.reduceEqDiff, Nat.reduceBEq, Nat.reduceAdd, Nat.reduceLeDiff, Nat.reduceMul, Nat.reduceLT, Int.reduceEq, Int.reduceLT, Int.reduceLE, c0, p1, p2, q1, q2, q3, q4, w1, w2, w3, w4, w5, w6, v0, vl, vn]
      refine fin (l.set v.toNat { l.getD v.toNat default with parent := s }) _ K4 _ (by simp) (fun c hc => ?_) (rdk_mono hK4 (by omega)) ?_
      · rcases List.mem_or_eq_of_mem_set hc with q | rfl
        · exact hs c q
        · exact hs (l.getD v.toNat default) (by rw [List.getD_eq_getElem?_getD, List.getElem?_eq_getElem vn]; exact List.getElem_mem vn)
      · rfl
    · by_cases c2 : z = 2
      · simp +contextual -dsimp -implicitDefEqProofs (maxSteps := 5000000) only [go_sem, reduceIte, reduceCtorEq, Nat.reduceEqDiff, Nat.reduceBEq, Nat.reduceAdd, Nat.reduceLeDiff, Nat.reduceMul, Nat.reduceLT, Int.reduceEq, Int.reduceLT, Int.reduceLE, c0, c1, c2, p1, p2, q1, q2, q3, q4, w1, w2, w3, w4, w5, w6]
        refine retR_less (l := [.agg [.vsl [] true]]) (H' := F.set br K3) ?_ (le_ch (le_s1 (le_s1 (le_s1 (AHeap.le_refl _) hbx) hb2) hb3f)) ⟨_, [], F, K3, rfl, grow_nil, hF, rfl, rdk_mono hK3 (by omega), by simp, fun c hc => by cases hc⟩
        simp only [resA, go_sem, reduceIte, reduceCtorEq, Nat.reduceEqDiff, Nat.reduceBEq, Nat.reduceAdd, Nat.reduceLeDiff, Nat.reduceMul, Nat.reduceLT, Int.reduceEq, Int.reduceLT, Int.reduceLE, p1, p2, q1, q2, q3, q4, w1, w2, w3, w4, w5, w6]
      · simp +contextual -dsimp -implicitDefEqProofs (maxSteps := 5000000) only [go_sem, reduceIte, reduceCtorEq, Nat.reduceEqDiff, Nat.reduceBEq, Nat.reduceAdd, Nat.reduceLeDiff, Nat.reduceMul, Nat.reduceLT, Int.reduceEq, Int.reduceLT, Int.reduceLE, c0, c1, c2, p1, p2, q1, q2, q3, q4, w1, w2, w3, w4, w5, w6]
        refine fin l _ K3 _ rfl hs (rdk_mono hK3 (by omega)) ?_
        rfl
end
end
end Go.Proofs.YtckipeopgimenaaGreat
