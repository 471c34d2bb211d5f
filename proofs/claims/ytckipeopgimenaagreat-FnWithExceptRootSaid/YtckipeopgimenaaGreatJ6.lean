/- Walks and plain laws that the claims of this seat lean on. No condition. -/
import Derived.Test.YtckipeopgimenaaGreatJ5
import Derived.Test.YtckipeopgimenaaGreatJ2
set_option linter.unusedVariables false
set_option linter.unusedSimpArgs false
namespace Go.Proofs.YtckipeopgimenaaGreat
open Go Go.Sim
section
set_option maxRecDepth 100000
attribute [local go_sem ↓] aw_skip aw_ret aw_exit aw_region aw_draw aw_seq aw_block aw_loop aw_cond frz_nil frz_cons sq_normal sq_ret sq_exit exB_normal exB_ret exB_same exB_other retQ_ret retQ_normal ret0_ret ret0_normal ao_nil go1 g_move g_assign g_pick g_build g_load g_binOp g_unOp g_convert g_fieldAddr g_field g_indexAddr g_index g_extract g_lookup g_slice g_nilCheck g_len g_makeFunc h_call h_append h_alloc h_box h_buildSlice h_makeSlice h_store gV i_box i_buildSlice i_move i_assign i_build i_load i_binOp i_unOp i_convert i_fieldAddr i_field i_indexAddr i_index i_extract i_lookup i_makeMap i_mapUpdate i_slice i_nilCheck i_makeFunc i_len i_max i_min i_alloc i_makeSlice i_store i_append i_call i_pick boxI boxA buildSliceI buildSliceA makeSliceA makeMapA allocA storeA p_move p_assign p_pick p_build p_load p_binOp p_unOp p_convert p_fieldAddr p_field p_indexAddr p_index p_extract p_lookup p_makeMap p_mapUpdate p_slice p_nilCheck p_makeFunc p_len p_max p_min p_alloc p_box p_buildSlice p_makeSlice p_store p_append p_call x_nil x_go1 x_g0 x_g1 x_g2 x_g3 x_s0 x_s1 x_s2 x_s3 u_move u_assign u_pick u_build u_load u_binOp u_unOp u_convert u_fieldAddr u_field u_indexAddr u_index u_extract u_lookup u_slice u_nilCheck u_makeFunc u_len u_buildSlice x_s4 x_g4 rq_normal rq_ret rq_exit aw_range
attribute [local go_sem] frzV_sl frzK_some set_none set_other AHeap.set_self set_del set_set cnd_t cnd_f cnd_b retA_one retA_two retA_three retA_four retA_nil gIf_b mrgV_b mrgV_wh mrgV_U gIf_U gIf_wh mrgB_f mrgB_some mrgB_if wh_true wh_false keepA_some keepA_if gD_zero gD_succ gT_some bxA_t bxA_f callA_fn ev_tmp ev_const ev_global ev_func oc_bool oc_int oc_string oc_nil oc_nilptr oc_nilfunc cl_bool cl_int cl_string cl_nil updO_some updO_none upd_same upd_other init_at pickA_b pickA_wh selA_t selA_f selA_and selA_or selA_orn selA_orm selA_bb selA_ii beqt b_add b_sub b_mul b_and b_or b_xor b_eql b_neq b_lss b_leq b_gtr b_geq b_quo b_rem b_shr b_seql b_sneq b_sadd b_beql b_bneq b_aeql b_aneq u_not u_neg isConstOp eqA eqCellV List.getD_cons_zero List.getD_cons_succ List.map_cons List.map_nil List.nil_append List.cons_append List.append_nil if_true if_false Option.map_some Option.map_none ne_eq not_false_eq_true oneA ldv ld1v ld1s wr1s ldRow stRow row_lit row_agg row_vsl row_sl row_ptr row_fn one_I one_B one_S one_vsl one_sl one_ptr one_fn extractA okA rI rS rU rClass rFault rExit rStart rLine Int.toNat_natCast List.length_cons List.length_nil List.length_map List.all_cons List.all_nil Bool.and_true Nat.zero_add List.getElem?_cons_zero List.getElem?_cons_succ List.take_succ_cons List.take_zero List.drop_succ_cons List.drop_zero and_self true_and and_true implies_true decide_eq_true_eq decide_eq_false_iff_not Bool.or_eq_true Bool.or_eq_false_iff Bool.and_eq_true Bool.not_eq_true' Bool.not_eq_false' beq_false decide_true decide_false Int.ofNat_lt Int.ofNat_le Int.natCast_nonneg Bool.or_true Bool.or_false Bool.true_or Bool.false_or beq_self_eq_true List.drop_one Bool.not_true Bool.not_false Bool.not_not Bool.false_eq_true Bool.true_eq_false false_implies true_implies Bool.true_and Bool.false_and Bool.and_false not_true_eq_false Int.natCast_eq_zero Int.natCast_pos Int.natCast_zero false_and and_false or_false false_or or_true true_or Bool.or_self none_le_iff List.replicate_zero Int.toNat_zero List.replicate_succ buildRows List.set_cons_zero List.set_cons_succ List.set_nil List.mapM_nil maxLen_eq Nat.zero_le Nat.mul_one Nat.one_mul bldA fillA spliceA List.take_nil List.drop_nil List.getElem?_nil ld1o wr1o bldSliceA le_same cv_i cvI_t quietT_fn qvd_some ld_o ldO_1 ldO_l wr_o wrO_1 set_2 set_3 set_4 putL_nil putL_cons List.zip_cons_cons List.zip_nil_left List.zip_nil_right List.toList_toArray frzV_set ti1 ti2 tk2 ti3 te3 ts3 tk3 tz3 ti4 tb4 ti5 tk5 tz5 ti9 te9 ts9 tk9 tz9 ti12 tk12 ti13 tp13 tf13_0 tf13_1 ti20 ti21 tk21 tz21 ti22 te22 tz22 ti23 te23 ti24 tp24 tf24_0 ti25 tp25 tf25_0 ti26 te26 ti28 ti29 te29 ti30 te30 ti31 tp31 tf31_0 ti32 tp32 tf32_0 ti33 tp33 tf33_0 tf33_1 tf33_2 tf33_3 ti34 tp34 tf34_0 tf34_1 tf34_2 tf34_3 ti35 ti36 ti37 ti38 ti40 ti42 ti43 ti44 tq44 tp44 tf44_0 tf44_1 tf44_2 ti45 tq45 tp45 tf45_0 tf45_1 tf45_2 ti47 ti48 ti49 tq49 tp49 tf49_0 tf49_1 tf49_2 tf49_3 ti50 tq50 tp50 tf50_0 tf50_1 tf50_2 tf50_3 ti51 ti52 ti54 ti55 ti56 ti57 te57 ti59 ti60 ti61 ti62 ti63 ti64 ti65 ti66 ti67 ti68 tq68 tp68 tf68_0 tf68_1 ti69 tq69 tp69 tf69_0 tf69_1 ti70 ti71 ti72 ti73 ti74 ti75 ti77 ti78 ti79 ti80 ti81 ti82 ti83 ti84 ti85 tq85 tp85 tf85_0 tf85_1 tf85_2 tf85_3 tf85_4 ti86 tq86 tp86 tf86_0 tf86_1 tf86_2 tf86_3 tf86_4 ti87 ti88 ti89 ti90 ti91 ti93 ti94 ti95 ti96 ti97 tq97 tp97 tf97_0 tf97_1 tf97_2 ti98 tq98 tp98 tf98_0 tf98_1 tf98_2 ti99 ti100 ti101 ti102 ti103 ti104 ti105 ti106 ti107 tp107 tf107_0 tf107_1 ti108 tp108 tf108_0 tf108_1 ti109 tp109 tf109_0 tf109_1 tf109_2 tf109_3 tf109_4 ti110 tp110 tf110_0 tf110_1 tf110_2 tf110_3 tf110_4 ti111 ti113 ti114 ti115 ti116 ti117 ti118 ti119 ti120 tp120 tf120_0 tf120_1 tf120_2 tf120_3 ti121 tp121 tf121_0 tf121_1 tf121_2 tf121_3 ti122 tq122 tp122 tf122_0 tf122_1 ti123 tq123 tp123 tf123_0 tf123_1 ti124 ti125 ti126 tq126 tp126 tf126_0 tf126_1 ti127 tq127 tp127 tf127_0 tf127_1 ti128 ti129 ti130 ti131 ti132 ti133 te133 ti134 ti135 ti136 ti137 ti138 ti139 ti140 ti141 ti142 ti143 ti144 tp144 tf144_0 tf144_1 tf144_2 ti145 tp145 tf145_0 tf145_1 tf145_2 ti146 ti147 ti148 ti149 ti150 te150 ti151 ti152 ti153 ti154 ti155 ti156 ti157 ti158 ti159 ti160 ti161 ti162 ti163 ti164 ti165 ti166 ti167 ti168 ti169 ti170 ti171 ti172 ti173 ti174 ti175 tk175 tz175 ti176 ti177 ti178 ti179 ti180 tk180 ti182 ti183 ti184 ti186 ti187 ti188 tk188 tz188 ti189 ti190 tk190 tz190 ti191 tk191 ti192 ti193 ti194 ti195 ti196 ti197 ti199 ti200 ti206 ti210 ti215 fp13_0 fv13_0 fp13_1 fv13_1 fp24_0 fv24_0 fp25_0 fv25_0 fp31_0 fv31_0 fp32_0 fv32_0 fp33_0 fv33_0 fp33_1 fv33_1 fp33_2 fv33_2 fp33_3 fv33_3 fp34_0 fv34_0 fp34_1 fv34_1 fp34_2 fv34_2 fp34_3 fv34_3 fp44_0 fv44_0 fp44_1 fv44_1 fp44_2 fv44_2 fp45_0 fv45_0 fp45_1 fv45_1 fp45_2 fv45_2 fp49_0 fv49_0 fp49_1 fv49_1 fp49_2 fv49_2 fp49_3 fv49_3 fp50_0 fv50_0 fp50_1 fv50_1 fp50_2 fv50_2 fp50_3 fv50_3 fp68_0 fv68_0 fp68_1 fv68_1 fp69_0 fv69_0 fp69_1 fv69_1 fp85_0 fv85_0 fp85_1 fv85_1 fp85_2 fv85_2 fp85_3 fv85_3 fp85_4 fv85_4 fp86_0 fv86_0 fp86_1 fv86_1 fp86_2 fv86_2 fp86_3 fv86_3 fp86_4 fv86_4 fp97_0 fv97_0 fp97_1 fv97_1 fp97_2 fv97_2 fp98_0 fv98_0 fp98_1 fv98_1 fp98_2 fv98_2 fp107_0 fv107_0 fp107_1 fv107_1 fp108_0 fv108_0 fp108_1 fv108_1 fp109_0 fv109_0 fp109_1 fv109_1 fp109_2 fv109_2 fp109_3 fv109_3 fp109_4 fv109_4 fp110_0 fv110_0 fp110_1 fv110_1 fp110_2 fv110_2 fp110_3 fv110_3 fp110_4 fv110_4 fp120_0 fv120_0 fp120_1 fv120_1 fp120_2 fv120_2 fp120_3 fv120_3 fp121_0 fv121_0 fp121_1 fv121_1 fp121_2 fv121_2 fp121_3 fv121_3 fp122_0 fv122_0 fp122_1 fv122_1 fp123_0 fv123_0 fp123_1 fv123_1 fp126_0 fv126_0 fp126_1 fv126_1 fp127_0 fv127_0 fp127_1 fv127_1 fp144_0 fv144_0 fp144_1 fv144_1 fp144_2 fv144_2 fp145_0 fv145_0 fp145_1 fv145_1 fp145_2 fv145_2 lv22 ll22 is22 ix22 sh22 so22 sb22 sm22 sp22 lv23 ll23 is23 ix23 sh23 so23 sb23 sm23 sp23 lv26 ll26 is26 ix26 sh26 so26 sb26 sm26 sp26 lv29 ll29 is29 ix29 sh29 so29 sb29 sm29 sp29 lv30 ll30 is30 ix30 sh30 so30 sb30 sm30 sp30 lv57 ll57 is57 ix57 sh57 so57 sb57 sm57 sp57 lv133 ll133 is133 sp133 lv150 ll150 is150 ix150 sh150 so150 sb150 sm150 sp150 xs9 ls9 sx9 sy9 sz9
section
open Go Go.Sim
set_option maxRecDepth 100000
set_option maxHeartbeats 4000000

theorem c_DrawWithExcept (F : AHeap) (bs : List UInt8) (cb : Bool) : ACalls Tryz.prog 14 [.vsl (bs.map rU) cb] F fun r H' =>
    ∃ t cl, ∃ (p q : List Line) (c1 c2 : Bool) (a : Int), r = .tup [aTree t cl, aProg p c1, I a, aProg q c2] ∧ H' = F ∧ shortNames t ∧ t.length ≤ 8 ∧ p.length ≤ 24 ∧ q.length ≤ 24 := by
  refine acalls_of1 Tryz.func14 rfl (by kernel_rfl) rfl rfl (awp_sound (fz := fun _ => []) (im := fun _ => false) mixed _ _ _ _ (by kernel_rfl) ?_)
  simp +contextual -dsimp -implicitDefEqProofs (maxSteps := 5000000) only [go_sem, reduceIte, reduceCtorEq, Nat.reduceEqDiff, Nat.reduceBEq, Nat.reduceAdd, Nat.reduceLeDiff, Nat.reduceMul, Nat.reduceLT, Int.reduceEq, Int.reduceLT, Int.reduceLE]
  rintro b2 h2
  refine (c_newReader bs cb _).mono ?_
  rintro _ H' ⟨br, rfl, hR⟩
  obtain ⟨K1, hK1, rfl⟩ := rd_to hR
  have f4 : ∀ K2, (F.set b2 K2) br = none := by
    have q := hR; obtain ⟨_, _, _, _, _, q, _⟩ := q
    rw [set_none] at q
    intro K2; rw [set_none]; exact q
  have q1 := f4 ⟨1, 0, []⟩
  rw [set_none] at q1
  obtain ⟨u1, u2, hr⟩ := q1
  simp +contextual -dsimp -implicitDefEqProofs (maxSteps := 5000000) only [go_sem, reduceIte, reduceCtorEq, Nat.reduceEqDiff, Nat.reduceBEq, Nat.reduceAdd, Nat.reduceLeDiff, Nat.reduceMul, Nat.reduceLT, Int.reduceEq, Int.reduceLT, Int.reduceLE]
  refine (c_twoPrograms _ br 0 K1 hK1 (f4 _) (by omega)).mono ?_
  rintro _ _ ⟨t, cl, p, q, c1, c2, K2, rfl, rfl, hK2, ht8, hs, hp, hq⟩
  simp +contextual -dsimp -implicitDefEqProofs (maxSteps := 5000000) only [go_sem, reduceIte, reduceCtorEq, Nat.reduceEqDiff, Nat.reduceBEq, Nat.reduceAdd, Nat.reduceLeDiff, Nat.reduceMul, Nat.reduceLT, Int.reduceEq, Int.reduceLT, Int.reduceLE, u1, u2]
  rintro b6 ⟨s1, s2, s3, s4, hb6⟩
  rw [br_out s1]
  have n6 : ∀ A C, ((F.set b2 A).set b6 C) br = none := fun A C => by rw [set_other s2]; exact f4 _
  refine draw_intro [1, 0, 0, 0, 3, 0, 2, 0, 0, 0] _ (by kernel_rfl) (le_set (n6 _ _)) ?_
  simp +contextual -dsimp -implicitDefEqProofs (maxSteps := 5000000) only [go_sem, reduceIte, reduceCtorEq, Nat.reduceEqDiff, Nat.reduceBEq, Nat.reduceAdd, Nat.reduceLeDiff, Nat.reduceMul, Nat.reduceLT, Int.reduceEq, Int.reduceLT, Int.reduceLE, u1, u2, s1, s2, s3, s4]
  refine (c_aClass _ br _ K2 t cl hK2 (n6 _ _) (by omega)).mono ?_
  rintro _ _ ⟨a, K3, rfl, hK3, rfl⟩
  refine ⟨le_set (n6 _ _), ?_⟩
  simp +contextual -dsimp -implicitDefEqProofs (maxSteps := 5000000) only [go_sem, reduceIte, reduceCtorEq, Nat.reduceEqDiff, Nat.reduceBEq, Nat.reduceAdd, Nat.reduceLeDiff, Nat.reduceMul, Nat.reduceLT, Int.reduceEq, Int.reduceLT, Int.reduceLE, u1, u2, s1, s2, s3, s4]
  refine retR_less (l := [aTree t cl, aProg p c1, I a, aProg q c2]) (H' := F) ?_ (le_s1 (le_s1 (le_s1 (AHeap.le_refl _) h2) hb6) hr) ⟨t, cl, p, q, c1, c2, a, rfl, rfl, hs, ht8, hp, hq⟩
  simp only [resA, go_sem, reduceIte, reduceCtorEq, Nat.reduceEqDiff, Nat.reduceBEq, Nat.reduceAdd, Nat.reduceLeDiff, Nat.reduceMul, Nat.reduceLT, Int.reduceEq, Int.reduceLT, Int.reduceLE, u1, u2, s1, s2, s3, s4]
theorem c_LawWithExcept (bs : List UInt8) (cb : Bool) (H : AHeap) : ACalls Tryz.prog 4 [.vsl (bs.map rU) cb] H fun r H' => r = B true ∧ H' = H := by
  have eqv : ∀ l : List Line, decide (l = l) = true := fun l => by simp
  have ers : ∀ R : Res, resEq R R = true := fun R => by simp [resEq]
  refine acalls_of1 Tryz.func4 rfl (by kernel_rfl) rfl rfl (awp_sound (fz := fun r => if r = 3 then [3] else if r = 8 then [11] else if r = 9 then [12] else if r = 10 then [13] else if r = 11 then [14] else []) (im := fun _ => false) mixed _ _ _ _ (by kernel_rfl) ?_)
  simp +contextual -dsimp -implicitDefEqProofs (maxSteps := 5000000) only [go_sem, reduceIte, reduceCtorEq, Nat.reduceEqDiff, Nat.reduceBEq, Nat.reduceAdd, Nat.reduceLeDiff, Nat.reduceMul, Nat.reduceLT, Int.reduceEq, Int.reduceLT, Int.reduceLE]
  refine ⟨fun hbig => ?_, fun hsmall => ?_⟩
  · refine retR_less (l := [B true]) (H' := H) ?_ (AHeap.le_refl _) ⟨rfl, rfl⟩
    simp only [resA, go_sem, reduceIte, reduceCtorEq, Nat.reduceEqDiff, Nat.reduceBEq, Nat.reduceAdd, Nat.reduceLeDiff, Nat.reduceMul, Nat.reduceLT, Int.reduceEq, Int.reduceLT, Int.reduceLE]
  refine (c_DrawWithExcept H bs cb).mono ?_
  rintro _ H1 ⟨t, cl, p, q, c1, c2, a, rfl, hH, hs, ht8, hp, hq⟩
  rw [hH]
  have hn := short_ok hs
  have hip := innP_len p
  have hiq := innP_len q
  simp +contextual -dsimp -implicitDefEqProofs (maxSteps := 5000000) only [go_sem, reduceIte, reduceCtorEq, Nat.reduceEqDiff, Nat.reduceBEq, Nat.reduceAdd, Nat.reduceLeDiff, Nat.reduceMul, Nat.reduceLT, Int.reduceEq, Int.reduceLT, Int.reduceLE]
  intro b3 hb3
  refine (c_mWithExcept t cl p q c1 c2 a _ hn (by omega) (by omega)).mono ?_
  rintro _ H ⟨⟨d1, rfl⟩, rfl⟩
  simp +contextual -dsimp -implicitDefEqProofs (maxSteps := 5000000) only [go_sem, reduceIte, reduceCtorEq, Nat.reduceEqDiff, Nat.reduceBEq, Nat.reduceAdd, Nat.reduceLeDiff, Nat.reduceMul, Nat.reduceLT, Int.reduceEq, Int.reduceLT, Int.reduceLE]
  refine (c_sWithExcept t cl p q c1 c2 a _ hn (by omega) (by omega)).mono ?_
  rintro _ H ⟨⟨d2, rfl⟩, rfl⟩
  simp +contextual -dsimp -implicitDefEqProofs (maxSteps := 5000000) only [go_sem, reduceIte, reduceCtorEq, Nat.reduceEqDiff, Nat.reduceBEq, Nat.reduceAdd, Nat.reduceLeDiff, Nat.reduceMul, Nat.reduceLT, Int.reduceEq, Int.reduceLT, Int.reduceLE]
  refine (c_equalLines _ _ _ _ _).det ?_
  rw [eqv]
  cases hb : mkB (validB t p && validB t q) t (excP p a q)
  · simp +contextual -dsimp -implicitDefEqProofs (maxSteps := 5000000) only [go_sem, reduceIte, reduceCtorEq, Nat.reduceEqDiff, Nat.reduceBEq, Nat.reduceAdd, Nat.reduceLeDiff, Nat.reduceMul, Nat.reduceLT, Int.reduceEq, Int.reduceLT, Int.reduceLE]
    refine (c_equalLines _ _ _ _ _).det ?_
    rw [eqv]
    simp +contextual -dsimp -implicitDefEqProofs (maxSteps := 5000000) only [go_sem, reduceIte, reduceCtorEq, Nat.reduceEqDiff, Nat.reduceBEq, Nat.reduceAdd, Nat.reduceLeDiff, Nat.reduceMul, Nat.reduceLT, Int.reduceEq, Int.reduceLT, Int.reduceLE]
    refine retR_less (l := [B true]) (H' := H) ?_ (AHeap.le_refl _) ⟨rfl, rfl⟩
    simp only [resA, go_sem, reduceIte, reduceCtorEq, Nat.reduceEqDiff, Nat.reduceBEq, Nat.reduceAdd, Nat.reduceLeDiff, Nat.reduceMul, Nat.reduceLT, Int.reduceEq, Int.reduceLT, Int.reduceLE]
  obtain ⟨hvb, hv3, hvb3, emk⟩ := mk_true hb
  rw [Bool.and_eq_true] at hvb
  have hv1 := validB_true.1 hvb.1
  have hv2 := validB_true.1 hvb.2
  rw [emk]
  have k1 := fun H => c_mRun t cl p c1 H hn (by omega) hvb.1
  have k2 := fun H => c_mRun t cl q c2 H hn (by omega) hvb.2
  have k3 := fun H => c_mRun t cl (excP p a q) d1 H hn (by simp [excP]; omega) hvb3
  have hl1 := res_len3 hv1
  have hl2 := res_len3 hv2
  have hl3 := res_len3 hv3
  obtain ⟨g1, g2⟩ := exc_law hv1 hv2 a
  obtain ⟨s1, s2⟩ := st_run hv1
  have hha := exc_cls hv1 hv2 hv3
  have hh1 := heap_small hv1
  have htv := hv1.1
  rw [← res_ed] at g1 g2
  generalize outCls (runP t p) = oc at g1 g2 s2
  generalize resOf (runP t p) = R1 at hl1 k1 g1 g2 s1 s2 hh1
  generalize resOf (runP t q) = R2 at hl2 k2 g1 g2
  generalize resOf (runP t (excP p a q)) = R3 at hl3 k3 g1 g2
  simp +contextual -dsimp -implicitDefEqProofs (maxSteps := 5000000) only [go_sem, reduceIte, reduceCtorEq, Nat.reduceEqDiff, Nat.reduceBEq, Nat.reduceAdd, Nat.reduceLeDiff, Nat.reduceMul, Nat.reduceLT, Int.reduceEq, Int.reduceLT, Int.reduceLE]
  refine (k1 _).mono ?_
  rintro _ H ⟨⟨c3, c4, rfl⟩, rfl⟩
  simp +contextual -dsimp -implicitDefEqProofs (maxSteps := 5000000) only [go_sem, reduceIte, reduceCtorEq, Nat.reduceEqDiff, Nat.reduceBEq, Nat.reduceAdd, Nat.reduceLeDiff, Nat.reduceMul, Nat.reduceLT, Int.reduceEq, Int.reduceLT, Int.reduceLE]
  intro b9 hb9
  refine (k2 _).mono ?_
  rintro _ H ⟨⟨c5, c6, rfl⟩, rfl⟩
  simp +contextual -dsimp -implicitDefEqProofs (maxSteps := 5000000) only [go_sem, reduceIte, reduceCtorEq, Nat.reduceEqDiff, Nat.reduceBEq, Nat.reduceAdd, Nat.reduceLeDiff, Nat.reduceMul, Nat.reduceLT, Int.reduceEq, Int.reduceLT, Int.reduceLE]
  intro b10 hb10
  refine (k3 _).mono ?_
  rintro _ H ⟨⟨c7, c8, rfl⟩, rfl⟩
  simp +contextual -dsimp -implicitDefEqProofs (maxSteps := 5000000) only [go_sem, reduceIte, reduceCtorEq, Nat.reduceEqDiff, Nat.reduceBEq, Nat.reduceAdd, Nat.reduceLeDiff, Nat.reduceMul, Nat.reduceLT, Int.reduceEq, Int.reduceLT, Int.reduceLE]
  intro b11 hb11
  refine (c_mStartOf t cl R1 _ _ _ hn hh1).det ?_
  simp +contextual -dsimp -implicitDefEqProofs (maxSteps := 5000000) only [go_sem, reduceIte, reduceCtorEq, Nat.reduceEqDiff, Nat.reduceBEq, Nat.reduceAdd, Nat.reduceLeDiff, Nat.reduceMul, Nat.reduceLT, Int.reduceEq, Int.reduceLT, Int.reduceLE]
  intro b14 hb14
  refine ⟨fun hh => ?_, fun hh => ?_⟩
  · have h2 : R1.ed = 2 := by rw [s1] at hh; exact of_decide_eq_true hh
    obtain ⟨s3, s4⟩ := s2 h2
    refine (c_IsA t cl _ a _ hn).det ?_
    rw [s3, htv, s4, hha]
    simp only [Bool.true_and]
    cases hi : isF t oc a
    · simp +contextual -dsimp -implicitDefEqProofs (maxSteps := 5000000) only [go_sem, reduceIte, reduceCtorEq, Nat.reduceEqDiff, Nat.reduceBEq, Nat.reduceAdd, Nat.reduceLeDiff, Nat.reduceMul, Nat.reduceLT, Int.reduceEq, Int.reduceLT, Int.reduceLE, hh]
      rw [g1 (fun h => by rw [hi] at h; cases h.2)]
      refine (c_equalResult _ _ _ _ _ _ _).det ?_
      rw [ers]
      simp +contextual -dsimp -implicitDefEqProofs (maxSteps := 5000000) only [go_sem, reduceIte, reduceCtorEq, Nat.reduceEqDiff, Nat.reduceBEq, Nat.reduceAdd, Nat.reduceLeDiff, Nat.reduceMul, Nat.reduceLT, Int.reduceEq, Int.reduceLT, Int.reduceLE]
      refine retR_less (l := [B true]) (H' := H) ?_ (AHeap.le_refl _) ⟨rfl, rfl⟩
      simp only [resA, go_sem, reduceIte, reduceCtorEq, Nat.reduceEqDiff, Nat.reduceBEq, Nat.reduceAdd, Nat.reduceLeDiff, Nat.reduceMul, Nat.reduceLT, Int.reduceEq, Int.reduceLT, Int.reduceLE]
    obtain ⟨⟨m, gm⟩, g3⟩ := g2 ⟨h2, hi⟩
    have hl13 : R1.log.length ≤ R3.log.length := by rw [gm]; simp
    simp +contextual -dsimp -implicitDefEqProofs (maxSteps := 5000000) only [go_sem, reduceIte, reduceCtorEq, Nat.reduceEqDiff, Nat.reduceBEq, Nat.reduceAdd, Nat.reduceLeDiff, Nat.reduceMul, Nat.reduceLT, Int.reduceEq, Int.reduceLT, Int.reduceLE, hh]
    refine aloop mixed (fz := fun r => if r = 3 then [3] else if r = 8 then [11] else if r = 9 then [12] else if r = 10 then [13] else if r = 11 then [14] else []) (im := fun _ => false) (by kernel_rfl) (fun x tm H' => ∃ k : Nat, x = q.length - k ∧ k ≤ q.length ∧ H' = H ∧ (∀ i, i < k → (q.getD i default).kind ≠ 3) ∧ tm 6 = aProg q c2 ∧ tm 11 = .vptr [[.vsl (R1.log.map rI) c3, I R1.ed, I R1.val, .vsl (R1.heap.map rFault) c4]] 0 0 ∧ tm 12 = .vptr [[.vsl (R2.log.map rI) c5, I R2.ed, I R2.val, .vsl (R2.heap.map rFault) c6]] 0 0 ∧ tm 13 = .vptr [[.vsl (R3.log.map rI) c7, I R3.ed, I R3.val, .vsl (R3.heap.map rFault) c8]] 0 0 ∧ tm 16 = I k) q.length ⟨0, by omega, by omega, rfl, fun i hi => by omega, ?_⟩ ?_
    · simp +contextual -dsimp -implicitDefEqProofs (maxSteps := 5000000) only [go_sem, reduceIte, reduceCtorEq, Nat.reduceEqDiff, Nat.reduceBEq, Nat.reduceAdd, Nat.reduceLeDiff, Nat.reduceMul, Nat.reduceLT, Int.reduceEq, Int.reduceLT, Int.reduceLE]
    · rintro x tm H ⟨k, rfl, hk, rfl, hno, t6, t11, t12, t13, t16⟩
      by_cases hlt : k < q.length
      · simp +contextual -dsimp -implicitDefEqProofs (maxSteps := 5000000) only [go_sem, reduceIte, reduceCtorEq, Nat.reduceEqDiff, Nat.reduceBEq, Nat.reduceAdd, Nat.reduceLeDiff, Nat.reduceMul, Nat.reduceLT, Int.reduceEq, Int.reduceLT, Int.reduceLE, t6, t11, t12, t13, t16, hlt]
        refine ⟨fun h3 => ?_, fun h3 => ?_⟩
        · refine retR_less (l := [B true]) (H' := H) ?_ (AHeap.le_refl _) ⟨rfl, rfl⟩
          simp only [resA, go_sem, reduceIte, reduceCtorEq, Nat.reduceEqDiff, Nat.reduceBEq, Nat.reduceAdd, Nat.reduceLeDiff, Nat.reduceMul, Nat.reduceLT, Int.reduceEq, Int.reduceLT, Int.reduceLE]
          simp only [hl13, decide_true]
        · refine ⟨_, by omega, k + 1, rfl, hlt, fun i hi => ?_, I_wrap (by omega) (by omega) (by omega)⟩
          rcases Nat.lt_or_ge i k with h | h
          · exact hno i h
          · rw [show i = k by omega]; exact h3
      · have hall : ∀ y ∈ q, y.kind ≠ 3 := by
          intro y hy
          obtain ⟨i, hi, rfl⟩ := List.mem_iff_getElem.1 hy
          have := hno i (by omega)
          rwa [List.getD_eq_getElem?_getD, List.getElem?_eq_getElem hi] at this
        obtain ⟨f1, f2, f3⟩ := g3 hall
        simp +contextual -dsimp -implicitDefEqProofs (maxSteps := 5000000) only [go_sem, reduceIte, reduceCtorEq, Nat.reduceEqDiff, Nat.reduceBEq, Nat.reduceAdd, Nat.reduceLeDiff, Nat.reduceMul, Nat.reduceLT, Int.reduceEq, Int.reduceLT, Int.reduceLE, t6, t11, t12, t13, t16, hlt]
        refine draw_intro [0, 1, 0, 0, 0, 3, 0, 1, 3, 2, 0, 0, 0, 0, 0, 0, 0, 0, 0, 0, 0, 0, 0, 0, 0, 0, 0, 0, 0, 0] _ (by kernel_rfl) (AHeap.le_refl _) ?_
        simp +contextual -dsimp -implicitDefEqProofs (maxSteps := 5000000) only [go_sem, reduceIte, reduceCtorEq, Nat.reduceEqDiff, Nat.reduceBEq, Nat.reduceAdd, Nat.reduceLeDiff, Nat.reduceMul, Nat.reduceLT, Int.reduceEq, Int.reduceLT, Int.reduceLE, t6, t11, t12, t13, t16, hlt]
        refine grow_append (m := R1.log) te29 ti3 rI_len (by decide) grow_nil (by show (0 + R1.log.length) * 8 ≤ _; omega) (by show 0 + R1.log.length ≤ _; omega) rfl fun x1 H1 hg1 => ?_
        simp +contextual -dsimp -implicitDefEqProofs (maxSteps := 5000000) only [go_sem, reduceIte, reduceCtorEq, Nat.reduceEqDiff, Nat.reduceBEq, Nat.reduceAdd, Nat.reduceLeDiff, Nat.reduceMul, Nat.reduceLT, Int.reduceEq, Int.reduceLT, Int.reduceLE, t6, t11, t12, t13, t16, hlt]
        refine ⟨grow_le hg1, ?_⟩
        refine grow_append (m := R2.log) te29 ti3 rI_len (by decide) hg1 (by show (R1.log.length + R2.log.length) * 8 ≤ _; omega) (by show R1.log.length + R2.log.length ≤ _; omega) rfl fun x2 H2 hg2 => ?_
        rw [List.nil_append] at hg2
        obtain ⟨c9, hz⟩ := grow_fz hg2
        simp +contextual -dsimp -implicitDefEqProofs (maxSteps := 5000000) only [go_sem, reduceIte, reduceCtorEq, Nat.reduceEqDiff, Nat.reduceBEq, Nat.reduceAdd, Nat.reduceLeDiff, Nat.reduceMul, Nat.reduceLT, Int.reduceEq, Int.reduceLT, Int.reduceLE, t6, t11, t12, t13, t16, hlt]
        refine ⟨grow_le hg2, ?_⟩
        refine acalls_drop [.vsl (R3.log.map rI) c7, .vsl ((R1.log ++ R2.log).map rI) c9] (grow_le hg2) (.cons (.same _) (.cons hz .nil)) ?_
        refine (c_equalInts _ _ _ _ _).det ?_
        rw [f1, decide_eq_true (rfl : R1.log ++ R2.log = _)]
        simp +contextual -dsimp -implicitDefEqProofs (maxSteps := 5000000) only [go_sem, reduceIte, reduceCtorEq, Nat.reduceEqDiff, Nat.reduceBEq, Nat.reduceAdd, Nat.reduceLeDiff, Nat.reduceMul, Nat.reduceLT, Int.reduceEq, Int.reduceLT, Int.reduceLE, t6, t11, t12, t13, t16, hlt, f2]
        rcases f3 with f3 | f3
        all_goals
          refine retR_less (l := [B true]) (H' := H) ?_ (AHeap.le_refl _) ⟨rfl, rfl⟩
          simp only [resA, go_sem, reduceIte, reduceCtorEq, Nat.reduceEqDiff, Nat.reduceBEq, Nat.reduceAdd, Nat.reduceLeDiff, Nat.reduceMul, Nat.reduceLT, Int.reduceEq, Int.reduceLT, Int.reduceLE, t6, t11, t12, t13, t16, f2, f3]
  · have h2 : R1.ed ≠ 2 := by
      intro h; rw [s1, decide_eq_true h] at hh; first | cases hh | exact hh rfl
    rw [g1 (fun h => h2 h.1)]
    refine (c_equalResult _ _ _ _ _ _ _).det ?_
    rw [ers]
    simp +contextual -dsimp -implicitDefEqProofs (maxSteps := 5000000) only [go_sem, reduceIte, reduceCtorEq, Nat.reduceEqDiff, Nat.reduceBEq, Nat.reduceAdd, Nat.reduceLeDiff, Nat.reduceMul, Nat.reduceLT, Int.reduceEq, Int.reduceLT, Int.reduceLE]
    refine retR_less (l := [B true]) (H' := H) ?_ (AHeap.le_refl _) ⟨rfl, rfl⟩
    simp only [resA, go_sem, reduceIte, reduceCtorEq, Nat.reduceEqDiff, Nat.reduceBEq, Nat.reduceAdd, Nat.reduceLeDiff, Nat.reduceMul, Nat.reduceLT, Int.reduceEq, Int.reduceLT, Int.reduceLE]
theorem run_nil (t : List Class) : (resOf (runP t [])).log = [] ∧ (resOf (runP t [])).ed = 0 := by
  have e : forestP [] = .nil := forestP_flat .nil
  have e2 : (runP t []).1.ed = 0 ∧ (runP t []).2.log = [] := by
    rw [runP_def, e]
    exact ⟨rfl, rfl⟩
  exact ⟨by rw [res_log]; exact e2.2, by rw [res_ed]; exact e2.1⟩
theorem root_law {t : List Class} {p : List Line} (hp : ValidP t p) (hq : ValidP t []) : (resOf (runP t (excP p 0 []))).ed ≠ 2 ∧ (resOf (runP t (excP p 0 []))).log = (resOf (runP t p)).log := by
  obtain ⟨g1, g2⟩ := exc_law hp hq 0
  obtain ⟨_, s2⟩ := st_run hp
  obtain ⟨n1, n2⟩ := run_nil t
  rw [← res_ed] at g1 g2
  by_cases h2 : (resOf (runP t p)).ed = 2
  · have hh := hasF_spec (s2 h2).2
    obtain ⟨_, g3⟩ := g2 ⟨h2, isF_root hp.1 hh.1 hh.2⟩
    obtain ⟨f1, f2, _⟩ := g3 (fun x hx => by cases hx)
    rw [n1, List.append_nil] at f1
    rw [n2] at f2
    exact ⟨by rw [f2]; decide, f1⟩
  · rw [g1 (fun h => h2 h.1)]
    exact ⟨h2, rfl⟩
theorem mkR_len (b : Bool) (t : List Class) (l : List Line) : (mkR b t l).length ≤ l.length := by
  unfold mkR madeF
  split
  · split
    · exact Nat.le_refl _
    · exact Nat.zero_le _
  · exact Nat.zero_le _
theorem c_LawWithExceptRoot (bs : List UInt8) (cb : Bool) (H : AHeap) : ACalls Tryz.prog 5 [.vsl (bs.map rU) cb] H fun r H' => r = B true ∧ H' = H := by
  have eqv : ∀ l : List Line, decide (l = l) = true := fun l => by simp
  have ers : ∀ R : Res, resEq R R = true := fun R => by simp [resEq]
  refine acalls_of1 Tryz.func5 rfl (by kernel_rfl) rfl rfl (awp_sound (fz := fun r => if r = 3 then [3] else if r = 9 then [13] else []) (im := fun _ => false) mixed _ _ _ _ (by kernel_rfl) ?_)
  simp +contextual -dsimp -implicitDefEqProofs (maxSteps := 5000000) only [go_sem, reduceIte, reduceCtorEq, Nat.reduceEqDiff, Nat.reduceBEq, Nat.reduceAdd, Nat.reduceLeDiff, Nat.reduceMul, Nat.reduceLT, Int.reduceEq, Int.reduceLT, Int.reduceLE]
  refine ⟨fun hbig => ?_, fun hsmall => ?_⟩
  · refine retR_less (l := [B true]) (H' := H) ?_ (AHeap.le_refl _) ⟨rfl, rfl⟩
    simp only [resA, go_sem, reduceIte, reduceCtorEq, Nat.reduceEqDiff, Nat.reduceBEq, Nat.reduceAdd, Nat.reduceLeDiff, Nat.reduceMul, Nat.reduceLT, Int.reduceEq, Int.reduceLT, Int.reduceLE]
  refine (c_DrawWithExcept H bs cb).mono ?_
  rintro _ H1 ⟨t, cl, p, q, c1, c2, a, rfl, hH, hs, ht8, hp, hq⟩
  rw [hH]
  have hn := short_ok hs
  have hip := innP_len p
  have hiq := innP_len q
  simp +contextual -dsimp -implicitDefEqProofs (maxSteps := 5000000) only [go_sem, reduceIte, reduceCtorEq, Nat.reduceEqDiff, Nat.reduceBEq, Nat.reduceAdd, Nat.reduceLeDiff, Nat.reduceMul, Nat.reduceLT, Int.reduceEq, Int.reduceLT, Int.reduceLE]
  intro b3 hb3
  refine (c_mWithExcept t cl p q c1 c2 a _ hn (by omega) (by omega)).mono ?_
  rintro _ H ⟨⟨d1, rfl⟩, rfl⟩
  simp +contextual -dsimp -implicitDefEqProofs (maxSteps := 5000000) only [go_sem, reduceIte, reduceCtorEq, Nat.reduceEqDiff, Nat.reduceBEq, Nat.reduceAdd, Nat.reduceLeDiff, Nat.reduceMul, Nat.reduceLT, Int.reduceEq, Int.reduceLT, Int.reduceLE]
  refine (c_sWithExcept t cl p q c1 c2 a _ hn (by omega) (by omega)).mono ?_
  rintro _ H ⟨⟨d2, rfl⟩, rfl⟩
  simp +contextual -dsimp -implicitDefEqProofs (maxSteps := 5000000) only [go_sem, reduceIte, reduceCtorEq, Nat.reduceEqDiff, Nat.reduceBEq, Nat.reduceAdd, Nat.reduceLeDiff, Nat.reduceMul, Nat.reduceLT, Int.reduceEq, Int.reduceLT, Int.reduceLE]
  refine (c_equalLines _ _ _ _ _).det ?_
  rw [eqv]
  cases hb : mkB (validB t p && validB t q) t (excP p a q)
  · simp +contextual -dsimp -implicitDefEqProofs (maxSteps := 5000000) only [go_sem, reduceIte, reduceCtorEq, Nat.reduceEqDiff, Nat.reduceBEq, Nat.reduceAdd, Nat.reduceLeDiff, Nat.reduceMul, Nat.reduceLT, Int.reduceEq, Int.reduceLT, Int.reduceLE]
    refine (c_equalLines _ _ _ _ _).det ?_
    rw [eqv]
    simp +contextual -dsimp -implicitDefEqProofs (maxSteps := 5000000) only [go_sem, reduceIte, reduceCtorEq, Nat.reduceEqDiff, Nat.reduceBEq, Nat.reduceAdd, Nat.reduceLeDiff, Nat.reduceMul, Nat.reduceLT, Int.reduceEq, Int.reduceLT, Int.reduceLE]
    refine retR_less (l := [B true]) (H' := H) ?_ (AHeap.le_refl _) ⟨rfl, rfl⟩
    simp only [resA, go_sem, reduceIte, reduceCtorEq, Nat.reduceEqDiff, Nat.reduceBEq, Nat.reduceAdd, Nat.reduceLeDiff, Nat.reduceMul, Nat.reduceLT, Int.reduceEq, Int.reduceLT, Int.reduceLE]
  obtain ⟨hvb, hv3, hvb3, emk⟩ := mk_true hb
  rw [Bool.and_eq_true] at hvb
  have hv1 := validB_true.1 hvb.1
  have hv2 := validB_true.1 hvb.2
  rw [emk]
  have hnl : (innP []).length = 1 := by simp [innP]
  have hlx : (excP p 0 []).length ≤ 1000 := by simp [excP]; omega
  have hml := mkR_len (validB t p && validB t []) t (excP p 0 [])
  simp +contextual -dsimp -implicitDefEqProofs (maxSteps := 5000000) only [go_sem, reduceIte, reduceCtorEq, Nat.reduceEqDiff, Nat.reduceBEq, Nat.reduceAdd, Nat.reduceLeDiff, Nat.reduceMul, Nat.reduceLT, Int.reduceEq, Int.reduceLT, Int.reduceLE]
  refine (c_mWithExcept t cl p [] c1 true 0 _ hn (by omega) (by simp)).mono ?_
  rintro _ H ⟨⟨d3, rfl⟩, rfl⟩
  cases hb2 : mkB (validB t p && validB t []) t (excP p 0 [])
  · simp +contextual -dsimp -implicitDefEqProofs (maxSteps := 5000000) only [go_sem, reduceIte, reduceCtorEq, Nat.reduceEqDiff, Nat.reduceBEq, Nat.reduceAdd, Nat.reduceLeDiff, Nat.reduceMul, Nat.reduceLT, Int.reduceEq, Int.reduceLT, Int.reduceLE]
    refine (own_frz (c_mRunProgram t cl (mkR (validB t p && validB t []) t (excP p 0 [])) d3 _ hn (by omega))).mono ?_
    rintro _ H ⟨⟨c3, c4, rfl⟩, rfl⟩
    generalize (if validB t (mkR (validB t p && validB t []) t (excP p 0 [])) = true then resOf (runP t (mkR (validB t p && validB t []) t (excP p 0 []))) else res0) = R3
    simp +contextual -dsimp -implicitDefEqProofs (maxSteps := 5000000) only [go_sem, reduceIte, reduceCtorEq, Nat.reduceEqDiff, Nat.reduceBEq, Nat.reduceAdd, Nat.reduceLeDiff, Nat.reduceMul, Nat.reduceLT, Int.reduceEq, Int.reduceLT, Int.reduceLE]
    intro b13 hb13
    refine draw_intro [0, 0, 0, 0, 0, 0, 0, 0, 1, 0, 0, 3, 2, 0, 0, 0] AHeap.none (by kernel_rfl) none_le ?_
    simp +contextual -dsimp -implicitDefEqProofs (maxSteps := 5000000) only [go_sem, reduceIte, reduceCtorEq, Nat.reduceEqDiff, Nat.reduceBEq, Nat.reduceAdd, Nat.reduceLeDiff, Nat.reduceMul, Nat.reduceLT, Int.reduceEq, Int.reduceLT, Int.reduceLE]
    refine retR_less (l := [B true]) (H' := H) ?_ (AHeap.le_refl _) ⟨rfl, rfl⟩
    simp only [resA, go_sem, reduceIte, reduceCtorEq, Nat.reduceEqDiff, Nat.reduceBEq, Nat.reduceAdd, Nat.reduceLeDiff, Nat.reduceMul, Nat.reduceLT, Int.reduceEq, Int.reduceLT, Int.reduceLE]
  · obtain ⟨hvb5, hv5, hvb6, emk5⟩ := mk_true hb2
    rw [Bool.and_eq_true] at hvb5
    obtain ⟨r1, r2⟩ := root_law hv1 (validB_true.1 hvb5.2)
    have k3 := fun H => c_mRun t cl (excP p 0 []) d3 H hn hlx hvb6
    have k4 := fun H => c_mRunLog t cl p c1 H hn (by omega)
    have elog : logOf t p = (resOf (runP t p)).log := by unfold logOf; rw [if_pos hvb.1]
    rw [elog, ← r2] at k4
    generalize resOf (runP t (excP p 0 [])) = R3 at r1 k3 k4
    rw [emk5]
    simp +contextual -dsimp -implicitDefEqProofs (maxSteps := 5000000) only [go_sem, reduceIte, reduceCtorEq, Nat.reduceEqDiff, Nat.reduceBEq, Nat.reduceAdd, Nat.reduceLeDiff, Nat.reduceMul, Nat.reduceLT, Int.reduceEq, Int.reduceLT, Int.reduceLE]
    refine (k3 _).mono ?_
    rintro _ H ⟨⟨c3, c4, rfl⟩, rfl⟩
    simp +contextual -dsimp -implicitDefEqProofs (maxSteps := 5000000) only [go_sem, reduceIte, reduceCtorEq, Nat.reduceEqDiff, Nat.reduceBEq, Nat.reduceAdd, Nat.reduceLeDiff, Nat.reduceMul, Nat.reduceLT, Int.reduceEq, Int.reduceLT, Int.reduceLE]
    intro b13 hb13
    refine draw_intro [0, 0, 0, 0, 0, 0, 0, 0, 1, 0, 0, 3, 2, 0, 0, 0] AHeap.none (by kernel_rfl) none_le ?_
    simp +contextual -dsimp -implicitDefEqProofs (maxSteps := 5000000) only [go_sem, reduceIte, reduceCtorEq, Nat.reduceEqDiff, Nat.reduceBEq, Nat.reduceAdd, Nat.reduceLeDiff, Nat.reduceMul, Nat.reduceLT, Int.reduceEq, Int.reduceLT, Int.reduceLE]
    refine ⟨fun _ => ?_, fun h => absurd h r1⟩
    refine (k4 _).mono ?_
    rintro _ H ⟨⟨c5, rfl⟩, rfl⟩
    simp +contextual -dsimp -implicitDefEqProofs (maxSteps := 5000000) only [go_sem, reduceIte, reduceCtorEq, Nat.reduceEqDiff, Nat.reduceBEq, Nat.reduceAdd, Nat.reduceLeDiff, Nat.reduceMul, Nat.reduceLT, Int.reduceEq, Int.reduceLT, Int.reduceLE, r1]
    refine (c_equalInts _ _ _ _ _).det ?_
    rw [decide_eq_true (rfl : R3.log = _)]
    simp +contextual -dsimp -implicitDefEqProofs (maxSteps := 5000000) only [go_sem, reduceIte, reduceCtorEq, Nat.reduceEqDiff, Nat.reduceBEq, Nat.reduceAdd, Nat.reduceLeDiff, Nat.reduceMul, Nat.reduceLT, Int.reduceEq, Int.reduceLT, Int.reduceLE, r1]
    refine retR_less (l := [B true]) (H' := H) ?_ (AHeap.le_refl _) ⟨rfl, rfl⟩
    simp only [resA, go_sem, reduceIte, reduceCtorEq, Nat.reduceEqDiff, Nat.reduceBEq, Nat.reduceAdd, Nat.reduceLeDiff, Nat.reduceMul, Nat.reduceLT, Int.reduceEq, Int.reduceLT, Int.reduceLE, r1]
end
end
end Go.Proofs.YtckipeopgimenaaGreat
