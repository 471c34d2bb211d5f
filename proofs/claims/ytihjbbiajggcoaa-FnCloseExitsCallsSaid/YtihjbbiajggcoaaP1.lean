/- The law FnCloseExitsCalls answers true at every input. No condition. -/
import Derived.Test.YtihjbbiajggcoaaFacts
section
set_option linter.unusedVariables false
set_option linter.unusedSimpArgs false
namespace Go.Proofs.Ytihjbbiajggcoaa
open Go Go.Sim
set_option maxRecDepth 100000
attribute [local go_sem ↓] aw_skip aw_ret aw_exit aw_region aw_draw aw_seq aw_block aw_loop aw_cond frz_nil frz_cons sq_normal sq_ret sq_exit exB_normal exB_ret exB_same exB_other retQ_ret retQ_normal ret0_ret ret0_normal ao_nil go1 g_move g_assign g_pick g_build g_load g_binOp g_unOp g_convert g_fieldAddr g_field g_indexAddr g_index g_extract g_slice g_nilCheck g_len g_makeFunc h_call h_append h_alloc h_box h_buildSlice h_makeSlice h_store gV i_box i_buildSlice i_move i_assign i_build i_load i_binOp i_unOp i_convert i_fieldAddr i_field i_indexAddr i_index i_extract i_slice i_nilCheck i_makeFunc i_len i_max i_min i_alloc i_makeSlice i_store i_append i_call i_pick boxI boxA buildSliceI buildSliceA makeSliceA allocA storeA p_move p_assign p_pick p_build p_load p_binOp p_unOp p_convert p_fieldAddr p_field p_indexAddr p_index p_extract p_slice p_nilCheck p_makeFunc p_len p_max p_min p_alloc p_box p_buildSlice p_makeSlice p_store p_append p_call x_nil x_go1 x_g0 x_g1 x_g2 x_g3 x_s0 x_s1 x_s2 x_s3 u_move u_assign u_pick u_build u_load u_binOp u_unOp u_convert u_fieldAddr u_field u_indexAddr u_index u_extract u_slice u_nilCheck u_makeFunc u_len u_buildSlice
attribute [local go_sem] frzV_ptr frzV_sl frzK_some set_none set_other AHeap.set_self set_del set_set cnd_t cnd_f cnd_b retA_one retA_two retA_three retA_four retA_nil gIf_b mrgV_b mrgV_wh mrgV_U gIf_U gIf_wh mrgB_f mrgB_some mrgB_if wh_true wh_false keepA_some keepA_if gD_zero gD_succ gT_some bxA_t bxA_f callA_fn ev_tmp ev_const ev_global ev_func oc_bool oc_int oc_string oc_nil oc_nilptr oc_nilfunc cl_bool cl_int cl_string cl_nil updO_some updO_none upd_same upd_other init_at pickA_b pickA_wh selA_t selA_f selA_and selA_or selA_orn selA_orm selA_bb selA_ii beqt b_add b_sub b_mul b_and b_or b_xor b_eql b_neq b_lss b_leq b_gtr b_geq b_quo b_rem b_shr b_seql b_sneq b_sadd b_beql b_bneq b_aeql b_aneq u_not u_neg isConstOp eqA eqCellV List.getD_cons_zero List.getD_cons_succ List.map_cons List.map_nil List.nil_append List.cons_append List.append_nil if_true if_false Option.map_some Option.map_none ne_eq not_false_eq_true oneA ldv ld1v ld1s wr1s ldRow stRow row_lit row_agg row_vsl row_sl row_ptr row_fn one_I one_B one_S one_vsl one_sl one_ptr one_fn extractA okA rI rS rU rClass rFault rExit rStart rLine Int.toNat_natCast List.length_cons List.length_nil List.length_map List.all_cons List.all_nil Bool.and_true Nat.zero_add List.getElem?_cons_zero List.getElem?_cons_succ List.take_succ_cons List.take_zero List.drop_succ_cons List.drop_zero and_self true_and and_true implies_true decide_eq_true_eq decide_eq_false_iff_not Bool.or_eq_true Bool.or_eq_false_iff Bool.and_eq_true Bool.not_eq_true' Bool.not_eq_false' beq_false decide_true decide_false Int.ofNat_lt Int.ofNat_le Int.natCast_nonneg Bool.or_true Bool.or_false Bool.true_or Bool.false_or beq_self_eq_true List.drop_one Bool.not_true Bool.not_false Bool.not_not Bool.false_eq_true Bool.true_eq_false false_implies true_implies Bool.true_and Bool.false_and Bool.and_false not_true_eq_false Int.natCast_eq_zero Int.natCast_pos Int.natCast_zero false_and and_false or_false false_or or_true true_or Bool.or_self none_le_iff List.replicate_zero Int.toNat_zero List.replicate_succ buildRows List.set_cons_zero List.set_cons_succ List.set_nil List.mapM_nil maxLen_eq Nat.zero_le Nat.mul_one Nat.one_mul bldA fillA spliceA List.take_nil List.drop_nil List.getElem?_nil ld1o wr1o bldSliceA le_same ti1 ti2 tk2 ti3 te3 ts3 tk3 tz3 ti4 tb4 ti5 tk5 tz5 ti9 te9 ts9 tk9 tz9 ti12 tk12 ti13 tp13 tf13_0 tf13_1 ti20 ti21 tk21 tz21 ti22 te22 tz22 ti23 te23 ti24 tp24 tf24_0 ti25 tp25 tf25_0 ti26 te26 ti27 tq27 tp27 tf27_0 tf27_1 tf27_2 ti28 tq28 tp28 tf28_0 tf28_1 tf28_2 ti30 ti31 te31 ti32 te32 ti33 tp33 tf33_0 ti34 tp34 tf34_0 ti35 tp35 tf35_0 tf35_1 tf35_2 tf35_3 ti36 tp36 tf36_0 tf36_1 tf36_2 tf36_3 ti37 ti38 ti39 ti40 tq40 tp40 tf40_0 tf40_1 tf40_2 ti41 tq41 tp41 tf41_0 tf41_1 tf41_2 ti42 ti43 ti44 ti45 ti47 ti48 ti49 ti50 ti51 ti52 ti53 ti54 ti55 tp55 tf55_0 tf55_1 ti56 tp56 tf56_0 tf56_1 ti57 ti58 ti59 ti60 ti61 ti62 ti63 ti64 ti65 ti66 ti67 tq67 tp67 tf67_0 tf67_1 ti68 tq68 tp68 tf68_0 tf68_1 ti69 tq69 tp69 tf69_0 tf69_1 tf69_2 tf69_3 tf69_4 ti70 tq70 tp70 tf70_0 tf70_1 tf70_2 tf70_3 tf70_4 ti71 ti72 tp72 tf72_0 tf72_1 tf72_2 ti73 tp73 tf73_0 tf73_1 tf73_2 ti74 ti75 ti77 ti78 tq78 tp78 tf78_0 tf78_1 ti79 tq79 tp79 tf79_0 tf79_1 ti80 ti81 ti82 ti83 ti84 ti85 te85 ti86 ti87 te87 ti88 tp88 tf88_0 tf88_1 tf88_2 tf88_3 tf88_4 ti89 tp89 tf89_0 tf89_1 tf89_2 tf89_3 tf89_4 ti90 ti91 ti92 ti93 ti94 ti95 ti96 ti97 ti98 ti99 ti100 ti101 ti102 ti103 ti104 ti105 ti106 ti107 ti108 ti109 ti110 ti111 ti112 ti113 ti114 ti115 ti116 tk116 tz116 ti117 ti118 tk118 ti120 ti121 ti122 ti124 ti125 ti126 tk126 tz126 ti127 ti128 tk128 tz128 ti129 tk129 ti130 ti131 ti132 ti133 ti134 ti135 ti137 ti138 ti144 ti148 ti153 ti154 tq154 tp154 tf154_0 tf154_1 tf154_2 tf154_3 ti155 tq155 tp155 tf155_0 tf155_1 tf155_2 tf155_3 ti157 fp13_0 fv13_0 fp13_1 fv13_1 fp24_0 fv24_0 fp25_0 fv25_0 fp27_0 fv27_0 fp27_1 fv27_1 fp27_2 fv27_2 fp28_0 fv28_0 fp28_1 fv28_1 fp28_2 fv28_2 fp33_0 fv33_0 fp34_0 fv34_0 fp35_0 fv35_0 fp35_1 fv35_1 fp35_2 fv35_2 fp35_3 fv35_3 fp36_0 fv36_0 fp36_1 fv36_1 fp36_2 fv36_2 fp36_3 fv36_3 fp40_0 fv40_0 fp40_1 fv40_1 fp40_2 fv40_2 fp41_0 fv41_0 fp41_1 fv41_1 fp41_2 fv41_2 fp55_0 fv55_0 fp55_1 fv55_1 fp56_0 fv56_0 fp56_1 fv56_1 fp67_0 fv67_0 fp67_1 fv67_1 fp68_0 fv68_0 fp68_1 fv68_1 fp69_0 fv69_0 fp69_1 fv69_1 fp69_2 fv69_2 fp69_3 fv69_3 fp69_4 fv69_4 fp70_0 fv70_0 fp70_1 fv70_1 fp70_2 fv70_2 fp70_3 fv70_3 fp70_4 fv70_4 fp72_0 fv72_0 fp72_1 fv72_1 fp72_2 fv72_2 fp73_0 fv73_0 fp73_1 fv73_1 fp73_2 fv73_2 fp78_0 fv78_0 fp78_1 fv78_1 fp79_0 fv79_0 fp79_1 fv79_1 fp88_0 fv88_0 fp88_1 fv88_1 fp88_2 fv88_2 fp88_3 fv88_3 fp88_4 fv88_4 fp89_0 fv89_0 fp89_1 fv89_1 fp89_2 fv89_2 fp89_3 fv89_3 fp89_4 fv89_4 fp154_0 fv154_0 fp154_1 fv154_1 fp154_2 fv154_2 fp154_3 fv154_3 fp155_0 fv155_0 fp155_1 fv155_1 fp155_2 fv155_2 fp155_3 fv155_3 lv22 ll22 is22 ix22 sh22 so22 sb22 sm22 sp22 lv23 ll23 is23 ix23 sh23 so23 sb23 sm23 sp23 lv26 ll26 is26 ix26 sh26 so26 sb26 sm26 sp26 lv31 ll31 is31 ix31 sh31 so31 sb31 sm31 sp31 lv32 ll32 is32 ix32 sh32 so32 sb32 sm32 sp32 lv85 ll85 is85 ix85 sh85 so85 sb85 sm85 sp85 lv87 ll87 is87 ix87 sh87 so87 sb87 sm87 sp87 xs9 ls9 sx9 sy9 sz9

def inR (n lo hi : Int) : Bool := decide (lo ≤ n) && decide (n ≤ hi)
theorem c_within (n lo hi : Int) (H : AHeap) : ACalls Try.prog 41 [I n, I lo, I hi] H fun r H' => r = B (inR n lo hi) ∧ H' = H := by
  refine acalls_of0 Try.func41 rfl (by kernel_rfl) rfl rfl (awp_sound (fz := fun _ => []) (im := fun _ => false) mixed _ _ _ _ (by kernel_rfl) ?_)
  simp +contextual -dsimp -implicitDefEqProofs (maxSteps := 5000000) only [go_sem, reduceIte, reduceCtorEq, Nat.reduceEqDiff, Nat.reduceBEq, Nat.reduceAdd, Nat.reduceLeDiff, Nat.reduceMul, Nat.reduceLT, Int.reduceEq, Int.reduceLT, Int.reduceLE, inR]
theorem c_inRange (n lo hi : Int) (H : AHeap) : ACalls Try.prog 54 [I n, I lo, I hi] H fun r H' => r = B (inR n lo hi) ∧ H' = H := by
  refine acalls_of0 Try.func54 rfl (by kernel_rfl) rfl rfl (awp_sound (fz := fun _ => []) (im := fun _ => false) mixed _ _ _ _ (by kernel_rfl) ?_)
  simp +contextual -dsimp -implicitDefEqProofs (maxSteps := 5000000) only [go_sem, reduceIte, reduceCtorEq, Nat.reduceEqDiff, Nat.reduceBEq, Nat.reduceAdd, Nat.reduceLeDiff, Nat.reduceMul, Nat.reduceLT, Int.reduceEq, Int.reduceLT, Int.reduceLE, inR]
theorem c_codeOk (n : Int) (H : AHeap) : ACalls Try.prog 30 [I n] H fun r H' => r = B (inR n 0 99) ∧ H' = H := by
  refine acalls_of0 Try.func30 rfl (by kernel_rfl) rfl rfl (awp_sound (fz := fun _ => []) (im := fun _ => false) mixed _ _ _ _ (by kernel_rfl) ?_)
  simp +contextual -dsimp -implicitDefEqProofs (maxSteps := 5000000) only [go_sem, reduceIte, reduceCtorEq, Nat.reduceEqDiff, Nat.reduceBEq, Nat.reduceAdd, Nat.reduceLeDiff, Nat.reduceMul, Nat.reduceLT, Int.reduceEq, Int.reduceLT, Int.reduceLE]
  refine (c_within _ _ _ _).det ?_
  simp +contextual -dsimp -implicitDefEqProofs (maxSteps := 5000000) only [go_sem, reduceIte, reduceCtorEq, Nat.reduceEqDiff, Nat.reduceBEq, Nat.reduceAdd, Nat.reduceLeDiff, Nat.reduceMul, Nat.reduceLT, Int.reduceEq, Int.reduceLT, Int.reduceLE]

def letter (c : UInt8) : Bool := decide (97 ≤ c.toNat) && decide (c.toNat ≤ 122)
def nameF (s : Str) : Bool := s.all letter && inR s.length 1 6
theorem c_nameOk (s : Str) (H : AHeap) (hs : s.length < 4611686018427387904) : ACalls Try.prog 39 [S s] H fun r H' => r = B (nameF s) ∧ H' = H := by
  refine acalls_of0 Try.func39 rfl (by kernel_rfl) rfl rfl (awp_sound (fz := fun _ => []) (im := fun _ => false) mixed _ _ _ _ (by kernel_rfl) ?_)
  simp +contextual -dsimp -implicitDefEqProofs (maxSteps := 5000000) only [go_sem, reduceIte, reduceCtorEq, Nat.reduceEqDiff, Nat.reduceBEq, Nat.reduceAdd, Nat.reduceLeDiff, Nat.reduceMul, Nat.reduceLT, Int.reduceEq, Int.reduceLT, Int.reduceLE]
  refine aloop mixed (fz := fun _ => []) (im := fun _ => false) (by kernel_rfl) (fun m tm H' => ∃ k : Nat, m = s.length - k ∧ k ≤ s.length ∧ H' = H ∧ tm 0 = S s ∧ tm 5 = I s.length ∧ tm 6 = I k ∧ (s.take k).all letter = true) s.length ⟨0, ?_⟩ ?_
  · simp +contextual -dsimp -implicitDefEqProofs (maxSteps := 5000000) only [go_sem, reduceIte, reduceCtorEq, Nat.reduceEqDiff, Nat.reduceBEq, Nat.reduceAdd, Nat.reduceLeDiff, Nat.reduceMul, Nat.reduceLT, Int.reduceEq, Int.reduceLT, Int.reduceLE]
    simp
  · rintro m tm _ ⟨k, rfl, hk, rfl, h0, h5, h6, hl⟩
    simp +contextual -dsimp -implicitDefEqProofs (maxSteps := 5000000) only [go_sem, reduceIte, reduceCtorEq, Nat.reduceEqDiff, Nat.reduceBEq, Nat.reduceAdd, Nat.reduceLeDiff, Nat.reduceMul, Nat.reduceLT, Int.reduceEq, Int.reduceLT, Int.reduceLE, h0, h5, h6]
    refine ⟨fun h => ⟨fun hb => ?_, fun h1 => ⟨_, ?_, k + 1, rfl, h, ?_, ?_⟩⟩, fun h => ?_⟩
    · have : letter (s.getD k 0) = false := by simp only [letter, Bool.and_eq_false_iff, decide_eq_false_iff_not]; omega
      simp [nameF, all_not h this]
    · omega
    · rw [w64 (by omega) (by omega)]; rfl
    · exact all_take h hl (d := 0) (by simp only [letter, Bool.and_eq_true, decide_eq_true_eq]; omega)
    · refine (c_within _ _ _ _).det ?_
      have : k = s.length := by omega
      subst this
      rw [List.take_length] at hl
      simp +contextual -dsimp -implicitDefEqProofs (maxSteps := 5000000) only [go_sem, reduceIte, reduceCtorEq, Nat.reduceEqDiff, Nat.reduceBEq, Nat.reduceAdd, Nat.reduceLeDiff, Nat.reduceMul, Nat.reduceLT, Int.reduceEq, Int.reduceLT, Int.reduceLE, nameF, hl, Bool.true_and]
theorem c_validName (s : Str) (H : AHeap) (hs : s.length < 4611686018427387904) : ACalls Try.prog 71 [S s] H fun r H' => r = B (nameF s) ∧ H' = H := by
  refine acalls_of0 Try.func71 rfl (by kernel_rfl) rfl rfl (awp_sound (fz := fun _ => []) (im := fun _ => false) mixed _ _ _ _ (by kernel_rfl) ?_)
  simp +contextual -dsimp -implicitDefEqProofs (maxSteps := 5000000) only [go_sem, reduceIte, reduceCtorEq, Nat.reduceEqDiff, Nat.reduceBEq, Nat.reduceAdd, Nat.reduceLeDiff, Nat.reduceMul, Nat.reduceLT, Int.reduceEq, Int.reduceLT, Int.reduceLE]
  refine aloop mixed (fz := fun _ => []) (im := fun _ => false) (by kernel_rfl) (fun m tm H' => ∃ k : Nat, m = s.length - k ∧ k ≤ s.length ∧ H' = H ∧ tm 0 = S s ∧ tm 3 = I k ∧ (s.take k).all letter = true) s.length ⟨0, ?_⟩ ?_
  · simp +contextual -dsimp -implicitDefEqProofs (maxSteps := 5000000) only [go_sem, reduceIte, reduceCtorEq, Nat.reduceEqDiff, Nat.reduceBEq, Nat.reduceAdd, Nat.reduceLeDiff, Nat.reduceMul, Nat.reduceLT, Int.reduceEq, Int.reduceLT, Int.reduceLE]
    simp
  · rintro m tm _ ⟨k, rfl, hk, rfl, h0, h3, hl⟩
    simp +contextual -dsimp -implicitDefEqProofs (maxSteps := 5000000) only [go_sem, reduceIte, reduceCtorEq, Nat.reduceEqDiff, Nat.reduceBEq, Nat.reduceAdd, Nat.reduceLeDiff, Nat.reduceMul, Nat.reduceLT, Int.reduceEq, Int.reduceLT, Int.reduceLE, h0, h3]
    refine ⟨fun h => ⟨fun hb => ?_, fun h1 => ⟨_, ?_, k + 1, rfl, h, ?_, ?_⟩⟩, fun h => ?_⟩
    · have : letter (s.getD k 0) = false := by simp only [letter, Bool.and_eq_false_iff, decide_eq_false_iff_not]; omega
      simp [nameF, all_not h this]
    · omega
    · rw [w64 (by omega) (by omega)]; rfl
    · exact all_take h hl (d := 0) (by simp only [letter, Bool.and_eq_true, decide_eq_true_eq]; omega)
    · refine (c_inRange _ _ _ _).det ?_
      have : k = s.length := by omega
      subst this
      rw [List.take_length] at hl
      simp +contextual -dsimp -implicitDefEqProofs (maxSteps := 5000000) only [go_sem, reduceIte, reduceCtorEq, Nat.reduceEqDiff, Nat.reduceBEq, Nat.reduceAdd, Nat.reduceLeDiff, Nat.reduceMul, Nat.reduceLT, Int.reduceEq, Int.reduceLT, Int.reduceLE, nameF, hl, Bool.true_and]
end Go.Proofs.Ytihjbbiajggcoaa
end
section
set_option linter.unusedVariables false
set_option linter.unusedSimpArgs false
namespace Go.Proofs.Ytihjbbiajggcoaa
open Go Go.Sim
set_option maxRecDepth 100000
attribute [local go_sem ↓] aw_skip aw_ret aw_exit aw_region aw_draw aw_seq aw_block aw_loop aw_cond frz_nil frz_cons sq_normal sq_ret sq_exit exB_normal exB_ret exB_same exB_other retQ_ret retQ_normal ret0_ret ret0_normal ao_nil go1 g_move g_assign g_pick g_build g_load g_binOp g_unOp g_convert g_fieldAddr g_field g_indexAddr g_index g_extract g_slice g_nilCheck g_len g_makeFunc h_call h_append h_alloc h_box h_buildSlice h_makeSlice h_store gV i_box i_buildSlice i_move i_assign i_build i_load i_binOp i_unOp i_convert i_fieldAddr i_field i_indexAddr i_index i_extract i_slice i_nilCheck i_makeFunc i_len i_max i_min i_alloc i_makeSlice i_store i_append i_call i_pick boxI boxA buildSliceI buildSliceA makeSliceA allocA storeA p_move p_assign p_pick p_build p_load p_binOp p_unOp p_convert p_fieldAddr p_field p_indexAddr p_index p_extract p_slice p_nilCheck p_makeFunc p_len p_max p_min p_alloc p_box p_buildSlice p_makeSlice p_store p_append p_call x_nil x_go1 x_g0 x_g1 x_g2 x_g3 x_s0 x_s1 x_s2 x_s3 u_move u_assign u_pick u_build u_load u_binOp u_unOp u_convert u_fieldAddr u_field u_indexAddr u_index u_extract u_slice u_nilCheck u_makeFunc u_len u_buildSlice
attribute [local go_sem] frzV_ptr frzV_sl frzK_some set_none set_other AHeap.set_self set_del set_set cnd_t cnd_f cnd_b retA_one retA_two retA_three retA_four retA_nil gIf_b mrgV_b mrgV_wh mrgV_U gIf_U gIf_wh mrgB_f mrgB_some mrgB_if wh_true wh_false keepA_some keepA_if gD_zero gD_succ gT_some bxA_t bxA_f callA_fn ev_tmp ev_const ev_global ev_func oc_bool oc_int oc_string oc_nil oc_nilptr oc_nilfunc cl_bool cl_int cl_string cl_nil updO_some updO_none upd_same upd_other init_at pickA_b pickA_wh selA_t selA_f selA_and selA_or selA_orn selA_orm selA_bb selA_ii beqt b_add b_sub b_mul b_and b_or b_xor b_eql b_neq b_lss b_leq b_gtr b_geq b_quo b_rem b_shr b_seql b_sneq b_sadd b_beql b_bneq b_aeql b_aneq u_not u_neg isConstOp eqA eqCellV List.getD_cons_zero List.getD_cons_succ List.map_cons List.map_nil List.nil_append List.cons_append List.append_nil if_true if_false Option.map_some Option.map_none ne_eq not_false_eq_true oneA ldv ld1v ld1s wr1s ldRow stRow row_lit row_agg row_vsl row_sl row_ptr row_fn one_I one_B one_S one_vsl one_sl one_ptr one_fn extractA okA rI rS rU rClass rFault rExit rStart rLine Int.toNat_natCast List.length_cons List.length_nil List.length_map List.all_cons List.all_nil Bool.and_true Nat.zero_add List.getElem?_cons_zero List.getElem?_cons_succ List.take_succ_cons List.take_zero List.drop_succ_cons List.drop_zero and_self true_and and_true implies_true decide_eq_true_eq decide_eq_false_iff_not Bool.or_eq_true Bool.or_eq_false_iff Bool.and_eq_true Bool.not_eq_true' Bool.not_eq_false' beq_false decide_true decide_false Int.ofNat_lt Int.ofNat_le Int.natCast_nonneg Bool.or_true Bool.or_false Bool.true_or Bool.false_or beq_self_eq_true List.drop_one Bool.not_true Bool.not_false Bool.not_not Bool.false_eq_true Bool.true_eq_false false_implies true_implies Bool.true_and Bool.false_and Bool.and_false not_true_eq_false Int.natCast_eq_zero Int.natCast_pos Int.natCast_zero false_and and_false or_false false_or or_true true_or Bool.or_self none_le_iff List.replicate_zero Int.toNat_zero List.replicate_succ buildRows List.set_cons_zero List.set_cons_succ List.set_nil List.mapM_nil maxLen_eq Nat.zero_le Nat.mul_one Nat.one_mul bldA fillA spliceA List.take_nil List.drop_nil List.getElem?_nil ld1o wr1o bldSliceA le_same ti1 ti2 tk2 ti3 te3 ts3 tk3 tz3 ti4 tb4 ti5 tk5 tz5 ti9 te9 ts9 tk9 tz9 ti12 tk12 ti13 tp13 tf13_0 tf13_1 ti20 ti21 tk21 tz21 ti22 te22 tz22 ti23 te23 ti24 tp24 tf24_0 ti25 tp25 tf25_0 ti26 te26 ti27 tq27 tp27 tf27_0 tf27_1 tf27_2 ti28 tq28 tp28 tf28_0 tf28_1 tf28_2 ti30 ti31 te31 ti32 te32 ti33 tp33 tf33_0 ti34 tp34 tf34_0 ti35 tp35 tf35_0 tf35_1 tf35_2 tf35_3 ti36 tp36 tf36_0 tf36_1 tf36_2 tf36_3 ti37 ti38 ti39 ti40 tq40 tp40 tf40_0 tf40_1 tf40_2 ti41 tq41 tp41 tf41_0 tf41_1 tf41_2 ti42 ti43 ti44 ti45 ti47 ti48 ti49 ti50 ti51 ti52 ti53 ti54 ti55 tp55 tf55_0 tf55_1 ti56 tp56 tf56_0 tf56_1 ti57 ti58 ti59 ti60 ti61 ti62 ti63 ti64 ti65 ti66 ti67 tq67 tp67 tf67_0 tf67_1 ti68 tq68 tp68 tf68_0 tf68_1 ti69 tq69 tp69 tf69_0 tf69_1 tf69_2 tf69_3 tf69_4 ti70 tq70 tp70 tf70_0 tf70_1 tf70_2 tf70_3 tf70_4 ti71 ti72 tp72 tf72_0 tf72_1 tf72_2 ti73 tp73 tf73_0 tf73_1 tf73_2 ti74 ti75 ti77 ti78 tq78 tp78 tf78_0 tf78_1 ti79 tq79 tp79 tf79_0 tf79_1 ti80 ti81 ti82 ti83 ti84 ti85 te85 ti86 ti87 te87 ti88 tp88 tf88_0 tf88_1 tf88_2 tf88_3 tf88_4 ti89 tp89 tf89_0 tf89_1 tf89_2 tf89_3 tf89_4 ti90 ti91 ti92 ti93 ti94 ti95 ti96 ti97 ti98 ti99 ti100 ti101 ti102 ti103 ti104 ti105 ti106 ti107 ti108 ti109 ti110 ti111 ti112 ti113 ti114 ti115 ti116 tk116 tz116 ti117 ti118 tk118 ti120 ti121 ti122 ti124 ti125 ti126 tk126 tz126 ti127 ti128 tk128 tz128 ti129 tk129 ti130 ti131 ti132 ti133 ti134 ti135 ti137 ti138 ti144 ti148 ti153 ti154 tq154 tp154 tf154_0 tf154_1 tf154_2 tf154_3 ti155 tq155 tp155 tf155_0 tf155_1 tf155_2 tf155_3 ti157 fp13_0 fv13_0 fp13_1 fv13_1 fp24_0 fv24_0 fp25_0 fv25_0 fp27_0 fv27_0 fp27_1 fv27_1 fp27_2 fv27_2 fp28_0 fv28_0 fp28_1 fv28_1 fp28_2 fv28_2 fp33_0 fv33_0 fp34_0 fv34_0 fp35_0 fv35_0 fp35_1 fv35_1 fp35_2 fv35_2 fp35_3 fv35_3 fp36_0 fv36_0 fp36_1 fv36_1 fp36_2 fv36_2 fp36_3 fv36_3 fp40_0 fv40_0 fp40_1 fv40_1 fp40_2 fv40_2 fp41_0 fv41_0 fp41_1 fv41_1 fp41_2 fv41_2 fp55_0 fv55_0 fp55_1 fv55_1 fp56_0 fv56_0 fp56_1 fv56_1 fp67_0 fv67_0 fp67_1 fv67_1 fp68_0 fv68_0 fp68_1 fv68_1 fp69_0 fv69_0 fp69_1 fv69_1 fp69_2 fv69_2 fp69_3 fv69_3 fp69_4 fv69_4 fp70_0 fv70_0 fp70_1 fv70_1 fp70_2 fv70_2 fp70_3 fv70_3 fp70_4 fv70_4 fp72_0 fv72_0 fp72_1 fv72_1 fp72_2 fv72_2 fp73_0 fv73_0 fp73_1 fv73_1 fp73_2 fv73_2 fp78_0 fv78_0 fp78_1 fv78_1 fp79_0 fv79_0 fp79_1 fv79_1 fp88_0 fv88_0 fp88_1 fv88_1 fp88_2 fv88_2 fp88_3 fv88_3 fp88_4 fv88_4 fp89_0 fv89_0 fp89_1 fv89_1 fp89_2 fv89_2 fp89_3 fv89_3 fp89_4 fv89_4 fp154_0 fv154_0 fp154_1 fv154_1 fp154_2 fv154_2 fp154_3 fv154_3 fp155_0 fv155_0 fp155_1 fv155_1 fp155_2 fv155_2 fp155_3 fv155_3 lv22 ll22 is22 ix22 sh22 so22 sb22 sm22 sp22 lv23 ll23 is23 ix23 sh23 so23 sb23 sm23 sp23 lv26 ll26 is26 ix26 sh26 so26 sb26 sm26 sp26 lv31 ll31 is31 ix31 sh31 so31 sb31 sm31 sp31 lv32 ll32 is32 ix32 sh32 so32 sb32 sm32 sp32 lv85 ll85 is85 ix85 sh85 so85 sb85 sm85 sp85 lv87 ll87 is87 ix87 sh87 so87 sb87 sm87 sp87 xs9 ls9 sx9 sy9 sz9

abbrev aTree (t : List Class) (cl : Bool) : AV := .agg [.vsl (t.map rClass) cl]
def hasF (t : List Class) (a : Int) : Bool := inR a 0 (t.length - 1)
theorem c_has (t : List Class) (cl : Bool) (a : Int) (H : AHeap) : ACalls Try.prog 29 [aTree t cl, I a] H fun r H' => r = B (hasF t a) ∧ H' = H := by
  refine acalls_len1 (by kernel_rfl) (List.mem_cons_self ..) fun hl => ?_
  rw [List.length_map] at hl
  refine acalls_of0 Try.func29 rfl (by kernel_rfl) rfl rfl (awp_sound (fz := fun _ => []) (im := fun s => s == 2) mixed _ _ _ _ (by kernel_rfl) ?_)
  simp +contextual -dsimp -implicitDefEqProofs (maxSteps := 5000000) only [go_sem, reduceIte, reduceCtorEq, Nat.reduceEqDiff, Nat.reduceBEq, Nat.reduceAdd, Nat.reduceLeDiff, Nat.reduceMul, Nat.reduceLT, Int.reduceEq, Int.reduceLT, Int.reduceLE]
  rw [w64 (by omega) (by omega)]
  exact (c_within _ _ _ _).det (by simp +contextual -dsimp -implicitDefEqProofs (maxSteps := 5000000) only [go_sem, reduceIte, reduceCtorEq, Nat.reduceEqDiff, Nat.reduceBEq, Nat.reduceAdd, Nat.reduceLeDiff, Nat.reduceMul, Nat.reduceLT, Int.reduceEq, Int.reduceLT, Int.reduceLE, hasF])
theorem c_hasClass (t : List Class) (cl : Bool) (a : Int) (H : AHeap) : ACalls Try.prog 53 [aTree t cl, I a] H fun r H' => r = B (hasF t a) ∧ H' = H := by
  refine acalls_len1 (by kernel_rfl) (List.mem_cons_self ..) fun hl => ?_
  rw [List.length_map] at hl
  refine acalls_of0 Try.func53 rfl (by kernel_rfl) rfl rfl (awp_sound (fz := fun _ => []) (im := fun s => s == 2) mixed _ _ _ _ (by kernel_rfl) ?_)
  simp +contextual -dsimp -implicitDefEqProofs (maxSteps := 5000000) only [go_sem, reduceIte, reduceCtorEq, Nat.reduceEqDiff, Nat.reduceBEq, Nat.reduceAdd, Nat.reduceLeDiff, Nat.reduceMul, Nat.reduceLT, Int.reduceEq, Int.reduceLT, Int.reduceLE]
  rw [w64 (by omega) (by omega)]
  exact (c_inRange _ _ _ _).det (by simp +contextual -dsimp -implicitDefEqProofs (maxSteps := 5000000) only [go_sem, reduceIte, reduceCtorEq, Nat.reduceEqDiff, Nat.reduceBEq, Nat.reduceAdd, Nat.reduceLeDiff, Nat.reduceMul, Nat.reduceLT, Int.reduceEq, Int.reduceLT, Int.reduceLE, hasF])

theorem c_named1 (c : Class) (s : Str) (H : AHeap) : ACalls Try.prog 63 [.agg (rClass c), .vptr [rS s] 0 0] H fun r H' => r = B (decide (c.name = s)) ∧ H' = H := by
  refine acalls_of0 Try.func63 rfl (by kernel_rfl) rfl rfl (awp_sound (fz := fun _ => []) (im := fun s => s == 2) mixed _ _ _ _ (by kernel_rfl) ?_)
  simp +contextual -dsimp -implicitDefEqProofs (maxSteps := 5000000) only [go_sem, reduceIte, reduceCtorEq, Nat.reduceEqDiff, Nat.reduceBEq, Nat.reduceAdd, Nat.reduceLeDiff, Nat.reduceMul, Nat.reduceLT, Int.reduceEq, Int.reduceLT, Int.reduceLE]

theorem c_IndexFuncClass (l : List Class) (cl : Bool) (g : FuncId) (caps : List AV) (p : Class → Bool) (H : AHeap)
    (hp : ∀ c, ACalls Try.prog g (.agg (rClass c) :: caps) H fun r H' => r = B (p c) ∧ H' = H) :
    ACalls Try.prog 62 [.vsl (l.map rClass) cl, .fn g [] caps] H fun r H' => r = I (idxF p l) ∧ H' = H := by
  refine acalls_len (by kernel_rfl) (List.mem_cons_self ..) fun hl => ?_
  rw [List.length_map] at hl
  refine acalls_of0 Try.func62 rfl (by kernel_rfl) rfl rfl (awp_sound (fz := fun _ => []) (im := fun _ => false) mixed _ _ _ _ (by kernel_rfl) ?_)
  simp +contextual -dsimp -implicitDefEqProofs (maxSteps := 5000000) only [go_sem, reduceIte, reduceCtorEq, Nat.reduceEqDiff, Nat.reduceBEq, Nat.reduceAdd, Nat.reduceLeDiff, Nat.reduceMul, Nat.reduceLT, Int.reduceEq, Int.reduceLT, Int.reduceLE]
  refine aloop mixed (fz := fun _ => []) (im := fun _ => false) (by kernel_rfl) (fun m tm H' => ∃ k : Nat, m = l.length - k ∧ k ≤ l.length ∧ H' = H ∧ tm 0 = .vsl (l.map rClass) cl ∧ tm 1 = .fn g [] caps ∧ tm 7 = I l.length ∧ tm 8 = I k ∧ (l.take k).any p = false) l.length ⟨0, ?_⟩ ?_
  · simp +contextual -dsimp -implicitDefEqProofs (maxSteps := 5000000) only [go_sem, reduceIte, reduceCtorEq, Nat.reduceEqDiff, Nat.reduceBEq, Nat.reduceAdd, Nat.reduceLeDiff, Nat.reduceMul, Nat.reduceLT, Int.reduceEq, Int.reduceLT, Int.reduceLE]
    simp
  · rintro m tm _ ⟨k, rfl, hk, rfl, h0, h1, h7, h8, hn⟩
    simp +contextual -dsimp -implicitDefEqProofs (maxSteps := 5000000) only [go_sem, reduceIte, reduceCtorEq, Nat.reduceEqDiff, Nat.reduceBEq, Nat.reduceAdd, Nat.reduceLeDiff, Nat.reduceMul, Nat.reduceLT, Int.reduceEq, Int.reduceLT, Int.reduceLE, h0, h1, h7, h8]
    refine ⟨fun h => (hp _).det ?_, fun h => ?_⟩
    · simp +contextual -dsimp -implicitDefEqProofs (maxSteps := 5000000) only [go_sem, reduceIte, reduceCtorEq, Nat.reduceEqDiff, Nat.reduceBEq, Nat.reduceAdd, Nat.reduceLeDiff, Nat.reduceMul, Nat.reduceLT, Int.reduceEq, Int.reduceLT, Int.reduceLE, h0, h1, h7, h8]
      refine ⟨fun hb => ?_, fun hb => ⟨_, ?_, k + 1, rfl, h, I_wrap (by omega) (by omega) (by omega), any_take h hn hb⟩⟩
      · rw [idxF_at h hn hb]
      · omega
    · rw [idxF_none (by omega) hn]
theorem c_named (t : List Class) (cl : Bool) (s : Str) (H : AHeap) : ACalls Try.prog 40 [aTree t cl, S s] H fun r H' => r = I (idxF (fun c => decide (c.name = s)) t) ∧ H' = H := by
  refine acalls_of0 Try.func40 rfl (by kernel_rfl) rfl rfl (awp_sound (fz := fun _ => []) (im := fun s => s == 2 || s == 3) mixed _ _ _ _ (by kernel_rfl) ?_)
  simp +contextual -dsimp -implicitDefEqProofs (maxSteps := 5000000) only [go_sem, reduceIte, reduceCtorEq, Nat.reduceEqDiff, Nat.reduceBEq, Nat.reduceAdd, Nat.reduceLeDiff, Nat.reduceMul, Nat.reduceLT, Int.reduceEq, Int.reduceLT, Int.reduceLE]
  exact (c_IndexFuncClass t cl _ _ _ H fun c => c_named1 c s H).det (by simp +contextual -dsimp -implicitDefEqProofs (maxSteps := 5000000) only [go_sem, reduceIte, reduceCtorEq, Nat.reduceEqDiff, Nat.reduceBEq, Nat.reduceAdd, Nat.reduceLeDiff, Nat.reduceMul, Nat.reduceLT, Int.reduceEq, Int.reduceLT, Int.reduceLE])
theorem c_classNamed (l : List Class) (cl : Bool) (s : Str) (H : AHeap) : ACalls Try.prog 72 [.vsl (l.map rClass) cl, S s] H fun r H' => r = I (idxF (fun c => decide (c.name = s)) l) ∧ H' = H := by
  refine acalls_len (by kernel_rfl) (List.mem_cons_self ..) fun hl => ?_
  rw [List.length_map] at hl
  refine acalls_of0 Try.func72 rfl (by kernel_rfl) rfl rfl (awp_sound (fz := fun _ => []) (im := fun _ => false) mixed _ _ _ _ (by kernel_rfl) ?_)
  simp +contextual -dsimp -implicitDefEqProofs (maxSteps := 5000000) only [go_sem, reduceIte, reduceCtorEq, Nat.reduceEqDiff, Nat.reduceBEq, Nat.reduceAdd, Nat.reduceLeDiff, Nat.reduceMul, Nat.reduceLT, Int.reduceEq, Int.reduceLT, Int.reduceLE]
  refine aloop mixed (fz := fun _ => []) (im := fun _ => false) (by kernel_rfl) (fun m tm H' => ∃ k : Nat, m = l.length - k ∧ k ≤ l.length ∧ H' = H ∧ tm 0 = .vsl (l.map rClass) cl ∧ tm 1 = S s ∧ tm 5 = I k ∧ (l.take k).any (fun c => decide (c.name = s)) = false) l.length ⟨0, ?_⟩ ?_
  · simp +contextual -dsimp -implicitDefEqProofs (maxSteps := 5000000) only [go_sem, reduceIte, reduceCtorEq, Nat.reduceEqDiff, Nat.reduceBEq, Nat.reduceAdd, Nat.reduceLeDiff, Nat.reduceMul, Nat.reduceLT, Int.reduceEq, Int.reduceLT, Int.reduceLE]
    simp
  · rintro m tm _ ⟨k, rfl, hk, rfl, h0, h1, h5, hn⟩
    simp +contextual -dsimp -implicitDefEqProofs (maxSteps := 5000000) only [go_sem, reduceIte, reduceCtorEq, Nat.reduceEqDiff, Nat.reduceBEq, Nat.reduceAdd, Nat.reduceLeDiff, Nat.reduceMul, Nat.reduceLT, Int.reduceEq, Int.reduceLT, Int.reduceLE, h0, h1, h5]
    refine ⟨fun h => ⟨fun hb => ?_, fun hb => ⟨_, ?_, k + 1, rfl, h, I_wrap (by omega) (by omega) (by omega), any_take h hn (d := default) (by simpa using hb)⟩⟩, fun h => ?_⟩
    · rw [idxF_at h hn (d := default) (by simpa using hb)]
    · omega
    · rw [idxF_none (by omega) hn]
theorem c_Index (l : List Int) (cl : Bool) (n : Int) (H : AHeap) : ACalls Try.prog 70 [.vsl (l.map rI) cl, I n] H fun r H' => r = I (idxF (fun x => decide (n = x)) l) ∧ H' = H := by
  refine acalls_len (by kernel_rfl) (List.mem_cons_self ..) fun hl => ?_
  rw [List.length_map] at hl
  refine acalls_of0 Try.func70 rfl (by kernel_rfl) rfl rfl (awp_sound (fz := fun _ => []) (im := fun _ => false) mixed _ _ _ _ (by kernel_rfl) ?_)
  simp +contextual -dsimp -implicitDefEqProofs (maxSteps := 5000000) only [go_sem, reduceIte, reduceCtorEq, Nat.reduceEqDiff, Nat.reduceBEq, Nat.reduceAdd, Nat.reduceLeDiff, Nat.reduceMul, Nat.reduceLT, Int.reduceEq, Int.reduceLT, Int.reduceLE]
  refine aloop mixed (fz := fun _ => []) (im := fun _ => false) (by kernel_rfl) (fun m tm H' => ∃ k : Nat, m = l.length - k ∧ k ≤ l.length ∧ H' = H ∧ tm 0 = .vsl (l.map rI) cl ∧ tm 1 = I n ∧ tm 7 = I l.length ∧ tm 8 = I k ∧ (l.take k).any (fun x => decide (n = x)) = false) l.length ⟨0, ?_⟩ ?_
  · simp +contextual -dsimp -implicitDefEqProofs (maxSteps := 5000000) only [go_sem, reduceIte, reduceCtorEq, Nat.reduceEqDiff, Nat.reduceBEq, Nat.reduceAdd, Nat.reduceLeDiff, Nat.reduceMul, Nat.reduceLT, Int.reduceEq, Int.reduceLT, Int.reduceLE]
    simp
  · rintro m tm _ ⟨k, rfl, hk, rfl, h0, h1, h7, h8, hn⟩
    simp +contextual -dsimp -implicitDefEqProofs (maxSteps := 5000000) only [go_sem, reduceIte, reduceCtorEq, Nat.reduceEqDiff, Nat.reduceBEq, Nat.reduceAdd, Nat.reduceLeDiff, Nat.reduceMul, Nat.reduceLT, Int.reduceEq, Int.reduceLT, Int.reduceLE, h0, h1, h7, h8]
    refine ⟨fun h => ⟨fun hb => ?_, fun hb => ⟨_, ?_, k + 1, rfl, h, I_wrap (by omega) (by omega) (by omega), any_take h hn (d := default) (by simpa using hb)⟩⟩, fun h => ?_⟩
    · rw [← hb, idxF_at h hn (d := default) (by simpa using hb)]
    · omega
    · rw [idxF_none (by omega) hn]
theorem c_Contains (l : List Int) (cl : Bool) (n : Int) (H : AHeap) : ACalls Try.prog 67 [.vsl (l.map rI) cl, I n] H fun r H' => r = B (l.any fun x => decide (n = x)) ∧ H' = H := by
  refine acalls_of0 Try.func67 rfl (by kernel_rfl) rfl rfl (awp_sound (fz := fun _ => []) (im := fun _ => false) mixed _ _ _ _ (by kernel_rfl) ?_)
  simp +contextual -dsimp -implicitDefEqProofs (maxSteps := 5000000) only [go_sem, reduceIte, reduceCtorEq, Nat.reduceEqDiff, Nat.reduceBEq, Nat.reduceAdd, Nat.reduceLeDiff, Nat.reduceMul, Nat.reduceLT, Int.reduceEq, Int.reduceLT, Int.reduceLE]
  refine (c_Index l cl n H).det ?_
  simp +contextual -dsimp -implicitDefEqProofs (maxSteps := 5000000) only [go_sem, reduceIte, reduceCtorEq, Nat.reduceEqDiff, Nat.reduceBEq, Nat.reduceAdd, Nat.reduceLeDiff, Nat.reduceMul, Nat.reduceLT, Int.reduceEq, Int.reduceLT, Int.reduceLE]
  have h1 := idxF_ge (fun x => decide (n = x)) l
  have h2 := @idxF_neg _ (fun x => decide (n = x)) l
  cases hb : l.any fun x => decide (n = x)
  · rw [h2.2 hb]; rfl
  · have : idxF (fun x => decide (n = x)) l ≠ -1 := fun e => by rw [h2.1 e] at hb; cases hb
    simp; omega
theorem c_hasInt (l : List Int) (cl : Bool) (n : Int) (H : AHeap) : ACalls Try.prog 57 [.vsl (l.map rI) cl, I n] H fun r H' => r = B (l.any fun x => decide (n = x)) ∧ H' = H := by
  refine acalls_len (by kernel_rfl) (List.mem_cons_self ..) fun hl => ?_
  rw [List.length_map] at hl
  refine acalls_of0 Try.func57 rfl (by kernel_rfl) rfl rfl (awp_sound (fz := fun _ => []) (im := fun _ => false) mixed _ _ _ _ (by kernel_rfl) ?_)
  simp +contextual -dsimp -implicitDefEqProofs (maxSteps := 5000000) only [go_sem, reduceIte, reduceCtorEq, Nat.reduceEqDiff, Nat.reduceBEq, Nat.reduceAdd, Nat.reduceLeDiff, Nat.reduceMul, Nat.reduceLT, Int.reduceEq, Int.reduceLT, Int.reduceLE]
  refine aloop mixed (fz := fun _ => []) (im := fun _ => false) (by kernel_rfl) (fun m tm H' => ∃ k : Nat, m = l.length - k ∧ k ≤ l.length ∧ H' = H ∧ tm 0 = .vsl (l.map rI) cl ∧ tm 1 = I n ∧ tm 5 = I k ∧ (l.take k).any (fun x => decide (n = x)) = false) l.length ⟨0, ?_⟩ ?_
  · simp +contextual -dsimp -implicitDefEqProofs (maxSteps := 5000000) only [go_sem, reduceIte, reduceCtorEq, Nat.reduceEqDiff, Nat.reduceBEq, Nat.reduceAdd, Nat.reduceLeDiff, Nat.reduceMul, Nat.reduceLT, Int.reduceEq, Int.reduceLT, Int.reduceLE]
    simp
  · rintro m tm _ ⟨k, rfl, hk, rfl, h0, h1, h5, hn⟩
    simp +contextual -dsimp -implicitDefEqProofs (maxSteps := 5000000) only [go_sem, reduceIte, reduceCtorEq, Nat.reduceEqDiff, Nat.reduceBEq, Nat.reduceAdd, Nat.reduceLeDiff, Nat.reduceMul, Nat.reduceLT, Int.reduceEq, Int.reduceLT, Int.reduceLE, h0, h1, h5]
    refine ⟨fun h => ⟨fun hb => ?_, fun hb => ⟨_, ?_, k + 1, rfl, h, I_wrap (by omega) (by omega) (by omega), any_take h hn (d := default) (by simpa [eq_comm] using hb)⟩⟩, fun h => ?_⟩
    · rw [any_at h (d := default) (by simpa [eq_comm] using hb)]
    · omega
    · rw [← List.take_of_length_le (show l.length ≤ k by omega), hn]
end Go.Proofs.Ytihjbbiajggcoaa
end
section
set_option linter.unusedVariables false
set_option linter.unusedSimpArgs false
namespace Go.Proofs.Ytihjbbiajggcoaa
open Go Go.Sim
set_option maxRecDepth 100000
attribute [local go_sem ↓] aw_skip aw_ret aw_exit aw_region aw_draw aw_seq aw_block aw_loop aw_cond frz_nil frz_cons sq_normal sq_ret sq_exit exB_normal exB_ret exB_same exB_other retQ_ret retQ_normal ret0_ret ret0_normal ao_nil go1 g_move g_assign g_pick g_build g_load g_binOp g_unOp g_convert g_fieldAddr g_field g_indexAddr g_index g_extract g_slice g_nilCheck g_len g_makeFunc h_call h_append h_alloc h_box h_buildSlice h_makeSlice h_store gV i_box i_buildSlice i_move i_assign i_build i_load i_binOp i_unOp i_convert i_fieldAddr i_field i_indexAddr i_index i_extract i_slice i_nilCheck i_makeFunc i_len i_max i_min i_alloc i_makeSlice i_store i_append i_call i_pick boxI boxA buildSliceI buildSliceA makeSliceA allocA storeA p_move p_assign p_pick p_build p_load p_binOp p_unOp p_convert p_fieldAddr p_field p_indexAddr p_index p_extract p_slice p_nilCheck p_makeFunc p_len p_max p_min p_alloc p_box p_buildSlice p_makeSlice p_store p_append p_call x_nil x_go1 x_g0 x_g1 x_g2 x_g3 x_s0 x_s1 x_s2 x_s3 u_move u_assign u_pick u_build u_load u_binOp u_unOp u_convert u_fieldAddr u_field u_indexAddr u_index u_extract u_slice u_nilCheck u_makeFunc u_len u_buildSlice
attribute [local go_sem] frzV_ptr frzV_sl frzK_some set_none set_other AHeap.set_self set_del set_set cnd_t cnd_f cnd_b retA_one retA_two retA_three retA_four retA_nil gIf_b mrgV_b mrgV_wh mrgV_U gIf_U gIf_wh mrgB_f mrgB_some mrgB_if wh_true wh_false keepA_some keepA_if gD_zero gD_succ gT_some bxA_t bxA_f callA_fn ev_tmp ev_const ev_global ev_func oc_bool oc_int oc_string oc_nil oc_nilptr oc_nilfunc cl_bool cl_int cl_string cl_nil updO_some updO_none upd_same upd_other init_at pickA_b pickA_wh selA_t selA_f selA_and selA_or selA_orn selA_orm selA_bb selA_ii beqt b_add b_sub b_mul b_and b_or b_xor b_eql b_neq b_lss b_leq b_gtr b_geq b_quo b_rem b_shr b_seql b_sneq b_sadd b_beql b_bneq b_aeql b_aneq u_not u_neg isConstOp eqA eqCellV List.getD_cons_zero List.getD_cons_succ List.map_cons List.map_nil List.nil_append List.cons_append List.append_nil if_true if_false Option.map_some Option.map_none ne_eq not_false_eq_true oneA ldv ld1v ld1s wr1s ldRow stRow row_lit row_agg row_vsl row_sl row_ptr row_fn one_I one_B one_S one_vsl one_sl one_ptr one_fn extractA okA rI rS rU rClass rFault rExit rStart rLine Int.toNat_natCast List.length_cons List.length_nil List.length_map List.all_cons List.all_nil Bool.and_true Nat.zero_add List.getElem?_cons_zero List.getElem?_cons_succ List.take_succ_cons List.take_zero List.drop_succ_cons List.drop_zero and_self true_and and_true implies_true decide_eq_true_eq decide_eq_false_iff_not Bool.or_eq_true Bool.or_eq_false_iff Bool.and_eq_true Bool.not_eq_true' Bool.not_eq_false' beq_false decide_true decide_false Int.ofNat_lt Int.ofNat_le Int.natCast_nonneg Bool.or_true Bool.or_false Bool.true_or Bool.false_or beq_self_eq_true List.drop_one Bool.not_true Bool.not_false Bool.not_not Bool.false_eq_true Bool.true_eq_false false_implies true_implies Bool.true_and Bool.false_and Bool.and_false not_true_eq_false Int.natCast_eq_zero Int.natCast_pos Int.natCast_zero false_and and_false or_false false_or or_true true_or Bool.or_self none_le_iff List.replicate_zero Int.toNat_zero List.replicate_succ buildRows List.set_cons_zero List.set_cons_succ List.set_nil List.mapM_nil maxLen_eq Nat.zero_le Nat.mul_one Nat.one_mul bldA fillA spliceA List.take_nil List.drop_nil List.getElem?_nil ld1o wr1o bldSliceA le_same ti1 ti2 tk2 ti3 te3 ts3 tk3 tz3 ti4 tb4 ti5 tk5 tz5 ti9 te9 ts9 tk9 tz9 ti12 tk12 ti13 tp13 tf13_0 tf13_1 ti20 ti21 tk21 tz21 ti22 te22 tz22 ti23 te23 ti24 tp24 tf24_0 ti25 tp25 tf25_0 ti26 te26 ti27 tq27 tp27 tf27_0 tf27_1 tf27_2 ti28 tq28 tp28 tf28_0 tf28_1 tf28_2 ti30 ti31 te31 ti32 te32 ti33 tp33 tf33_0 ti34 tp34 tf34_0 ti35 tp35 tf35_0 tf35_1 tf35_2 tf35_3 ti36 tp36 tf36_0 tf36_1 tf36_2 tf36_3 ti37 ti38 ti39 ti40 tq40 tp40 tf40_0 tf40_1 tf40_2 ti41 tq41 tp41 tf41_0 tf41_1 tf41_2 ti42 ti43 ti44 ti45 ti47 ti48 ti49 ti50 ti51 ti52 ti53 ti54 ti55 tp55 tf55_0 tf55_1 ti56 tp56 tf56_0 tf56_1 ti57 ti58 ti59 ti60 ti61 ti62 ti63 ti64 ti65 ti66 ti67 tq67 tp67 tf67_0 tf67_1 ti68 tq68 tp68 tf68_0 tf68_1 ti69 tq69 tp69 tf69_0 tf69_1 tf69_2 tf69_3 tf69_4 ti70 tq70 tp70 tf70_0 tf70_1 tf70_2 tf70_3 tf70_4 ti71 ti72 tp72 tf72_0 tf72_1 tf72_2 ti73 tp73 tf73_0 tf73_1 tf73_2 ti74 ti75 ti77 ti78 tq78 tp78 tf78_0 tf78_1 ti79 tq79 tp79 tf79_0 tf79_1 ti80 ti81 ti82 ti83 ti84 ti85 te85 ti86 ti87 te87 ti88 tp88 tf88_0 tf88_1 tf88_2 tf88_3 tf88_4 ti89 tp89 tf89_0 tf89_1 tf89_2 tf89_3 tf89_4 ti90 ti91 ti92 ti93 ti94 ti95 ti96 ti97 ti98 ti99 ti100 ti101 ti102 ti103 ti104 ti105 ti106 ti107 ti108 ti109 ti110 ti111 ti112 ti113 ti114 ti115 ti116 tk116 tz116 ti117 ti118 tk118 ti120 ti121 ti122 ti124 ti125 ti126 tk126 tz126 ti127 ti128 tk128 tz128 ti129 tk129 ti130 ti131 ti132 ti133 ti134 ti135 ti137 ti138 ti144 ti148 ti153 ti154 tq154 tp154 tf154_0 tf154_1 tf154_2 tf154_3 ti155 tq155 tp155 tf155_0 tf155_1 tf155_2 tf155_3 ti157 fp13_0 fv13_0 fp13_1 fv13_1 fp24_0 fv24_0 fp25_0 fv25_0 fp27_0 fv27_0 fp27_1 fv27_1 fp27_2 fv27_2 fp28_0 fv28_0 fp28_1 fv28_1 fp28_2 fv28_2 fp33_0 fv33_0 fp34_0 fv34_0 fp35_0 fv35_0 fp35_1 fv35_1 fp35_2 fv35_2 fp35_3 fv35_3 fp36_0 fv36_0 fp36_1 fv36_1 fp36_2 fv36_2 fp36_3 fv36_3 fp40_0 fv40_0 fp40_1 fv40_1 fp40_2 fv40_2 fp41_0 fv41_0 fp41_1 fv41_1 fp41_2 fv41_2 fp55_0 fv55_0 fp55_1 fv55_1 fp56_0 fv56_0 fp56_1 fv56_1 fp67_0 fv67_0 fp67_1 fv67_1 fp68_0 fv68_0 fp68_1 fv68_1 fp69_0 fv69_0 fp69_1 fv69_1 fp69_2 fv69_2 fp69_3 fv69_3 fp69_4 fv69_4 fp70_0 fv70_0 fp70_1 fv70_1 fp70_2 fv70_2 fp70_3 fv70_3 fp70_4 fv70_4 fp72_0 fv72_0 fp72_1 fv72_1 fp72_2 fv72_2 fp73_0 fv73_0 fp73_1 fv73_1 fp73_2 fv73_2 fp78_0 fv78_0 fp78_1 fv78_1 fp79_0 fv79_0 fp79_1 fv79_1 fp88_0 fv88_0 fp88_1 fv88_1 fp88_2 fv88_2 fp88_3 fv88_3 fp88_4 fv88_4 fp89_0 fv89_0 fp89_1 fv89_1 fp89_2 fv89_2 fp89_3 fv89_3 fp89_4 fv89_4 fp154_0 fv154_0 fp154_1 fv154_1 fp154_2 fv154_2 fp154_3 fv154_3 fp155_0 fv155_0 fp155_1 fv155_1 fp155_2 fv155_2 fp155_3 fv155_3 lv22 ll22 is22 ix22 sh22 so22 sb22 sm22 sp22 lv23 ll23 is23 ix23 sh23 so23 sb23 sm23 sp23 lv26 ll26 is26 ix26 sh26 so26 sb26 sm26 sp26 lv31 ll31 is31 ix31 sh31 so31 sb31 sm31 sp31 lv32 ll32 is32 ix32 sh32 so32 sb32 sm32 sp32 lv85 ll85 is85 ix85 sh85 so85 sb85 sm85 sp85 lv87 ll87 is87 ix87 sh87 so87 sb87 sm87 sp87 xs9 ls9 sx9 sy9 sz9

def namesOk (t : List Class) : Prop := ∀ c ∈ t, c.name.length < 4611686018427387904
theorem namesOk_at {t : List Class} (h : namesOk t) {k : Nat} (hk : k < t.length) : (t.getD k default).name.length < 4611686018427387904 := by
  apply h
  simp [List.getD_eq_getElem?_getD, hk]
def clsOk (t : List Class) (i : Nat) (c : Class) : Bool :=
  nameF c.name && decide (idxF (fun d => decide (d.name = c.name)) t = i) && (if i = 0 then decide (c.parent = -1) else inR c.parent 0 (i - 1))
def validT (t : List Class) : Bool := (List.range t.length).all (fun i => clsOk t i (t.getD i default)) && inR t.length 1 8

theorem c_ValidTree (t : List Class) (cl : Bool) (H : AHeap) (hn : namesOk t) : ACalls Try.prog 20 [aTree t cl] H fun r H' => r = B (validT t) ∧ H' = H := by
  refine acalls_len1 (by kernel_rfl) (List.mem_cons_self ..) fun hl => ?_
  rw [List.length_map] at hl
  refine acalls_of0 Try.func20 rfl (by kernel_rfl) rfl rfl (awp_sound (fz := fun r => if r = 3 then [4] else []) (im := fun s => s == 1) mixed _ _ _ _ (by kernel_rfl) ?_)
  simp +contextual -dsimp -implicitDefEqProofs (maxSteps := 5000000) only [go_sem, reduceIte, reduceCtorEq, Nat.reduceEqDiff, Nat.reduceBEq, Nat.reduceAdd, Nat.reduceLeDiff, Nat.reduceMul, Nat.reduceLT, Int.reduceEq, Int.reduceLT, Int.reduceLE]
  refine aloop mixed (fz := fun r => if r = 3 then [4] else []) (im := fun s => s == 1) (by kernel_rfl) (fun m tm H' => ∃ k : Nat, m = t.length - k ∧ k ≤ t.length ∧ H' = H ∧ tm 1 = .vptr [[.vsl (t.map rClass) cl]] 0 0 ∧ tm 6 = .vsl (t.map rClass) cl ∧ tm 7 = I t.length ∧ tm 8 = I k ∧ (List.range k).all (fun i => clsOk t i (t.getD i default)) = true) t.length ⟨0, ?_⟩ ?_
  · simp +contextual -dsimp -implicitDefEqProofs (maxSteps := 5000000) only [go_sem, reduceIte, reduceCtorEq, Nat.reduceEqDiff, Nat.reduceBEq, Nat.reduceAdd, Nat.reduceLeDiff, Nat.reduceMul, Nat.reduceLT, Int.reduceEq, Int.reduceLT, Int.reduceLE]
    simp
  · rintro m tm _ ⟨k, rfl, hk, rfl, h1, h6, h7, h8, hv⟩
    simp +contextual -dsimp -implicitDefEqProofs (maxSteps := 5000000) only [go_sem, reduceIte, reduceCtorEq, Nat.reduceEqDiff, Nat.reduceBEq, Nat.reduceAdd, Nat.reduceLeDiff, Nat.reduceMul, Nat.reduceLT, Int.reduceEq, Int.reduceLT, Int.reduceLE, h1, h6, h7, h8]
    refine ⟨fun h b hb => ?_, fun h => ?_⟩
    · refine (c_nameOk _ _ (namesOk_at hn h)).det ?_
      have bad : clsOk t k (t.getD k default) = false → validT t = false := fun e => by
        simp only [validT, Bool.and_eq_false_iff]
        left
        rw [List.all_eq_false]
        exact ⟨k, by simp [h], by simp only [e]; decide⟩
      cases hN : nameF (t.getD k default).name
      · simp +contextual -dsimp -implicitDefEqProofs (maxSteps := 5000000) only [go_sem, reduceIte, reduceCtorEq, Nat.reduceEqDiff, Nat.reduceBEq, Nat.reduceAdd, Nat.reduceLeDiff, Nat.reduceMul, Nat.reduceLT, Int.reduceEq, Int.reduceLT, Int.reduceLE, h1, h6, h7, h8, hb]
        rw [bad (by simp only [clsOk, hN, Bool.false_and])]
      · simp +contextual -dsimp -implicitDefEqProofs (maxSteps := 5000000) only [go_sem, reduceIte, reduceCtorEq, Nat.reduceEqDiff, Nat.reduceBEq, Nat.reduceAdd, Nat.reduceLeDiff, Nat.reduceMul, Nat.reduceLT, Int.reduceEq, Int.reduceLT, Int.reduceLE, h1, h6, h7, h8, hb]
        refine (c_named _ _ _ _).det ?_
        simp +contextual -dsimp -implicitDefEqProofs (maxSteps := 5000000) only [go_sem, reduceIte, reduceCtorEq, Nat.reduceEqDiff, Nat.reduceBEq, Nat.reduceAdd, Nat.reduceLeDiff, Nat.reduceMul, Nat.reduceLT, Int.reduceEq, Int.reduceLT, Int.reduceLE, h1, h6, h7, h8, hb]
        have hp := bad
        simp only [clsOk, hN, Bool.true_and] at hp
        by_cases hI : idxF (fun c => decide (c.name = (t.getD k default).name)) t = k
        · have nxt : clsOk t k (t.getD k default) = true → ∃ m', m' < t.length - k ∧ ∃ k_1 : Nat, m' = t.length - k_1 ∧ k_1 ≤ t.length ∧ AV.lit (Value.int IntKind.i64 (IntKind.i64.wrap (↑k + 1))) = I ↑k_1 ∧ ((List.range k_1).all fun i => clsOk t i (t.getD i default)) = true := fun e =>
            ⟨_, by omega, k + 1, rfl, h, I_wrap (by omega) (by omega) (by omega), by rw [List.range_succ, List.all_append, hv]; simp only [List.all_cons, e, List.all_nil]; rfl⟩
          simp only [clsOk, hN, hI, decide_true, Bool.true_and] at nxt hp
          rcases Nat.eq_zero_or_pos k with rfl | hk0
          · by_cases hP : (t.getD 0 default).parent = -1
            · simp +contextual -dsimp -implicitDefEqProofs (maxSteps := 5000000) only [go_sem, reduceIte, reduceCtorEq, Nat.reduceEqDiff, Nat.reduceBEq, Nat.reduceAdd, Nat.reduceLeDiff, Nat.reduceMul, Nat.reduceLT, Int.reduceEq, Int.reduceLT, Int.reduceLE, h1, h6, h7, h8, hb, hI, hP]
              exact nxt (by simp only [hP, if_true, decide_true])
            · simp +contextual -dsimp -implicitDefEqProofs (maxSteps := 5000000) only [go_sem, reduceIte, reduceCtorEq, Nat.reduceEqDiff, Nat.reduceBEq, Nat.reduceAdd, Nat.reduceLeDiff, Nat.reduceMul, Nat.reduceLT, Int.reduceEq, Int.reduceLT, Int.reduceLE, h1, h6, h7, h8, hb, hI, hP]
              rw [hp (by simp only [hP, if_true, decide_false])]
          · have hk1 : ¬ k = 0 := by omega
            simp +contextual -dsimp -implicitDefEqProofs (maxSteps := 5000000) only [go_sem, reduceIte, reduceCtorEq, Nat.reduceEqDiff, Nat.reduceBEq, Nat.reduceAdd, Nat.reduceLeDiff, Nat.reduceMul, Nat.reduceLT, Int.reduceEq, Int.reduceLT, Int.reduceLE, h1, h6, h7, h8, hb, hI, hk0, hk1]
            rw [w64 (by omega) (by omega)]
            refine (c_within _ _ _ _).det ?_
            simp +contextual -dsimp -implicitDefEqProofs (maxSteps := 5000000) only [go_sem, reduceIte, reduceCtorEq, Nat.reduceEqDiff, Nat.reduceBEq, Nat.reduceAdd, Nat.reduceLeDiff, Nat.reduceMul, Nat.reduceLT, Int.reduceEq, Int.reduceLT, Int.reduceLE, h1, h6, h7, h8, hb, hI, hk0, hk1]
            simp only [hk1, if_false] at nxt hp
            exact ⟨fun e => by rw [hp e], nxt⟩
        · simp +contextual -dsimp -implicitDefEqProofs (maxSteps := 5000000) only [go_sem, reduceIte, reduceCtorEq, Nat.reduceEqDiff, Nat.reduceBEq, Nat.reduceAdd, Nat.reduceLeDiff, Nat.reduceMul, Nat.reduceLT, Int.reduceEq, Int.reduceLT, Int.reduceLE, h1, h6, h7, h8, hb, hI]
          rw [hp (by simp only [hI, decide_false, Bool.false_and])]
    · refine (c_within _ _ _ _).det ?_
      simp +contextual -dsimp -implicitDefEqProofs (maxSteps := 5000000) only [go_sem, reduceIte, reduceCtorEq, Nat.reduceEqDiff, Nat.reduceBEq, Nat.reduceAdd, Nat.reduceLeDiff, Nat.reduceMul, Nat.reduceLT, Int.reduceEq, Int.reduceLT, Int.reduceLE, h1, h6, h7, h8]
      have : k = t.length := by omega
      subst this
      simp only [validT, hv, Bool.true_and]
theorem idxF_take {α : Type} {p : α → Bool} {l : List α} {k : Nat} {d : α} (hk : k < l.length) (hp : p (l.getD k d) = true) : (idxF p l = k) ↔ idxF p (l.take k) < 0 := by
  have h1 := idxF_ge p (l.take k)
  have h2 := @idxF_neg _ p (l.take k)
  constructor
  · intro e
    have : (l.take k).any p = false := by
      rw [← Bool.not_eq_true]
      intro ha
      have h3 : ∀ (l : List α) (k : Nat), (l.take k).any p = true → idxF p l < k := by
        intro l
        induction l with
        | nil => intro k h; simp at h
        | cons x l ih =>
          intro k h
          cases k with
          | zero => simp at h
          | succ k =>
            simp only [List.take_succ_cons, List.any_cons, Bool.or_eq_true] at h
            have := idxF_ge p l
            simp only [idxF]
            split
            · omega
            · rename_i hx
              have := ih k (h.resolve_left (by simpa using hx))
              split <;> omega
      have := h3 l k ha
      omega
    rw [h2.2 this]; omega
  · intro e
    have : idxF p (l.take k) = -1 := by omega
    exact idxF_at hk (h2.1 this) hp
theorem c_validTree (t : List Class) (cl : Bool) (H : AHeap) (hn : namesOk t) : ACalls Try.prog 52 [aTree t cl] H fun r H' => r = B (validT t) ∧ H' = H := by
  refine acalls_len1 (by kernel_rfl) (List.mem_cons_self ..) fun hl => ?_
  rw [List.length_map] at hl
  refine acalls_of0 Try.func52 rfl (by kernel_rfl) rfl rfl (awp_sound (fz := fun r => if r = 4 then [4] else []) (im := fun s => s == 1) mixed _ _ _ _ (by kernel_rfl) ?_)
  simp +contextual -dsimp -implicitDefEqProofs (maxSteps := 5000000) only [go_sem, reduceIte, reduceCtorEq, Nat.reduceEqDiff, Nat.reduceBEq, Nat.reduceAdd, Nat.reduceLeDiff, Nat.reduceMul, Nat.reduceLT, Int.reduceEq, Int.reduceLT, Int.reduceLE]
  refine aloop mixed (fz := fun r => if r = 4 then [4] else []) (im := fun s => s == 1) (by kernel_rfl) (fun m tm H' => ∃ k : Nat, m = t.length - k ∧ k ≤ t.length ∧ H' = H ∧ tm 1 = .vptr [[.vsl (t.map rClass) cl]] 0 0 ∧ tm 3 = I k ∧ (List.range k).all (fun i => clsOk t i (t.getD i default)) = true) t.length ⟨0, ?_⟩ ?_
  · simp +contextual -dsimp -implicitDefEqProofs (maxSteps := 5000000) only [go_sem, reduceIte, reduceCtorEq, Nat.reduceEqDiff, Nat.reduceBEq, Nat.reduceAdd, Nat.reduceLeDiff, Nat.reduceMul, Nat.reduceLT, Int.reduceEq, Int.reduceLT, Int.reduceLE]
    simp
  · rintro m tm _ ⟨k, rfl, hk, rfl, h1, h3, hv⟩
    simp +contextual -dsimp -implicitDefEqProofs (maxSteps := 5000000) only [go_sem, reduceIte, reduceCtorEq, Nat.reduceEqDiff, Nat.reduceBEq, Nat.reduceAdd, Nat.reduceLeDiff, Nat.reduceMul, Nat.reduceLT, Int.reduceEq, Int.reduceLT, Int.reduceLE, h1, h3]
    refine ⟨fun h b hb => ?_, fun h => ?_⟩
    · refine draw_intro [0, 0, 2, 0, 0, 0, 0, 0, 0, 0, 0, 2, 0, 0, 0, 0, 0, 0, 0, 0, 0, 0, 0, 0, 0, 0, 0, 0, 0, 0, 0, 2, 0, 0, 0] AHeap.none (by kernel_rfl) none_le ?_
      simp +contextual -dsimp -implicitDefEqProofs (maxSteps := 5000000) only [go_sem, reduceIte, reduceCtorEq, Nat.reduceEqDiff, Nat.reduceBEq, Nat.reduceAdd, Nat.reduceLeDiff, Nat.reduceMul, Nat.reduceLT, Int.reduceEq, Int.reduceLT, Int.reduceLE, h1, h3, hb]
      refine (c_validName _ _ (namesOk_at hn h)).det ?_
      have bad : clsOk t k (t.getD k default) = false → validT t = false := fun e => by
        simp only [validT, Bool.and_eq_false_iff]
        left
        rw [List.all_eq_false]
        exact ⟨k, by simp [h], by simp only [e]; decide⟩
      cases hN : nameF (t.getD k default).name
      · simp +contextual -dsimp -implicitDefEqProofs (maxSteps := 5000000) only [go_sem, reduceIte, reduceCtorEq, Nat.reduceEqDiff, Nat.reduceBEq, Nat.reduceAdd, Nat.reduceLeDiff, Nat.reduceMul, Nat.reduceLT, Int.reduceEq, Int.reduceLT, Int.reduceLE, h1, h3, hb]
        rw [bad (by simp only [clsOk, hN, Bool.false_and])]
      · simp +contextual -dsimp -implicitDefEqProofs (maxSteps := 5000000) only [go_sem, reduceIte, reduceCtorEq, Nat.reduceEqDiff, Nat.reduceBEq, Nat.reduceAdd, Nat.reduceLeDiff, Nat.reduceMul, Nat.reduceLT, Int.reduceEq, Int.reduceLT, Int.reduceLE, h1, h3, hb]
        refine ⟨hk, (c_classNamed _ _ _ _).det ?_⟩
        simp +contextual -dsimp -implicitDefEqProofs (maxSteps := 5000000) only [go_sem, reduceIte, reduceCtorEq, Nat.reduceEqDiff, Nat.reduceBEq, Nat.reduceAdd, Nat.reduceLeDiff, Nat.reduceMul, Nat.reduceLT, Int.reduceEq, Int.reduceLT, Int.reduceLE, h1, h3, hb]
        have hp := bad
        have hI' := idxF_take (p := fun c => decide (c.name = (t.getD k default).name)) h (d := default) (by simp)
        by_cases hI : idxF (fun c => decide (c.name = (t.getD k default).name)) t = k
        · have hJ : ¬ 0 ≤ idxF (fun c => decide (c.name = (t.getD k default).name)) (t.take k) := by have := hI'.1 hI; omega
          have nxt : clsOk t k (t.getD k default) = true → ∃ m', m' < t.length - k ∧ ∃ k_1 : Nat, m' = t.length - k_1 ∧ k_1 ≤ t.length ∧ AV.lit (Value.int IntKind.i64 (IntKind.i64.wrap (↑k + 1))) = I ↑k_1 ∧ ((List.range k_1).all fun i => clsOk t i (t.getD i default)) = true := fun e =>
            ⟨_, by omega, k + 1, rfl, h, I_wrap (by omega) (by omega) (by omega), by rw [List.range_succ, List.all_append, hv]; simp only [List.all_cons, e, List.all_nil]; rfl⟩
          simp only [clsOk, hN, hI, decide_true, Bool.true_and] at nxt hp
          rcases Nat.eq_zero_or_pos k with rfl | hk0
          · have hJ : ¬ 0 ≤ idxF (fun c : Class => decide (c.name = (t.getD 0 default).name)) [] := by simp [idxF]
            by_cases hP : (t.getD 0 default).parent = -1
            · simp +contextual -dsimp -implicitDefEqProofs (maxSteps := 5000000) only [go_sem, reduceIte, reduceCtorEq, Nat.reduceEqDiff, Nat.reduceBEq, Nat.reduceAdd, Nat.reduceLeDiff, Nat.reduceMul, Nat.reduceLT, Int.reduceEq, Int.reduceLT, Int.reduceLE, h1, h3, hb, hJ, hP]
              exact nxt (by simp only [hP, if_true, decide_true])
            · simp +contextual -dsimp -implicitDefEqProofs (maxSteps := 5000000) only [go_sem, reduceIte, reduceCtorEq, Nat.reduceEqDiff, Nat.reduceBEq, Nat.reduceAdd, Nat.reduceLeDiff, Nat.reduceMul, Nat.reduceLT, Int.reduceEq, Int.reduceLT, Int.reduceLE, h1, h3, hb, hJ, hP]
              rw [hp (by simp only [hP, if_true, decide_false])]
          · have hk1 : ¬ k = 0 := by omega
            simp +contextual -dsimp -implicitDefEqProofs (maxSteps := 5000000) only [go_sem, reduceIte, reduceCtorEq, Nat.reduceEqDiff, Nat.reduceBEq, Nat.reduceAdd, Nat.reduceLeDiff, Nat.reduceMul, Nat.reduceLT, Int.reduceEq, Int.reduceLT, Int.reduceLE, h1, h3, hb, hJ, hk0, hk1]
            rw [w64 (by omega) (by omega)]
            refine (c_inRange _ _ _ _).det ?_
            simp +contextual -dsimp -implicitDefEqProofs (maxSteps := 5000000) only [go_sem, reduceIte, reduceCtorEq, Nat.reduceEqDiff, Nat.reduceBEq, Nat.reduceAdd, Nat.reduceLeDiff, Nat.reduceMul, Nat.reduceLT, Int.reduceEq, Int.reduceLT, Int.reduceLE, h1, h3, hb, hJ, hk0, hk1]
            simp only [hk1, if_false] at nxt hp
            exact ⟨fun e => by rw [hp e], nxt⟩
        · have hJ : 0 ≤ idxF (fun c => decide (c.name = (t.getD k default).name)) (t.take k) := by
            have := fun q => hI (hI'.2 q)
            omega
          simp +contextual -dsimp -implicitDefEqProofs (maxSteps := 5000000) only [go_sem, reduceIte, reduceCtorEq, Nat.reduceEqDiff, Nat.reduceBEq, Nat.reduceAdd, Nat.reduceLeDiff, Nat.reduceMul, Nat.reduceLT, Int.reduceEq, Int.reduceLT, Int.reduceLE, h1, h3, hb, hJ]
          rw [hp (by simp only [clsOk, hI, decide_false, Bool.and_false, Bool.false_and])]
    · refine (c_inRange _ _ _ _).det ?_
      simp +contextual -dsimp -implicitDefEqProofs (maxSteps := 5000000) only [go_sem, reduceIte, reduceCtorEq, Nat.reduceEqDiff, Nat.reduceBEq, Nat.reduceAdd, Nat.reduceLeDiff, Nat.reduceMul, Nat.reduceLT, Int.reduceEq, Int.reduceLT, Int.reduceLE, h1, h3]
      have : k = t.length := by omega
      subst this
      simp only [validT, hv, Bool.true_and]
end Go.Proofs.Ytihjbbiajggcoaa
end
section
set_option linter.unusedVariables false
set_option linter.unusedSimpArgs false
namespace Go.Proofs.Ytihjbbiajggcoaa
open Go Go.Sim
set_option maxRecDepth 100000
attribute [local go_sem ↓] aw_skip aw_ret aw_exit aw_region aw_draw aw_seq aw_block aw_loop aw_cond frz_nil frz_cons sq_normal sq_ret sq_exit exB_normal exB_ret exB_same exB_other retQ_ret retQ_normal ret0_ret ret0_normal ao_nil go1 g_move g_assign g_pick g_build g_load g_binOp g_unOp g_convert g_fieldAddr g_field g_indexAddr g_index g_extract g_slice g_nilCheck g_len g_makeFunc h_call h_append h_alloc h_box h_buildSlice h_makeSlice h_store gV i_box i_buildSlice i_move i_assign i_build i_load i_binOp i_unOp i_convert i_fieldAddr i_field i_indexAddr i_index i_extract i_slice i_nilCheck i_makeFunc i_len i_max i_min i_alloc i_makeSlice i_store i_append i_call i_pick boxI boxA buildSliceI buildSliceA makeSliceA allocA storeA p_move p_assign p_pick p_build p_load p_binOp p_unOp p_convert p_fieldAddr p_field p_indexAddr p_index p_extract p_slice p_nilCheck p_makeFunc p_len p_max p_min p_alloc p_box p_buildSlice p_makeSlice p_store p_append p_call x_nil x_go1 x_g0 x_g1 x_g2 x_g3 x_s0 x_s1 x_s2 x_s3 u_move u_assign u_pick u_build u_load u_binOp u_unOp u_convert u_fieldAddr u_field u_indexAddr u_index u_extract u_slice u_nilCheck u_makeFunc u_len u_buildSlice
attribute [local go_sem] frzV_ptr frzV_sl frzK_some set_none set_other AHeap.set_self set_del set_set cnd_t cnd_f cnd_b retA_one retA_two retA_three retA_four retA_nil gIf_b mrgV_b mrgV_wh mrgV_U gIf_U gIf_wh mrgB_f mrgB_some mrgB_if wh_true wh_false keepA_some keepA_if gD_zero gD_succ gT_some bxA_t bxA_f callA_fn ev_tmp ev_const ev_global ev_func oc_bool oc_int oc_string oc_nil oc_nilptr oc_nilfunc cl_bool cl_int cl_string cl_nil updO_some updO_none upd_same upd_other init_at pickA_b pickA_wh selA_t selA_f selA_and selA_or selA_orn selA_orm selA_bb selA_ii beqt b_add b_sub b_mul b_and b_or b_xor b_eql b_neq b_lss b_leq b_gtr b_geq b_quo b_rem b_shr b_seql b_sneq b_sadd b_beql b_bneq b_aeql b_aneq u_not u_neg isConstOp eqA eqCellV List.getD_cons_zero List.getD_cons_succ List.map_cons List.map_nil List.nil_append List.cons_append List.append_nil if_true if_false Option.map_some Option.map_none ne_eq not_false_eq_true oneA ldv ld1v ld1s wr1s ldRow stRow row_lit row_agg row_vsl row_sl row_ptr row_fn one_I one_B one_S one_vsl one_sl one_ptr one_fn extractA okA rI rS rU rClass rFault rExit rStart rLine Int.toNat_natCast List.length_cons List.length_nil List.length_map List.all_cons List.all_nil Bool.and_true Nat.zero_add List.getElem?_cons_zero List.getElem?_cons_succ List.take_succ_cons List.take_zero List.drop_succ_cons List.drop_zero and_self true_and and_true implies_true decide_eq_true_eq decide_eq_false_iff_not Bool.or_eq_true Bool.or_eq_false_iff Bool.and_eq_true Bool.not_eq_true' Bool.not_eq_false' beq_false decide_true decide_false Int.ofNat_lt Int.ofNat_le Int.natCast_nonneg Bool.or_true Bool.or_false Bool.true_or Bool.false_or beq_self_eq_true List.drop_one Bool.not_true Bool.not_false Bool.not_not Bool.false_eq_true Bool.true_eq_false false_implies true_implies Bool.true_and Bool.false_and Bool.and_false not_true_eq_false Int.natCast_eq_zero Int.natCast_pos Int.natCast_zero false_and and_false or_false false_or or_true true_or Bool.or_self none_le_iff List.replicate_zero Int.toNat_zero List.replicate_succ buildRows List.set_cons_zero List.set_cons_succ List.set_nil List.mapM_nil maxLen_eq Nat.zero_le Nat.mul_one Nat.one_mul bldA fillA spliceA List.take_nil List.drop_nil List.getElem?_nil ld1o wr1o bldSliceA le_same ti1 ti2 tk2 ti3 te3 ts3 tk3 tz3 ti4 tb4 ti5 tk5 tz5 ti9 te9 ts9 tk9 tz9 ti12 tk12 ti13 tp13 tf13_0 tf13_1 ti20 ti21 tk21 tz21 ti22 te22 tz22 ti23 te23 ti24 tp24 tf24_0 ti25 tp25 tf25_0 ti26 te26 ti27 tq27 tp27 tf27_0 tf27_1 tf27_2 ti28 tq28 tp28 tf28_0 tf28_1 tf28_2 ti30 ti31 te31 ti32 te32 ti33 tp33 tf33_0 ti34 tp34 tf34_0 ti35 tp35 tf35_0 tf35_1 tf35_2 tf35_3 ti36 tp36 tf36_0 tf36_1 tf36_2 tf36_3 ti37 ti38 ti39 ti40 tq40 tp40 tf40_0 tf40_1 tf40_2 ti41 tq41 tp41 tf41_0 tf41_1 tf41_2 ti42 ti43 ti44 ti45 ti47 ti48 ti49 ti50 ti51 ti52 ti53 ti54 ti55 tp55 tf55_0 tf55_1 ti56 tp56 tf56_0 tf56_1 ti57 ti58 ti59 ti60 ti61 ti62 ti63 ti64 ti65 ti66 ti67 tq67 tp67 tf67_0 tf67_1 ti68 tq68 tp68 tf68_0 tf68_1 ti69 tq69 tp69 tf69_0 tf69_1 tf69_2 tf69_3 tf69_4 ti70 tq70 tp70 tf70_0 tf70_1 tf70_2 tf70_3 tf70_4 ti71 ti72 tp72 tf72_0 tf72_1 tf72_2 ti73 tp73 tf73_0 tf73_1 tf73_2 ti74 ti75 ti77 ti78 tq78 tp78 tf78_0 tf78_1 ti79 tq79 tp79 tf79_0 tf79_1 ti80 ti81 ti82 ti83 ti84 ti85 te85 ti86 ti87 te87 ti88 tp88 tf88_0 tf88_1 tf88_2 tf88_3 tf88_4 ti89 tp89 tf89_0 tf89_1 tf89_2 tf89_3 tf89_4 ti90 ti91 ti92 ti93 ti94 ti95 ti96 ti97 ti98 ti99 ti100 ti101 ti102 ti103 ti104 ti105 ti106 ti107 ti108 ti109 ti110 ti111 ti112 ti113 ti114 ti115 ti116 tk116 tz116 ti117 ti118 tk118 ti120 ti121 ti122 ti124 ti125 ti126 tk126 tz126 ti127 ti128 tk128 tz128 ti129 tk129 ti130 ti131 ti132 ti133 ti134 ti135 ti137 ti138 ti144 ti148 ti153 ti154 tq154 tp154 tf154_0 tf154_1 tf154_2 tf154_3 ti155 tq155 tp155 tf155_0 tf155_1 tf155_2 tf155_3 ti157 fp13_0 fv13_0 fp13_1 fv13_1 fp24_0 fv24_0 fp25_0 fv25_0 fp27_0 fv27_0 fp27_1 fv27_1 fp27_2 fv27_2 fp28_0 fv28_0 fp28_1 fv28_1 fp28_2 fv28_2 fp33_0 fv33_0 fp34_0 fv34_0 fp35_0 fv35_0 fp35_1 fv35_1 fp35_2 fv35_2 fp35_3 fv35_3 fp36_0 fv36_0 fp36_1 fv36_1 fp36_2 fv36_2 fp36_3 fv36_3 fp40_0 fv40_0 fp40_1 fv40_1 fp40_2 fv40_2 fp41_0 fv41_0 fp41_1 fv41_1 fp41_2 fv41_2 fp55_0 fv55_0 fp55_1 fv55_1 fp56_0 fv56_0 fp56_1 fv56_1 fp67_0 fv67_0 fp67_1 fv67_1 fp68_0 fv68_0 fp68_1 fv68_1 fp69_0 fv69_0 fp69_1 fv69_1 fp69_2 fv69_2 fp69_3 fv69_3 fp69_4 fv69_4 fp70_0 fv70_0 fp70_1 fv70_1 fp70_2 fv70_2 fp70_3 fv70_3 fp70_4 fv70_4 fp72_0 fv72_0 fp72_1 fv72_1 fp72_2 fv72_2 fp73_0 fv73_0 fp73_1 fv73_1 fp73_2 fv73_2 fp78_0 fv78_0 fp78_1 fv78_1 fp79_0 fv79_0 fp79_1 fv79_1 fp88_0 fv88_0 fp88_1 fv88_1 fp88_2 fv88_2 fp88_3 fv88_3 fp88_4 fv88_4 fp89_0 fv89_0 fp89_1 fv89_1 fp89_2 fv89_2 fp89_3 fv89_3 fp89_4 fv89_4 fp154_0 fv154_0 fp154_1 fv154_1 fp154_2 fv154_2 fp154_3 fv154_3 fp155_0 fv155_0 fp155_1 fv155_1 fp155_2 fv155_2 fp155_3 fv155_3 lv22 ll22 is22 ix22 sh22 so22 sb22 sm22 sp22 lv23 ll23 is23 ix23 sh23 so23 sb23 sm23 sp23 lv26 ll26 is26 ix26 sh26 so26 sb26 sm26 sp26 lv31 ll31 is31 ix31 sh31 so31 sb31 sm31 sp31 lv32 ll32 is32 ix32 sh32 so32 sb32 sm32 sp32 lv85 ll85 is85 ix85 sh85 so85 sb85 sm85 sp85 lv87 ll87 is87 ix87 sh87 so87 sb87 sm87 sp87 xs9 ls9 sx9 sy9 sz9

theorem validT_len {t : List Class} (h : validT t = true) : 1 ≤ t.length ∧ t.length ≤ 8 := by
  simp only [validT, inR, Bool.and_eq_true, decide_eq_true_eq] at h
  omega
theorem validT_at {t : List Class} (h : validT t = true) {k : Nat} (hk : k < t.length) : clsOk t k (t.getD k default) = true := by
  simp only [validT, Bool.and_eq_true, List.all_eq_true] at h
  exact h.1 k (by simp [hk])
theorem validT_parent {t : List Class} (h : validT t = true) {k : Nat} (hk : k < t.length) : -1 ≤ (t.getD k default).parent ∧ (t.getD k default).parent < k := by
  have := validT_at h hk
  simp only [clsOk, Bool.and_eq_true] at this
  have h2 := this.2
  split at h2
  · simp only [decide_eq_true_eq] at h2; omega
  · simp only [inR, Bool.and_eq_true, decide_eq_true_eq] at h2; omega

def aboveG (t : List Class) : Nat → Int → List Int
  | 0, _ => []
  | n + 1, a => if 0 ≤ a then a :: aboveG t n (t.getD a.toNat default).parent else []
/-- A class and all above it. -/
def aboveF (t : List Class) (a : Int) : List Int := aboveG t (a + 1).toNat a
theorem aboveG_len (t : List Class) : ∀ (n : Nat) (a : Int), (aboveG t n a).length ≤ n
  | 0, _ => by simp [aboveG]
  | n + 1, a => by
    simp only [aboveG]
    split
    · simp [aboveG_len t n]
    · simp
theorem aboveG_neg {t : List Class} {n : Nat} {a : Int} (h : a < 0) : aboveG t n a = [] := by
  cases n with
  | zero => rfl
  | succ n => simp only [aboveG]; rw [if_neg (by omega)]
theorem aboveG_eq {t : List Class} (h : validT t = true) : ∀ (n m : Nat) (a : Int), a < t.length → a < n → a < m → aboveG t n a = aboveG t m a
  | 0, m, a, _, h1, _ => by rw [aboveG_neg (by omega), aboveG_neg (by omega)]
  | n + 1, 0, a, _, _, h2 => by rw [aboveG_neg (by omega), aboveG_neg (by omega)]
  | n + 1, m + 1, a, h0, h1, h2 => by
    simp only [aboveG]
    split
    · rename_i ha
      have := validT_parent h (show a.toNat < t.length by omega)
      rw [aboveG_eq h n m _ (by omega) (by omega) (by omega)]
    · rfl
theorem aboveF_step {t : List Class} (h : validT t = true) {a : Int} (h0 : 0 ≤ a) (h1 : a < t.length) : aboveF t a = a :: aboveF t (t.getD a.toNat default).parent := by
  have := validT_parent h (show a.toNat < t.length by omega)
  have e : (a + 1).toNat = a.toNat + 1 := by omega
  simp only [aboveF, e, aboveG]
  rw [if_pos h0]
  exact congrArg _ (aboveG_eq h _ _ _ (by omega) (by omega) (by omega))
theorem aboveF_neg {t : List Class} {a : Int} (h : a < 0) : aboveF t a = [] := aboveG_neg h

theorem c_above (t : List Class) (cl : Bool) (a : Int) (H : AHeap) (hv : validT t = true) (ha : a < t.length) : ACalls Try.prog 68 [aTree t cl, I a] H fun r H' => (∃ cl', r = .vsl ((aboveF t a).map rI) cl') ∧ H' = H := by
  have hl := validT_len hv
  refine acalls_of1 Try.func68 rfl (by kernel_rfl) rfl rfl (awp_sound (fz := fun _ => []) (im := fun s => s == 2 || s == 20) mixed _ _ _ _ (by kernel_rfl) ?_)
  simp +contextual -dsimp -implicitDefEqProofs (maxSteps := 5000000) only [go_sem, reduceIte, reduceCtorEq, Nat.reduceEqDiff, Nat.reduceBEq, Nat.reduceAdd, Nat.reduceLeDiff, Nat.reduceMul, Nat.reduceLT, Int.reduceEq, Int.reduceLT, Int.reduceLE]
  refine ⟨by omega, by omega, fun b hb => ?_⟩
  refine aloop mixed (fz := fun _ => []) (im := fun s => s == 2 || s == 20) (by kernel_rfl) (fun m tm H' => ∃ (out : List Int) (c : Int), m = (c + 1).toNat ∧ c < t.length ∧ out.length + (c + 1).toNat ≤ 8 ∧ tm 1 = I c ∧ tm 2 = .vptr [[.vsl (t.map rClass) cl]] 0 0 ∧ Grow rI 1 3 H H' (tm 5) out ∧ out ++ aboveF t c = aboveF t a) (a + 1).toNat ⟨[], a, rfl, ha, by simp; omega, ?_⟩ ?_
  · simp +contextual -dsimp -implicitDefEqProofs (maxSteps := 5000000) only [go_sem, reduceIte, reduceCtorEq, Nat.reduceEqDiff, Nat.reduceBEq, Nat.reduceAdd, Nat.reduceLeDiff, Nat.reduceMul, Nat.reduceLT, Int.reduceEq, Int.reduceLT, Int.reduceLE]
    exact grow_new hb
  · rintro m tm H' ⟨out, c, rfl, hc, ho, h1, h2, hg, he⟩
    simp +contextual -dsimp -implicitDefEqProofs (maxSteps := 5000000) only [go_sem, reduceIte, reduceCtorEq, Nat.reduceEqDiff, Nat.reduceBEq, Nat.reduceAdd, Nat.reduceLeDiff, Nat.reduceMul, Nat.reduceLT, Int.reduceEq, Int.reduceLT, Int.reduceLE, h1, h2]
    refine ⟨fun h => ?_, fun h => ?_⟩
    · refine grow_append (m := [c]) te31 ti3 rI_len (by decide) hg (by simp; omega) (by simp; omega) rfl fun x' H'' hg' => ?_
      simp +contextual -dsimp -implicitDefEqProofs (maxSteps := 5000000) only [go_sem, reduceIte, reduceCtorEq, Nat.reduceEqDiff, Nat.reduceBEq, Nat.reduceAdd, Nat.reduceLeDiff, Nat.reduceMul, Nat.reduceLT, Int.reduceEq, Int.reduceLT, Int.reduceLE, h1, h2]
      have hp := validT_parent hv (show c.toNat < t.length by omega)
      refine ⟨by omega, by omega, _, ?_, out ++ [c], _, rfl, ?_, ?_, rfl, hg', ?_⟩
      · omega
      · omega
      · simp only [List.length_append, List.length_cons, List.length_nil]; omega
      · rw [← he, aboveF_step hv h hc]; simp
    · have hn := grow_len te31 hg
      obtain ⟨x', hx, hg'⟩ := grow_slice (ka := .i64) (kb := .i64) te31 ti3 rI_len hg
      simp +contextual -dsimp -implicitDefEqProofs (maxSteps := 5000000) only [go_sem, reduceIte, reduceCtorEq, Nat.reduceEqDiff, Nat.reduceBEq, Nat.reduceAdd, Nat.reduceLeDiff, Nat.reduceMul, Nat.reduceLT, Int.reduceEq, Int.reduceLT, Int.reduceLE, h1, h2, hn, hx]
      rw [aboveF_neg (by omega), List.append_nil] at he
      subst he
      exact grow_frz (t := 4) hg' fun cl => retR_one ⟨⟨cl, rfl⟩, rfl⟩
theorem c_sabove (t : List Class) (cl : Bool) (a : Int) (H : AHeap) (hv : validT t = true) (ha : a < t.length) : ACalls Try.prog 58 [aTree t cl, I a] H fun r H' => (∃ cl', r = .vsl ((aboveF t a).map rI) cl') ∧ H' = H := by
  have hl := validT_len hv
  refine acalls_of1 Try.func58 rfl (by kernel_rfl) rfl rfl (awp_sound (fz := fun _ => []) (im := fun s => s == 2 || s == 6 || s == 17) mixed _ _ _ _ (by kernel_rfl) ?_)
  simp +contextual -dsimp -implicitDefEqProofs (maxSteps := 5000000) only [go_sem, reduceIte, reduceCtorEq, Nat.reduceEqDiff, Nat.reduceBEq, Nat.reduceAdd, Nat.reduceLeDiff, Nat.reduceMul, Nat.reduceLT, Int.reduceEq, Int.reduceLT, Int.reduceLE]
  refine aloop mixed (fz := fun _ => []) (im := fun s => s == 2 || s == 6 || s == 17) (by kernel_rfl) (fun m tm H' => ∃ (out : List Int) (c : Int), m = (c + 1).toNat ∧ c < t.length ∧ out.length + (c + 1).toNat ≤ 8 ∧ tm 1 = I c ∧ tm 2 = .vptr [[.vsl (t.map rClass) cl]] 0 0 ∧ Grow rI 1 3 H H' (tm 5) out ∧ out ++ aboveF t c = aboveF t a) (a + 1).toNat ⟨[], a, rfl, ha, by simp; omega, ?_⟩ ?_
  · simp +contextual -dsimp -implicitDefEqProofs (maxSteps := 5000000) only [go_sem, reduceIte, reduceCtorEq, Nat.reduceEqDiff, Nat.reduceBEq, Nat.reduceAdd, Nat.reduceLeDiff, Nat.reduceMul, Nat.reduceLT, Int.reduceEq, Int.reduceLT, Int.reduceLE]
    exact grow_nil
  · rintro m tm H' ⟨out, c, rfl, hc, ho, h1, h2, hg, he⟩
    simp +contextual -dsimp -implicitDefEqProofs (maxSteps := 5000000) only [go_sem, reduceIte, reduceCtorEq, Nat.reduceEqDiff, Nat.reduceBEq, Nat.reduceAdd, Nat.reduceLeDiff, Nat.reduceMul, Nat.reduceLT, Int.reduceEq, Int.reduceLT, Int.reduceLE, h1, h2]
    refine ⟨fun h => ?_, fun h => ?_⟩
    · refine grow_append (m := [c]) te31 ti3 rI_len (by decide) hg (by simp; omega) (by simp; omega) rfl fun x' H'' hg' => ?_
      simp +contextual -dsimp -implicitDefEqProofs (maxSteps := 5000000) only [go_sem, reduceIte, reduceCtorEq, Nat.reduceEqDiff, Nat.reduceBEq, Nat.reduceAdd, Nat.reduceLeDiff, Nat.reduceMul, Nat.reduceLT, Int.reduceEq, Int.reduceLT, Int.reduceLE, h1, h2]
      have hp := validT_parent hv (show c.toNat < t.length by omega)
      refine ⟨by omega, by omega, _, ?_, out ++ [c], _, rfl, ?_, ?_, rfl, hg', ?_⟩
      · omega
      · omega
      · simp only [List.length_append, List.length_cons, List.length_nil]; omega
      · rw [← he, aboveF_step hv h hc]; simp
    · rw [aboveF_neg (by omega), List.append_nil] at he
      subst he
      exact grow_frz (t := 4) hg fun cl => retR_one ⟨⟨cl, rfl⟩, rfl⟩
theorem c_is (t : List Class) (cl : Bool) (a b : Int) (H : AHeap) (hv : validT t = true) (ha : a < t.length) : ACalls Try.prog 48 [aTree t cl, I a, I b] H fun r H' => r = B ((aboveF t a).any fun x => decide (b = x)) ∧ H' = H := by
  refine acalls_of0 Try.func48 rfl (by kernel_rfl) rfl rfl (awp_sound (fz := fun _ => []) (im := fun s => s == 3) mixed _ _ _ _ (by kernel_rfl) ?_)
  simp +contextual -dsimp -implicitDefEqProofs (maxSteps := 5000000) only [go_sem, reduceIte, reduceCtorEq, Nat.reduceEqDiff, Nat.reduceBEq, Nat.reduceAdd, Nat.reduceLeDiff, Nat.reduceMul, Nat.reduceLT, Int.reduceEq, Int.reduceLT, Int.reduceLE]
  refine (c_above _ _ _ _ hv ha).detV fun cl' => ?_
  simp +contextual -dsimp -implicitDefEqProofs (maxSteps := 5000000) only [go_sem, reduceIte, reduceCtorEq, Nat.reduceEqDiff, Nat.reduceBEq, Nat.reduceAdd, Nat.reduceLeDiff, Nat.reduceMul, Nat.reduceLT, Int.reduceEq, Int.reduceLT, Int.reduceLE]
  refine (c_Contains _ _ _ _).det ?_
  simp +contextual -dsimp -implicitDefEqProofs (maxSteps := 5000000) only [go_sem, reduceIte, reduceCtorEq, Nat.reduceEqDiff, Nat.reduceBEq, Nat.reduceAdd, Nat.reduceLeDiff, Nat.reduceMul, Nat.reduceLT, Int.reduceEq, Int.reduceLT, Int.reduceLE]
theorem c_isA (t : List Class) (cl : Bool) (a b : Int) (H : AHeap) (hv : validT t = true) (ha : a < t.length) : ACalls Try.prog 37 [aTree t cl, I a, I b] H fun r H' => r = B ((aboveF t a).any fun x => decide (b = x)) ∧ H' = H := by
  refine acalls_of0 Try.func37 rfl (by kernel_rfl) rfl rfl (awp_sound (fz := fun _ => []) (im := fun s => s == 3) mixed _ _ _ _ (by kernel_rfl) ?_)
  simp +contextual -dsimp -implicitDefEqProofs (maxSteps := 5000000) only [go_sem, reduceIte, reduceCtorEq, Nat.reduceEqDiff, Nat.reduceBEq, Nat.reduceAdd, Nat.reduceLeDiff, Nat.reduceMul, Nat.reduceLT, Int.reduceEq, Int.reduceLT, Int.reduceLE]
  refine (c_sabove _ _ _ _ hv ha).detV fun cl' => ?_
  simp +contextual -dsimp -implicitDefEqProofs (maxSteps := 5000000) only [go_sem, reduceIte, reduceCtorEq, Nat.reduceEqDiff, Nat.reduceBEq, Nat.reduceAdd, Nat.reduceLeDiff, Nat.reduceMul, Nat.reduceLT, Int.reduceEq, Int.reduceLT, Int.reduceLE]
  refine (c_hasInt _ _ _ _).det ?_
  simp +contextual -dsimp -implicitDefEqProofs (maxSteps := 5000000) only [go_sem, reduceIte, reduceCtorEq, Nat.reduceEqDiff, Nat.reduceBEq, Nat.reduceAdd, Nat.reduceLeDiff, Nat.reduceMul, Nat.reduceLT, Int.reduceEq, Int.reduceLT, Int.reduceLE]
end Go.Proofs.Ytihjbbiajggcoaa
end
section
set_option linter.unusedVariables false
set_option linter.unusedSimpArgs false
namespace Go.Proofs.Ytihjbbiajggcoaa
open Go Go.Sim
set_option maxRecDepth 100000
attribute [local go_sem ↓] aw_skip aw_ret aw_exit aw_region aw_draw aw_seq aw_block aw_loop aw_cond frz_nil frz_cons sq_normal sq_ret sq_exit exB_normal exB_ret exB_same exB_other retQ_ret retQ_normal ret0_ret ret0_normal ao_nil go1 g_move g_assign g_pick g_build g_load g_binOp g_unOp g_convert g_fieldAddr g_field g_indexAddr g_index g_extract g_slice g_nilCheck g_len g_makeFunc h_call h_append h_alloc h_box h_buildSlice h_makeSlice h_store gV i_box i_buildSlice i_move i_assign i_build i_load i_binOp i_unOp i_convert i_fieldAddr i_field i_indexAddr i_index i_extract i_slice i_nilCheck i_makeFunc i_len i_max i_min i_alloc i_makeSlice i_store i_append i_call i_pick boxI boxA buildSliceI buildSliceA makeSliceA allocA storeA p_move p_assign p_pick p_build p_load p_binOp p_unOp p_convert p_fieldAddr p_field p_indexAddr p_index p_extract p_slice p_nilCheck p_makeFunc p_len p_max p_min p_alloc p_box p_buildSlice p_makeSlice p_store p_append p_call x_nil x_go1 x_g0 x_g1 x_g2 x_g3 x_s0 x_s1 x_s2 x_s3 u_move u_assign u_pick u_build u_load u_binOp u_unOp u_convert u_fieldAddr u_field u_indexAddr u_index u_extract u_slice u_nilCheck u_makeFunc u_len u_buildSlice
attribute [local go_sem] frzV_ptr frzV_sl frzK_some set_none set_other AHeap.set_self set_del set_set cnd_t cnd_f cnd_b retA_one retA_two retA_three retA_four retA_nil gIf_b mrgV_b mrgV_wh mrgV_U gIf_U gIf_wh mrgB_f mrgB_some mrgB_if wh_true wh_false keepA_some keepA_if gD_zero gD_succ gT_some bxA_t bxA_f callA_fn ev_tmp ev_const ev_global ev_func oc_bool oc_int oc_string oc_nil oc_nilptr oc_nilfunc cl_bool cl_int cl_string cl_nil updO_some updO_none upd_same upd_other init_at pickA_b pickA_wh selA_t selA_f selA_and selA_or selA_orn selA_orm selA_bb selA_ii beqt b_add b_sub b_mul b_and b_or b_xor b_eql b_neq b_lss b_leq b_gtr b_geq b_quo b_rem b_shr b_seql b_sneq b_sadd b_beql b_bneq b_aeql b_aneq u_not u_neg isConstOp eqA eqCellV List.getD_cons_zero List.getD_cons_succ List.map_cons List.map_nil List.nil_append List.cons_append List.append_nil if_true if_false Option.map_some Option.map_none ne_eq not_false_eq_true oneA ldv ld1v ld1s wr1s ldRow stRow row_lit row_agg row_vsl row_sl row_ptr row_fn one_I one_B one_S one_vsl one_sl one_ptr one_fn extractA okA rI rS rU rClass rFault rExit rStart rLine Int.toNat_natCast List.length_cons List.length_nil List.length_map List.all_cons List.all_nil Bool.and_true Nat.zero_add List.getElem?_cons_zero List.getElem?_cons_succ List.take_succ_cons List.take_zero List.drop_succ_cons List.drop_zero and_self true_and and_true implies_true decide_eq_true_eq decide_eq_false_iff_not Bool.or_eq_true Bool.or_eq_false_iff Bool.and_eq_true Bool.not_eq_true' Bool.not_eq_false' beq_false decide_true decide_false Int.ofNat_lt Int.ofNat_le Int.natCast_nonneg Bool.or_true Bool.or_false Bool.true_or Bool.false_or beq_self_eq_true List.drop_one Bool.not_true Bool.not_false Bool.not_not Bool.false_eq_true Bool.true_eq_false false_implies true_implies Bool.true_and Bool.false_and Bool.and_false not_true_eq_false Int.natCast_eq_zero Int.natCast_pos Int.natCast_zero false_and and_false or_false false_or or_true true_or Bool.or_self none_le_iff List.replicate_zero Int.toNat_zero List.replicate_succ buildRows List.set_cons_zero List.set_cons_succ List.set_nil List.mapM_nil maxLen_eq Nat.zero_le Nat.mul_one Nat.one_mul bldA fillA spliceA List.take_nil List.drop_nil List.getElem?_nil ld1o wr1o bldSliceA le_same ti1 ti2 tk2 ti3 te3 ts3 tk3 tz3 ti4 tb4 ti5 tk5 tz5 ti9 te9 ts9 tk9 tz9 ti12 tk12 ti13 tp13 tf13_0 tf13_1 ti20 ti21 tk21 tz21 ti22 te22 tz22 ti23 te23 ti24 tp24 tf24_0 ti25 tp25 tf25_0 ti26 te26 ti27 tq27 tp27 tf27_0 tf27_1 tf27_2 ti28 tq28 tp28 tf28_0 tf28_1 tf28_2 ti30 ti31 te31 ti32 te32 ti33 tp33 tf33_0 ti34 tp34 tf34_0 ti35 tp35 tf35_0 tf35_1 tf35_2 tf35_3 ti36 tp36 tf36_0 tf36_1 tf36_2 tf36_3 ti37 ti38 ti39 ti40 tq40 tp40 tf40_0 tf40_1 tf40_2 ti41 tq41 tp41 tf41_0 tf41_1 tf41_2 ti42 ti43 ti44 ti45 ti47 ti48 ti49 ti50 ti51 ti52 ti53 ti54 ti55 tp55 tf55_0 tf55_1 ti56 tp56 tf56_0 tf56_1 ti57 ti58 ti59 ti60 ti61 ti62 ti63 ti64 ti65 ti66 ti67 tq67 tp67 tf67_0 tf67_1 ti68 tq68 tp68 tf68_0 tf68_1 ti69 tq69 tp69 tf69_0 tf69_1 tf69_2 tf69_3 tf69_4 ti70 tq70 tp70 tf70_0 tf70_1 tf70_2 tf70_3 tf70_4 ti71 ti72 tp72 tf72_0 tf72_1 tf72_2 ti73 tp73 tf73_0 tf73_1 tf73_2 ti74 ti75 ti77 ti78 tq78 tp78 tf78_0 tf78_1 ti79 tq79 tp79 tf79_0 tf79_1 ti80 ti81 ti82 ti83 ti84 ti85 te85 ti86 ti87 te87 ti88 tp88 tf88_0 tf88_1 tf88_2 tf88_3 tf88_4 ti89 tp89 tf89_0 tf89_1 tf89_2 tf89_3 tf89_4 ti90 ti91 ti92 ti93 ti94 ti95 ti96 ti97 ti98 ti99 ti100 ti101 ti102 ti103 ti104 ti105 ti106 ti107 ti108 ti109 ti110 ti111 ti112 ti113 ti114 ti115 ti116 tk116 tz116 ti117 ti118 tk118 ti120 ti121 ti122 ti124 ti125 ti126 tk126 tz126 ti127 ti128 tk128 tz128 ti129 tk129 ti130 ti131 ti132 ti133 ti134 ti135 ti137 ti138 ti144 ti148 ti153 ti154 tq154 tp154 tf154_0 tf154_1 tf154_2 tf154_3 ti155 tq155 tp155 tf155_0 tf155_1 tf155_2 tf155_3 ti157 fp13_0 fv13_0 fp13_1 fv13_1 fp24_0 fv24_0 fp25_0 fv25_0 fp27_0 fv27_0 fp27_1 fv27_1 fp27_2 fv27_2 fp28_0 fv28_0 fp28_1 fv28_1 fp28_2 fv28_2 fp33_0 fv33_0 fp34_0 fv34_0 fp35_0 fv35_0 fp35_1 fv35_1 fp35_2 fv35_2 fp35_3 fv35_3 fp36_0 fv36_0 fp36_1 fv36_1 fp36_2 fv36_2 fp36_3 fv36_3 fp40_0 fv40_0 fp40_1 fv40_1 fp40_2 fv40_2 fp41_0 fv41_0 fp41_1 fv41_1 fp41_2 fv41_2 fp55_0 fv55_0 fp55_1 fv55_1 fp56_0 fv56_0 fp56_1 fv56_1 fp67_0 fv67_0 fp67_1 fv67_1 fp68_0 fv68_0 fp68_1 fv68_1 fp69_0 fv69_0 fp69_1 fv69_1 fp69_2 fv69_2 fp69_3 fv69_3 fp69_4 fv69_4 fp70_0 fv70_0 fp70_1 fv70_1 fp70_2 fv70_2 fp70_3 fv70_3 fp70_4 fv70_4 fp72_0 fv72_0 fp72_1 fv72_1 fp72_2 fv72_2 fp73_0 fv73_0 fp73_1 fv73_1 fp73_2 fv73_2 fp78_0 fv78_0 fp78_1 fv78_1 fp79_0 fv79_0 fp79_1 fv79_1 fp88_0 fv88_0 fp88_1 fv88_1 fp88_2 fv88_2 fp88_3 fv88_3 fp88_4 fv88_4 fp89_0 fv89_0 fp89_1 fv89_1 fp89_2 fv89_2 fp89_3 fv89_3 fp89_4 fv89_4 fp154_0 fv154_0 fp154_1 fv154_1 fp154_2 fv154_2 fp154_3 fv154_3 fp155_0 fv155_0 fp155_1 fv155_1 fp155_2 fv155_2 fp155_3 fv155_3 lv22 ll22 is22 ix22 sh22 so22 sb22 sm22 sp22 lv23 ll23 is23 ix23 sh23 so23 sb23 sm23 sp23 lv26 ll26 is26 ix26 sh26 so26 sb26 sm26 sp26 lv31 ll31 is31 ix31 sh31 so31 sb31 sm31 sp31 lv32 ll32 is32 ix32 sh32 so32 sb32 sm32 sp32 lv85 ll85 is85 ix85 sh85 so85 sb85 sm85 sp85 lv87 ll87 is87 ix87 sh87 so87 sb87 sm87 sp87 xs9 ls9 sx9 sy9 sz9

def exitOk (t : List Class) (x : Exi) : Bool :=
  if x.kind = 0 then inR x.a 0 99 && decide (x.b = 0) else if x.kind = 1 then inR x.a 0 99 && decide (x.b = 0)
  else if x.kind = 2 then hasF t x.a && decide (x.b = 0) else if x.kind = 3 then hasF t x.a && inR x.b 0 99 else false
def validX (t : List Class) (l : List Exi) : Bool := validT t && decide (l.length ≤ 8) && l.all (exitOk t)
def startOk (t : List Class) (x : Sta) : Bool :=
  if x.has then hasF t x.cls && inR x.code 0 99 else decide (x.cls = 0) && decide (x.code = 0)

theorem c_exitValid (t : List Class) (cl : Bool) (x : Exi) (H : AHeap) : ACalls Try.prog 23 [.agg (rExit x), aTree t cl] H fun r H' => r = B (exitOk t x) ∧ H' = H := by
  refine acalls_of0 Try.func23 rfl (by kernel_rfl) rfl rfl (awp_sound (fz := fun _ => []) (im := fun s => s == 2 || s == 3) mixed _ _ _ _ (by kernel_rfl) ?_)
  by_cases h0 : x.kind = 0
  · simp +contextual -dsimp -implicitDefEqProofs (maxSteps := 5000000) only [go_sem, reduceIte, reduceCtorEq, Nat.reduceEqDiff, Nat.reduceBEq, Nat.reduceAdd, Nat.reduceLeDiff, Nat.reduceMul, Nat.reduceLT, Int.reduceEq, Int.reduceLT, Int.reduceLE, h0]
    exact (c_codeOk _ _).det (by simp +contextual -dsimp -implicitDefEqProofs (maxSteps := 5000000) only [go_sem, reduceIte, reduceCtorEq, Nat.reduceEqDiff, Nat.reduceBEq, Nat.reduceAdd, Nat.reduceLeDiff, Nat.reduceMul, Nat.reduceLT, Int.reduceEq, Int.reduceLT, Int.reduceLE, exitOk, h0])
  by_cases h1 : x.kind = 1
  · simp +contextual -dsimp -implicitDefEqProofs (maxSteps := 5000000) only [go_sem, reduceIte, reduceCtorEq, Nat.reduceEqDiff, Nat.reduceBEq, Nat.reduceAdd, Nat.reduceLeDiff, Nat.reduceMul, Nat.reduceLT, Int.reduceEq, Int.reduceLT, Int.reduceLE, h0, h1, Int.reduceEq]
    exact (c_codeOk _ _).det (by simp +contextual -dsimp -implicitDefEqProofs (maxSteps := 5000000) only [go_sem, reduceIte, reduceCtorEq, Nat.reduceEqDiff, Nat.reduceBEq, Nat.reduceAdd, Nat.reduceLeDiff, Nat.reduceMul, Nat.reduceLT, Int.reduceEq, Int.reduceLT, Int.reduceLE, exitOk, h1, Int.reduceEq])
  by_cases h2 : x.kind = 2
  · simp +contextual -dsimp -implicitDefEqProofs (maxSteps := 5000000) only [go_sem, reduceIte, reduceCtorEq, Nat.reduceEqDiff, Nat.reduceBEq, Nat.reduceAdd, Nat.reduceLeDiff, Nat.reduceMul, Nat.reduceLT, Int.reduceEq, Int.reduceLT, Int.reduceLE, h0, h1, h2, Int.reduceEq]
    exact (c_has _ _ _ _).det (by simp +contextual -dsimp -implicitDefEqProofs (maxSteps := 5000000) only [go_sem, reduceIte, reduceCtorEq, Nat.reduceEqDiff, Nat.reduceBEq, Nat.reduceAdd, Nat.reduceLeDiff, Nat.reduceMul, Nat.reduceLT, Int.reduceEq, Int.reduceLT, Int.reduceLE, exitOk, h2, Int.reduceEq])
  by_cases h3 : x.kind = 3
  · simp +contextual -dsimp -implicitDefEqProofs (maxSteps := 5000000) only [go_sem, reduceIte, reduceCtorEq, Nat.reduceEqDiff, Nat.reduceBEq, Nat.reduceAdd, Nat.reduceLeDiff, Nat.reduceMul, Nat.reduceLT, Int.reduceEq, Int.reduceLT, Int.reduceLE, h0, h1, h2, h3, Int.reduceEq]
    refine (c_has _ _ _ _).det ?_
    cases hh : hasF t x.a
    · simp +contextual -dsimp -implicitDefEqProofs (maxSteps := 5000000) only [go_sem, reduceIte, reduceCtorEq, Nat.reduceEqDiff, Nat.reduceBEq, Nat.reduceAdd, Nat.reduceLeDiff, Nat.reduceMul, Nat.reduceLT, Int.reduceEq, Int.reduceLT, Int.reduceLE, exitOk, h3, Int.reduceEq, hh]
    · simp +contextual -dsimp -implicitDefEqProofs (maxSteps := 5000000) only [go_sem, reduceIte, reduceCtorEq, Nat.reduceEqDiff, Nat.reduceBEq, Nat.reduceAdd, Nat.reduceLeDiff, Nat.reduceMul, Nat.reduceLT, Int.reduceEq, Int.reduceLT, Int.reduceLE, h3, Int.reduceEq]
      exact (c_codeOk _ _).det (by simp +contextual -dsimp -implicitDefEqProofs (maxSteps := 5000000) only [go_sem, reduceIte, reduceCtorEq, Nat.reduceEqDiff, Nat.reduceBEq, Nat.reduceAdd, Nat.reduceLeDiff, Nat.reduceMul, Nat.reduceLT, Int.reduceEq, Int.reduceLT, Int.reduceLE, exitOk, h3, Int.reduceEq, hh])
  · simp +contextual -dsimp -implicitDefEqProofs (maxSteps := 5000000) only [go_sem, reduceIte, reduceCtorEq, Nat.reduceEqDiff, Nat.reduceBEq, Nat.reduceAdd, Nat.reduceLeDiff, Nat.reduceMul, Nat.reduceLT, Int.reduceEq, Int.reduceLT, Int.reduceLE, h0, h1, h2, h3]
    simp only [exitOk, h0, h1, h2, h3, if_false]
theorem c_validExit (t : List Class) (cl : Bool) (x : Exi) (H : AHeap) : ACalls Try.prog 51 [aTree t cl, .agg (rExit x)] H fun r H' => r = B (exitOk t x) ∧ H' = H := by
  refine acalls_of0 Try.func51 rfl (by kernel_rfl) rfl rfl (awp_sound (fz := fun _ => []) (im := fun s => s == 2 || s == 3) mixed _ _ _ _ (by kernel_rfl) ?_)
  by_cases h0 : x.kind = 0
  · simp +contextual -dsimp -implicitDefEqProofs (maxSteps := 5000000) only [go_sem, reduceIte, reduceCtorEq, Nat.reduceEqDiff, Nat.reduceBEq, Nat.reduceAdd, Nat.reduceLeDiff, Nat.reduceMul, Nat.reduceLT, Int.reduceEq, Int.reduceLT, Int.reduceLE, h0]
    exact (c_inRange _ _ _ _).det (by simp +contextual -dsimp -implicitDefEqProofs (maxSteps := 5000000) only [go_sem, reduceIte, reduceCtorEq, Nat.reduceEqDiff, Nat.reduceBEq, Nat.reduceAdd, Nat.reduceLeDiff, Nat.reduceMul, Nat.reduceLT, Int.reduceEq, Int.reduceLT, Int.reduceLE, exitOk, h0])
  by_cases h1 : x.kind = 1
  · simp +contextual -dsimp -implicitDefEqProofs (maxSteps := 5000000) only [go_sem, reduceIte, reduceCtorEq, Nat.reduceEqDiff, Nat.reduceBEq, Nat.reduceAdd, Nat.reduceLeDiff, Nat.reduceMul, Nat.reduceLT, Int.reduceEq, Int.reduceLT, Int.reduceLE, h0, h1, Int.reduceEq]
    exact (c_inRange _ _ _ _).det (by simp +contextual -dsimp -implicitDefEqProofs (maxSteps := 5000000) only [go_sem, reduceIte, reduceCtorEq, Nat.reduceEqDiff, Nat.reduceBEq, Nat.reduceAdd, Nat.reduceLeDiff, Nat.reduceMul, Nat.reduceLT, Int.reduceEq, Int.reduceLT, Int.reduceLE, exitOk, h1, Int.reduceEq])
  by_cases h2 : x.kind = 2
  · simp +contextual -dsimp -implicitDefEqProofs (maxSteps := 5000000) only [go_sem, reduceIte, reduceCtorEq, Nat.reduceEqDiff, Nat.reduceBEq, Nat.reduceAdd, Nat.reduceLeDiff, Nat.reduceMul, Nat.reduceLT, Int.reduceEq, Int.reduceLT, Int.reduceLE, h0, h1, h2, Int.reduceEq]
    exact (c_hasClass _ _ _ _).det (by simp +contextual -dsimp -implicitDefEqProofs (maxSteps := 5000000) only [go_sem, reduceIte, reduceCtorEq, Nat.reduceEqDiff, Nat.reduceBEq, Nat.reduceAdd, Nat.reduceLeDiff, Nat.reduceMul, Nat.reduceLT, Int.reduceEq, Int.reduceLT, Int.reduceLE, exitOk, h2, Int.reduceEq])
  by_cases h3 : x.kind = 3
  · simp +contextual -dsimp -implicitDefEqProofs (maxSteps := 5000000) only [go_sem, reduceIte, reduceCtorEq, Nat.reduceEqDiff, Nat.reduceBEq, Nat.reduceAdd, Nat.reduceLeDiff, Nat.reduceMul, Nat.reduceLT, Int.reduceEq, Int.reduceLT, Int.reduceLE, h0, h1, h2, h3, Int.reduceEq]
    refine (c_hasClass _ _ _ _).det ?_
    cases hh : hasF t x.a
    · simp +contextual -dsimp -implicitDefEqProofs (maxSteps := 5000000) only [go_sem, reduceIte, reduceCtorEq, Nat.reduceEqDiff, Nat.reduceBEq, Nat.reduceAdd, Nat.reduceLeDiff, Nat.reduceMul, Nat.reduceLT, Int.reduceEq, Int.reduceLT, Int.reduceLE, exitOk, h3, Int.reduceEq, hh]
    · simp +contextual -dsimp -implicitDefEqProofs (maxSteps := 5000000) only [go_sem, reduceIte, reduceCtorEq, Nat.reduceEqDiff, Nat.reduceBEq, Nat.reduceAdd, Nat.reduceLeDiff, Nat.reduceMul, Nat.reduceLT, Int.reduceEq, Int.reduceLT, Int.reduceLE, h3, Int.reduceEq]
      exact (c_inRange _ _ _ _).det (by simp +contextual -dsimp -implicitDefEqProofs (maxSteps := 5000000) only [go_sem, reduceIte, reduceCtorEq, Nat.reduceEqDiff, Nat.reduceBEq, Nat.reduceAdd, Nat.reduceLeDiff, Nat.reduceMul, Nat.reduceLT, Int.reduceEq, Int.reduceLT, Int.reduceLE, exitOk, h3, Int.reduceEq, hh])
  · simp +contextual -dsimp -implicitDefEqProofs (maxSteps := 5000000) only [go_sem, reduceIte, reduceCtorEq, Nat.reduceEqDiff, Nat.reduceBEq, Nat.reduceAdd, Nat.reduceLeDiff, Nat.reduceMul, Nat.reduceLT, Int.reduceEq, Int.reduceLT, Int.reduceLE, h0, h1, h2, h3]
    simp only [exitOk, h0, h1, h2, h3, if_false]

theorem c_validExitsF (t : List Class) (cl : Bool) (x : Exi) (H : AHeap) : ACalls Try.prog 22 [.agg (rExit x), .vptr [[.vsl (t.map rClass) cl]] 0 0] H fun r H' => r = B (!exitOk t x) ∧ H' = H := by
  refine acalls_of0 Try.func22 rfl (by kernel_rfl) rfl rfl (awp_sound (fz := fun _ => []) (im := fun s => s == 2) mixed _ _ _ _ (by kernel_rfl) ?_)
  simp +contextual -dsimp -implicitDefEqProofs (maxSteps := 5000000) only [go_sem, reduceIte, reduceCtorEq, Nat.reduceEqDiff, Nat.reduceBEq, Nat.reduceAdd, Nat.reduceLeDiff, Nat.reduceMul, Nat.reduceLT, Int.reduceEq, Int.reduceLT, Int.reduceLE]
  exact (c_exitValid _ _ _ _).det (by simp +contextual -dsimp -implicitDefEqProofs (maxSteps := 5000000) only [go_sem, reduceIte, reduceCtorEq, Nat.reduceEqDiff, Nat.reduceBEq, Nat.reduceAdd, Nat.reduceLeDiff, Nat.reduceMul, Nat.reduceLT, Int.reduceEq, Int.reduceLT, Int.reduceLE])
theorem c_IndexFuncExit (l : List Exi) (cl : Bool) (g : FuncId) (caps : List AV) (p : Exi → Bool) (H : AHeap)
    (hp : ∀ c, ACalls Try.prog g (.agg (rExit c) :: caps) H fun r H' => r = B (p c) ∧ H' = H) :
    ACalls Try.prog 42 [.vsl (l.map rExit) cl, .fn g [] caps] H fun r H' => r = I (idxF p l) ∧ H' = H := by
  refine acalls_len (by kernel_rfl) (List.mem_cons_self ..) fun hl => ?_
  rw [List.length_map] at hl
  refine acalls_of0 Try.func42 rfl (by kernel_rfl) rfl rfl (awp_sound (fz := fun _ => []) (im := fun _ => false) mixed _ _ _ _ (by kernel_rfl) ?_)
  simp +contextual -dsimp -implicitDefEqProofs (maxSteps := 5000000) only [go_sem, reduceIte, reduceCtorEq, Nat.reduceEqDiff, Nat.reduceBEq, Nat.reduceAdd, Nat.reduceLeDiff, Nat.reduceMul, Nat.reduceLT, Int.reduceEq, Int.reduceLT, Int.reduceLE]
  refine aloop mixed (fz := fun _ => []) (im := fun _ => false) (by kernel_rfl) (fun m tm H' => ∃ k : Nat, m = l.length - k ∧ k ≤ l.length ∧ H' = H ∧ tm 0 = .vsl (l.map rExit) cl ∧ tm 1 = .fn g [] caps ∧ tm 7 = I l.length ∧ tm 8 = I k ∧ (l.take k).any p = false) l.length ⟨0, ?_⟩ ?_
  · simp +contextual -dsimp -implicitDefEqProofs (maxSteps := 5000000) only [go_sem, reduceIte, reduceCtorEq, Nat.reduceEqDiff, Nat.reduceBEq, Nat.reduceAdd, Nat.reduceLeDiff, Nat.reduceMul, Nat.reduceLT, Int.reduceEq, Int.reduceLT, Int.reduceLE]
    simp
  · rintro m tm _ ⟨k, rfl, hk, rfl, h0, h1, h7, h8, hn⟩
    simp +contextual -dsimp -implicitDefEqProofs (maxSteps := 5000000) only [go_sem, reduceIte, reduceCtorEq, Nat.reduceEqDiff, Nat.reduceBEq, Nat.reduceAdd, Nat.reduceLeDiff, Nat.reduceMul, Nat.reduceLT, Int.reduceEq, Int.reduceLT, Int.reduceLE, h0, h1, h7, h8]
    refine ⟨fun h => (hp _).det ?_, fun h => ?_⟩
    · simp +contextual -dsimp -implicitDefEqProofs (maxSteps := 5000000) only [go_sem, reduceIte, reduceCtorEq, Nat.reduceEqDiff, Nat.reduceBEq, Nat.reduceAdd, Nat.reduceLeDiff, Nat.reduceMul, Nat.reduceLT, Int.reduceEq, Int.reduceLT, Int.reduceLE, h0, h1, h7, h8]
      refine ⟨fun hb => ?_, fun hb => ⟨_, ?_, k + 1, rfl, h, I_wrap (by omega) (by omega) (by omega), any_take h hn hb⟩⟩
      · rw [idxF_at h hn hb]
      · omega
    · rw [idxF_none (by omega) hn]
theorem c_ContainsFuncExit (l : List Exi) (cl : Bool) (g : FuncId) (caps : List AV) (p : Exi → Bool) (H : AHeap)
    (hp : ∀ c, ACalls Try.prog g (.agg (rExit c) :: caps) H fun r H' => r = B (p c) ∧ H' = H) :
    ACalls Try.prog 21 [.vsl (l.map rExit) cl, .fn g [] caps] H fun r H' => r = B (l.any p) ∧ H' = H := by
  refine acalls_of0 Try.func21 rfl (by kernel_rfl) rfl rfl (awp_sound (fz := fun _ => []) (im := fun _ => false) mixed _ _ _ _ (by kernel_rfl) ?_)
  simp +contextual -dsimp -implicitDefEqProofs (maxSteps := 5000000) only [go_sem, reduceIte, reduceCtorEq, Nat.reduceEqDiff, Nat.reduceBEq, Nat.reduceAdd, Nat.reduceLeDiff, Nat.reduceMul, Nat.reduceLT, Int.reduceEq, Int.reduceLT, Int.reduceLE]
  refine (c_IndexFuncExit l cl g caps p H hp).det ?_
  simp +contextual -dsimp -implicitDefEqProofs (maxSteps := 5000000) only [go_sem, reduceIte, reduceCtorEq, Nat.reduceEqDiff, Nat.reduceBEq, Nat.reduceAdd, Nat.reduceLeDiff, Nat.reduceMul, Nat.reduceLT, Int.reduceEq, Int.reduceLT, Int.reduceLE, idxF_nonneg]
theorem c_ValidExits (t : List Class) (cl : Bool) (l : List Exi) (cl' : Bool) (H : AHeap) (hn : namesOk t) : ACalls Try.prog 9 [aTree t cl, .vsl (l.map rExit) cl'] H fun r H' => r = B (validX t l) ∧ H' = H := by
  refine acalls_of0 Try.func9 rfl (by kernel_rfl) rfl rfl (awp_sound (fz := fun _ => []) (im := fun s => s == 2) mixed _ _ _ _ (by kernel_rfl) ?_)
  simp +contextual -dsimp -implicitDefEqProofs (maxSteps := 5000000) only [go_sem, reduceIte, reduceCtorEq, Nat.reduceEqDiff, Nat.reduceBEq, Nat.reduceAdd, Nat.reduceLeDiff, Nat.reduceMul, Nat.reduceLT, Int.reduceEq, Int.reduceLT, Int.reduceLE]
  refine (c_ValidTree _ _ _ hn).det ?_
  cases hv : validT t
  · simp +contextual -dsimp -implicitDefEqProofs (maxSteps := 5000000) only [go_sem, reduceIte, reduceCtorEq, Nat.reduceEqDiff, Nat.reduceBEq, Nat.reduceAdd, Nat.reduceLeDiff, Nat.reduceMul, Nat.reduceLT, Int.reduceEq, Int.reduceLT, Int.reduceLE, validX, hv]
  · by_cases h8 : l.length ≤ 8
    · have h8' : (l.length : Int) ≤ 8 := by omega
      simp +contextual -dsimp -implicitDefEqProofs (maxSteps := 5000000) only [go_sem, reduceIte, reduceCtorEq, Nat.reduceEqDiff, Nat.reduceBEq, Nat.reduceAdd, Nat.reduceLeDiff, Nat.reduceMul, Nat.reduceLT, Int.reduceEq, Int.reduceLT, Int.reduceLE, h8']
      refine (c_ContainsFuncExit l _ _ _ _ _ fun c => c_validExitsF t cl c _).det ?_
      simp +contextual -dsimp -implicitDefEqProofs (maxSteps := 5000000) only [go_sem, reduceIte, reduceCtorEq, Nat.reduceEqDiff, Nat.reduceBEq, Nat.reduceAdd, Nat.reduceLeDiff, Nat.reduceMul, Nat.reduceLT, Int.reduceEq, Int.reduceLT, Int.reduceLE, validX, hv, h8]
      rw [List.any_eq_not_all_not]
      simp
    · have h8' : ¬ (l.length : Int) ≤ 8 := by omega
      simp +contextual -dsimp -implicitDefEqProofs (maxSteps := 5000000) only [go_sem, reduceIte, reduceCtorEq, Nat.reduceEqDiff, Nat.reduceBEq, Nat.reduceAdd, Nat.reduceLeDiff, Nat.reduceMul, Nat.reduceLT, Int.reduceEq, Int.reduceLT, Int.reduceLE, validX, hv, h8, h8']
theorem c_validExits (t : List Class) (cl : Bool) (l : List Exi) (cl' : Bool) (H : AHeap) (hn : namesOk t) : ACalls Try.prog 34 [aTree t cl, .vsl (l.map rExit) cl'] H fun r H' => r = B (validX t l) ∧ H' = H := by
  refine acalls_len (es := l.map rExit) (cl := cl') (by kernel_rfl) (by simp) fun hl => ?_
  rw [List.length_map] at hl
  refine acalls_of0 Try.func34 rfl (by kernel_rfl) rfl rfl (awp_sound (fz := fun _ => []) (im := fun s => s == 2) mixed _ _ _ _ (by kernel_rfl) ?_)
  simp +contextual -dsimp -implicitDefEqProofs (maxSteps := 5000000) only [go_sem, reduceIte, reduceCtorEq, Nat.reduceEqDiff, Nat.reduceBEq, Nat.reduceAdd, Nat.reduceLeDiff, Nat.reduceMul, Nat.reduceLT, Int.reduceEq, Int.reduceLT, Int.reduceLE]
  refine aloop mixed (fz := fun _ => []) (im := fun s => s == 2) (by kernel_rfl) (fun m tm H' => ∃ k : Nat, m = l.length - k ∧ k ≤ l.length ∧ H' = H ∧ tm 1 = .vsl (l.map rExit) cl' ∧ tm 2 = .vptr [[.vsl (t.map rClass) cl]] 0 0 ∧ tm 5 = I k ∧ (l.take k).all (exitOk t) = true) l.length ⟨0, ?_⟩ ?_
  · simp +contextual -dsimp -implicitDefEqProofs (maxSteps := 5000000) only [go_sem, reduceIte, reduceCtorEq, Nat.reduceEqDiff, Nat.reduceBEq, Nat.reduceAdd, Nat.reduceLeDiff, Nat.reduceMul, Nat.reduceLT, Int.reduceEq, Int.reduceLT, Int.reduceLE]
    simp
  · rintro m tm _ ⟨k, rfl, hk, rfl, h1, h2, h5, hn'⟩
    simp +contextual -dsimp -implicitDefEqProofs (maxSteps := 5000000) only [go_sem, reduceIte, reduceCtorEq, Nat.reduceEqDiff, Nat.reduceBEq, Nat.reduceAdd, Nat.reduceLeDiff, Nat.reduceMul, Nat.reduceLT, Int.reduceEq, Int.reduceLT, Int.reduceLE, h1, h2, h5]
    refine ⟨fun h => ?_, fun h => ?_⟩
    · refine draw_intro [0, 0, 0, 0, 0, 2, 0] AHeap.none (by kernel_rfl) none_le ?_
      simp +contextual -dsimp -implicitDefEqProofs (maxSteps := 5000000) only [go_sem, reduceIte, reduceCtorEq, Nat.reduceEqDiff, Nat.reduceBEq, Nat.reduceAdd, Nat.reduceLeDiff, Nat.reduceMul, Nat.reduceLT, Int.reduceEq, Int.reduceLT, Int.reduceLE, h1, h2, h5, h]
      refine (c_validExit _ _ _ _).det ?_
      simp +contextual -dsimp -implicitDefEqProofs (maxSteps := 5000000) only [go_sem, reduceIte, reduceCtorEq, Nat.reduceEqDiff, Nat.reduceBEq, Nat.reduceAdd, Nat.reduceLeDiff, Nat.reduceMul, Nat.reduceLT, Int.reduceEq, Int.reduceLT, Int.reduceLE, h1, h2, h5, h]
      refine ⟨fun hb => ?_, fun hb => ⟨_, ?_, k + 1, rfl, h, I_wrap (by omega) (by omega) (by omega), all_take h hn' hb⟩⟩
      · simp only [validX, all_not h hb, Bool.and_false]
      · omega
    · refine (c_validTree _ _ _ hn).det ?_
      rw [List.take_of_length_le (by omega)] at hn'
      cases hv : validT t
      · simp +contextual -dsimp -implicitDefEqProofs (maxSteps := 5000000) only [go_sem, reduceIte, reduceCtorEq, Nat.reduceEqDiff, Nat.reduceBEq, Nat.reduceAdd, Nat.reduceLeDiff, Nat.reduceMul, Nat.reduceLT, Int.reduceEq, Int.reduceLT, Int.reduceLE, h1, h2, h5, validX, hv]
      · by_cases h8 : l.length ≤ 8
        · have h8' : (l.length : Int) ≤ 8 := by omega
          simp +contextual -dsimp -implicitDefEqProofs (maxSteps := 5000000) only [go_sem, reduceIte, reduceCtorEq, Nat.reduceEqDiff, Nat.reduceBEq, Nat.reduceAdd, Nat.reduceLeDiff, Nat.reduceMul, Nat.reduceLT, Int.reduceEq, Int.reduceLT, Int.reduceLE, h1, h2, h5, validX, hv, h8, h8', hn']
        · have h8' : ¬ (l.length : Int) ≤ 8 := by omega
          simp +contextual -dsimp -implicitDefEqProofs (maxSteps := 5000000) only [go_sem, reduceIte, reduceCtorEq, Nat.reduceEqDiff, Nat.reduceBEq, Nat.reduceAdd, Nat.reduceLeDiff, Nat.reduceMul, Nat.reduceLT, Int.reduceEq, Int.reduceLT, Int.reduceLE, h1, h2, h5, validX, hv, h8, h8', hn']
theorem c_startValid (t : List Class) (cl : Bool) (x : Sta) (H : AHeap) : ACalls Try.prog 14 [.agg (rStart x), aTree t cl] H fun r H' => r = B (startOk t x) ∧ H' = H := by
  refine acalls_of0 Try.func14 rfl (by kernel_rfl) rfl rfl (awp_sound (fz := fun _ => []) (im := fun s => s == 2 || s == 3) mixed _ _ _ _ (by kernel_rfl) ?_)
  cases hx : x.has
  · simp +contextual -dsimp -implicitDefEqProofs (maxSteps := 5000000) only [go_sem, reduceIte, reduceCtorEq, Nat.reduceEqDiff, Nat.reduceBEq, Nat.reduceAdd, Nat.reduceLeDiff, Nat.reduceMul, Nat.reduceLT, Int.reduceEq, Int.reduceLT, Int.reduceLE, hx]
    simp only [startOk, hx]
    cases decide (x.cls = 0) <;> cases decide (x.code = 0) <;> rfl
  · simp +contextual -dsimp -implicitDefEqProofs (maxSteps := 5000000) only [go_sem, reduceIte, reduceCtorEq, Nat.reduceEqDiff, Nat.reduceBEq, Nat.reduceAdd, Nat.reduceLeDiff, Nat.reduceMul, Nat.reduceLT, Int.reduceEq, Int.reduceLT, Int.reduceLE, hx]
    refine (c_has _ _ _ _).det ?_
    cases hh : hasF t x.cls
    · simp +contextual -dsimp -implicitDefEqProofs (maxSteps := 5000000) only [go_sem, reduceIte, reduceCtorEq, Nat.reduceEqDiff, Nat.reduceBEq, Nat.reduceAdd, Nat.reduceLeDiff, Nat.reduceMul, Nat.reduceLT, Int.reduceEq, Int.reduceLT, Int.reduceLE, hx, startOk, hh]
    · simp +contextual -dsimp -implicitDefEqProofs (maxSteps := 5000000) only [go_sem, reduceIte, reduceCtorEq, Nat.reduceEqDiff, Nat.reduceBEq, Nat.reduceAdd, Nat.reduceLeDiff, Nat.reduceMul, Nat.reduceLT, Int.reduceEq, Int.reduceLT, Int.reduceLE, hx]
      exact (c_codeOk _ _).det (by simp +contextual -dsimp -implicitDefEqProofs (maxSteps := 5000000) only [go_sem, reduceIte, reduceCtorEq, Nat.reduceEqDiff, Nat.reduceBEq, Nat.reduceAdd, Nat.reduceLeDiff, Nat.reduceMul, Nat.reduceLT, Int.reduceEq, Int.reduceLT, Int.reduceLE, hx, startOk, hh])
theorem c_validStart (t : List Class) (cl : Bool) (x : Sta) (H : AHeap) : ACalls Try.prog 35 [aTree t cl, .agg (rStart x)] H fun r H' => r = B (startOk t x) ∧ H' = H := by
  refine acalls_of0 Try.func35 rfl (by kernel_rfl) rfl rfl (awp_sound (fz := fun _ => []) (im := fun s => s == 2 || s == 3) mixed _ _ _ _ (by kernel_rfl) ?_)
  cases hx : x.has
  · simp +contextual -dsimp -implicitDefEqProofs (maxSteps := 5000000) only [go_sem, reduceIte, reduceCtorEq, Nat.reduceEqDiff, Nat.reduceBEq, Nat.reduceAdd, Nat.reduceLeDiff, Nat.reduceMul, Nat.reduceLT, Int.reduceEq, Int.reduceLT, Int.reduceLE, hx, startOk]
  · simp +contextual -dsimp -implicitDefEqProofs (maxSteps := 5000000) only [go_sem, reduceIte, reduceCtorEq, Nat.reduceEqDiff, Nat.reduceBEq, Nat.reduceAdd, Nat.reduceLeDiff, Nat.reduceMul, Nat.reduceLT, Int.reduceEq, Int.reduceLT, Int.reduceLE, hx]
    refine (c_hasClass _ _ _ _).det ?_
    cases hh : hasF t x.cls
    · simp +contextual -dsimp -implicitDefEqProofs (maxSteps := 5000000) only [go_sem, reduceIte, reduceCtorEq, Nat.reduceEqDiff, Nat.reduceBEq, Nat.reduceAdd, Nat.reduceLeDiff, Nat.reduceMul, Nat.reduceLT, Int.reduceEq, Int.reduceLT, Int.reduceLE, hx, startOk, hh]
    · simp +contextual -dsimp -implicitDefEqProofs (maxSteps := 5000000) only [go_sem, reduceIte, reduceCtorEq, Nat.reduceEqDiff, Nat.reduceBEq, Nat.reduceAdd, Nat.reduceLeDiff, Nat.reduceMul, Nat.reduceLT, Int.reduceEq, Int.reduceLT, Int.reduceLE, hx]
      exact (c_inRange _ _ _ _).det (by simp +contextual -dsimp -implicitDefEqProofs (maxSteps := 5000000) only [go_sem, reduceIte, reduceCtorEq, Nat.reduceEqDiff, Nat.reduceBEq, Nat.reduceAdd, Nat.reduceLeDiff, Nat.reduceMul, Nat.reduceLT, Int.reduceEq, Int.reduceLT, Int.reduceLE, hx, startOk, hh])
theorem c_goodClose (t : List Class) (cl : Bool) (l : List Exi) (cl' : Bool) (x : Sta) (H : AHeap) (hn : namesOk t) : ACalls Try.prog 18 [aTree t cl, .vsl (l.map rExit) cl', .agg (rStart x)] H fun r H' => r = B (validX t l && startOk t x) ∧ H' = H := by
  refine acalls_of0 Try.func18 rfl (by kernel_rfl) rfl rfl (awp_sound (fz := fun _ => []) (im := fun s => s == 3 || s == 5) mixed _ _ _ _ (by kernel_rfl) ?_)
  simp +contextual -dsimp -implicitDefEqProofs (maxSteps := 5000000) only [go_sem, reduceIte, reduceCtorEq, Nat.reduceEqDiff, Nat.reduceBEq, Nat.reduceAdd, Nat.reduceLeDiff, Nat.reduceMul, Nat.reduceLT, Int.reduceEq, Int.reduceLT, Int.reduceLE]
  refine (c_validExits _ _ _ _ _ hn).det ?_
  cases hv : validX t l
  · simp +contextual -dsimp -implicitDefEqProofs (maxSteps := 5000000) only [go_sem, reduceIte, reduceCtorEq, Nat.reduceEqDiff, Nat.reduceBEq, Nat.reduceAdd, Nat.reduceLeDiff, Nat.reduceMul, Nat.reduceLT, Int.reduceEq, Int.reduceLT, Int.reduceLE, hv]
  · simp +contextual -dsimp -implicitDefEqProofs (maxSteps := 5000000) only [go_sem, reduceIte, reduceCtorEq, Nat.reduceEqDiff, Nat.reduceBEq, Nat.reduceAdd, Nat.reduceLeDiff, Nat.reduceMul, Nat.reduceLT, Int.reduceEq, Int.reduceLT, Int.reduceLE]
    exact (c_validStart _ _ _ _).det (by simp +contextual -dsimp -implicitDefEqProofs (maxSteps := 5000000) only [go_sem, reduceIte, reduceCtorEq, Nat.reduceEqDiff, Nat.reduceBEq, Nat.reduceAdd, Nat.reduceLeDiff, Nat.reduceMul, Nat.reduceLT, Int.reduceEq, Int.reduceLT, Int.reduceLE, hv])

/-! ### Comparisons -/
theorem list_eq_of {α : Type} [DecidableEq α] [Inhabited α] {a b : List α} (h : a.length = b.length) {k : Nat} (hk : a.length ≤ k) (e : ∀ i, i < k → i < a.length → a.getD i default = b.getD i default) : a = b := by
  apply List.ext_getElem h
  intro i h1 h2
  have := e i (by omega) h1
  simpa [List.getD_eq_getElem?_getD, h1, h2] using this
theorem c_equalInts (a b : List Int) (ca cb : Bool) (H : AHeap) : ACalls Try.prog 16 [.vsl (a.map rI) ca, .vsl (b.map rI) cb] H fun r H' => r = B (decide (a = b)) ∧ H' = H := by
  refine acalls_len (by kernel_rfl) (List.mem_cons_self ..) fun hl => ?_
  rw [List.length_map] at hl
  refine acalls_of0 Try.func16 rfl (by kernel_rfl) rfl rfl (awp_sound (fz := fun _ => []) (im := fun _ => false) mixed _ _ _ _ (by kernel_rfl) ?_)
  by_cases hab : a.length = b.length
  · simp +contextual -dsimp -implicitDefEqProofs (maxSteps := 5000000) only [go_sem, reduceIte, reduceCtorEq, Nat.reduceEqDiff, Nat.reduceBEq, Nat.reduceAdd, Nat.reduceLeDiff, Nat.reduceMul, Nat.reduceLT, Int.reduceEq, Int.reduceLT, Int.reduceLE, hab]
    refine aloop mixed (fz := fun _ => []) (im := fun _ => false) (by kernel_rfl) (fun m tm H' => ∃ k : Nat, m = a.length - k ∧ k ≤ a.length ∧ H' = H ∧ tm 0 = .vsl (a.map rI) ca ∧ tm 1 = .vsl (b.map rI) cb ∧ tm 5 = I k ∧ ∀ i, i < k → i < a.length → a.getD i default = b.getD i default) a.length ⟨0, ?_⟩ ?_
    · simp +contextual -dsimp -implicitDefEqProofs (maxSteps := 5000000) only [go_sem, reduceIte, reduceCtorEq, Nat.reduceEqDiff, Nat.reduceBEq, Nat.reduceAdd, Nat.reduceLeDiff, Nat.reduceMul, Nat.reduceLT, Int.reduceEq, Int.reduceLT, Int.reduceLE]
      simp
    · rintro m tm _ ⟨k, rfl, hk, rfl, h0, h1, h5, he⟩
      simp +contextual -dsimp -implicitDefEqProofs (maxSteps := 5000000) only [go_sem, reduceIte, reduceCtorEq, Nat.reduceEqDiff, Nat.reduceBEq, Nat.reduceAdd, Nat.reduceLeDiff, Nat.reduceMul, Nat.reduceLT, Int.reduceEq, Int.reduceLT, Int.reduceLE, h0, h1, h5]
      refine ⟨fun h => ?_, fun h => ?_⟩
      · refine draw_intro [0, 0, 0, 0, 0, 0, 0, 0, 0] AHeap.none (by kernel_rfl) none_le ?_
        have h' : k < b.length := by omega
        simp +contextual -dsimp -implicitDefEqProofs (maxSteps := 5000000) only [go_sem, reduceIte, reduceCtorEq, Nat.reduceEqDiff, Nat.reduceBEq, Nat.reduceAdd, Nat.reduceLeDiff, Nat.reduceMul, Nat.reduceLT, Int.reduceEq, Int.reduceLT, Int.reduceLE, h0, h1, h5, h, h']
        refine ⟨fun hb => ?_, fun hb => ⟨_, ?_, k + 1, rfl, h, I_wrap (by omega) (by omega) (by omega), ?_⟩⟩
        · rw [decide_eq_false (fun e => hb (by rw [e]))]
        · omega
        · intro i hi hi'
          rcases Nat.lt_or_ge i k with q | q
          · exact he i q hi'
          · have : i = k := by omega
            subst this; exact hb
      · rw [decide_eq_true (list_eq_of hab (Nat.le_of_not_lt h) he)]
  · have hab' : ¬ (a.length : Int) = b.length := by omega
    simp +contextual -dsimp -implicitDefEqProofs (maxSteps := 5000000) only [go_sem, reduceIte, reduceCtorEq, Nat.reduceEqDiff, Nat.reduceBEq, Nat.reduceAdd, Nat.reduceLeDiff, Nat.reduceMul, Nat.reduceLT, Int.reduceEq, Int.reduceLT, Int.reduceLE, hab']
    rw [decide_eq_false (fun e => hab (by rw [e]))]
theorem fault_eq (a b : Fault) : (decide (a.cls = b.cls) && (decide (a.code = b.code) && (decide (a.cause = b.cause) && (decide (a.ctx = b.ctx) && (a.hide == b.hide))))) = decide (a = b) := by
  cases a; cases b
  simp only [Fault.mk.injEq]
  rw [Bool.eq_iff_iff]
  simp
theorem c_equalHeap (a b : List Fault) (ca cb : Bool) (H : AHeap) : ACalls Try.prog 17 [.agg [.vsl (a.map rFault) ca], .agg [.vsl (b.map rFault) cb]] H fun r H' => r = B (decide (a = b)) ∧ H' = H := by
  refine acalls_len1 (by kernel_rfl) (List.mem_cons_self ..) fun hl => ?_
  rw [List.length_map] at hl
  refine acalls_of0 Try.func17 rfl (by kernel_rfl) rfl rfl (awp_sound (fz := fun _ => []) (im := fun s => s == 2 || s == 3) mixed _ _ _ _ (by kernel_rfl) ?_)
  by_cases hab : a.length = b.length
  · simp +contextual -dsimp -implicitDefEqProofs (maxSteps := 5000000) only [go_sem, reduceIte, reduceCtorEq, Nat.reduceEqDiff, Nat.reduceBEq, Nat.reduceAdd, Nat.reduceLeDiff, Nat.reduceMul, Nat.reduceLT, Int.reduceEq, Int.reduceLT, Int.reduceLE, hab]
    refine aloop mixed (fz := fun _ => []) (im := fun s => s == 2 || s == 3) (by kernel_rfl) (fun m tm H' => ∃ k : Nat, m = a.length - k ∧ k ≤ a.length ∧ H' = H ∧ tm 2 = .vptr [[.vsl (a.map rFault) ca]] 0 0 ∧ tm 3 = .vptr [[.vsl (b.map rFault) cb]] 0 0 ∧ tm 5 = I k ∧ ∀ i, i < k → i < a.length → a.getD i default = b.getD i default) a.length ⟨0, ?_⟩ ?_
    · simp +contextual -dsimp -implicitDefEqProofs (maxSteps := 5000000) only [go_sem, reduceIte, reduceCtorEq, Nat.reduceEqDiff, Nat.reduceBEq, Nat.reduceAdd, Nat.reduceLeDiff, Nat.reduceMul, Nat.reduceLT, Int.reduceEq, Int.reduceLT, Int.reduceLE]
      simp
    · rintro m tm _ ⟨k, rfl, hk, rfl, h0, h1, h5, he⟩
      simp +contextual -dsimp -implicitDefEqProofs (maxSteps := 5000000) only [go_sem, reduceIte, reduceCtorEq, Nat.reduceEqDiff, Nat.reduceBEq, Nat.reduceAdd, Nat.reduceLeDiff, Nat.reduceMul, Nat.reduceLT, Int.reduceEq, Int.reduceLT, Int.reduceLE, h0, h1, h5]
      refine ⟨fun h => ?_, fun h => ?_⟩
      · refine draw_intro [0, 0, 0, 0, 0, 0, 0, 0, 0, 0, 0] AHeap.none (by kernel_rfl) none_le ?_
        have h' : k < b.length := by omega
        simp +contextual -dsimp -implicitDefEqProofs (maxSteps := 5000000) only [go_sem, reduceIte, reduceCtorEq, Nat.reduceEqDiff, Nat.reduceBEq, Nat.reduceAdd, Nat.reduceLeDiff, Nat.reduceMul, Nat.reduceLT, Int.reduceEq, Int.reduceLT, Int.reduceLE, h0, h1, h5, h, h', fault_eq]
        refine ⟨fun hb => ?_, fun hb => ⟨_, ?_, k + 1, rfl, h, I_wrap (by omega) (by omega) (by omega), ?_⟩⟩
        · rw [decide_eq_false (fun e => hb (by rw [e]))]
        · omega
        · intro i hi hi'
          rcases Nat.lt_or_ge i k with q | q
          · exact he i q hi'
          · have : i = k := by omega
            subst this; exact hb
      · rw [decide_eq_true (list_eq_of hab (Nat.le_of_not_lt h) he)]
  · have hab' : ¬ (a.length : Int) = b.length := by omega
    simp +contextual -dsimp -implicitDefEqProofs (maxSteps := 5000000) only [go_sem, reduceIte, reduceCtorEq, Nat.reduceEqDiff, Nat.reduceBEq, Nat.reduceAdd, Nat.reduceLeDiff, Nat.reduceMul, Nat.reduceLT, Int.reduceEq, Int.reduceLT, Int.reduceLE, hab']
    rw [decide_eq_false (fun e => hab (by rw [e]))]
abbrev aHeap (h : List Fault) (c : Bool) : AV := .agg [.vsl (h.map rFault) c]
def rRes (r : Res) (c1 c2 : Bool) : List AV := [.vsl (r.log.map rI) c1, I r.ed, I r.val, .vsl (r.heap.map rFault) c2]
theorem c_lawsHas (t : List Class) (cl : Bool) (a : Int) (H : AHeap) : ACalls Try.prog 10 [aTree t cl, I a] H fun r H' => r = B (hasF t a) ∧ H' = H := by
  refine acalls_of0 Try.func10 rfl (by kernel_rfl) rfl rfl (awp_sound (fz := fun _ => []) (im := fun s => s == 2) mixed _ _ _ _ (by kernel_rfl) ?_)
  simp +contextual -dsimp -implicitDefEqProofs (maxSteps := 5000000) only [go_sem, reduceIte, reduceCtorEq, Nat.reduceEqDiff, Nat.reduceBEq, Nat.reduceAdd, Nat.reduceLeDiff, Nat.reduceMul, Nat.reduceLT, Int.reduceEq, Int.reduceLT, Int.reduceLE]
  simp only [hasF, inR]
  congr 2
  rw [Bool.eq_iff_iff]
  simp
  omega
end Go.Proofs.Ytihjbbiajggcoaa
end
section
set_option linter.unusedVariables false
set_option linter.unusedSimpArgs false
namespace Go.Proofs.Ytihjbbiajggcoaa
open Go Go.Sim
set_option maxRecDepth 100000
attribute [local go_sem ↓] aw_skip aw_ret aw_exit aw_region aw_draw aw_seq aw_block aw_loop aw_cond frz_nil frz_cons sq_normal sq_ret sq_exit exB_normal exB_ret exB_same exB_other retQ_ret retQ_normal ret0_ret ret0_normal ao_nil go1 g_move g_assign g_pick g_build g_load g_binOp g_unOp g_convert g_fieldAddr g_field g_indexAddr g_index g_extract g_slice g_nilCheck g_len g_makeFunc h_call h_append h_alloc h_box h_buildSlice h_makeSlice h_store gV i_box i_buildSlice i_move i_assign i_build i_load i_binOp i_unOp i_convert i_fieldAddr i_field i_indexAddr i_index i_extract i_slice i_nilCheck i_makeFunc i_len i_max i_min i_alloc i_makeSlice i_store i_append i_call i_pick boxI boxA buildSliceI buildSliceA makeSliceA allocA storeA p_move p_assign p_pick p_build p_load p_binOp p_unOp p_convert p_fieldAddr p_field p_indexAddr p_index p_extract p_slice p_nilCheck p_makeFunc p_len p_max p_min p_alloc p_box p_buildSlice p_makeSlice p_store p_append p_call x_nil x_go1 x_g0 x_g1 x_g2 x_g3 x_s0 x_s1 x_s2 x_s3 u_move u_assign u_pick u_build u_load u_binOp u_unOp u_convert u_fieldAddr u_field u_indexAddr u_index u_extract u_slice u_nilCheck u_makeFunc u_len u_buildSlice
attribute [local go_sem] frzV_ptr frzV_sl frzK_some set_none set_other AHeap.set_self set_del set_set cnd_t cnd_f cnd_b retA_one retA_two retA_three retA_four retA_nil gIf_b mrgV_b mrgV_wh mrgV_U gIf_U gIf_wh mrgB_f mrgB_some mrgB_if wh_true wh_false keepA_some keepA_if gD_zero gD_succ gT_some bxA_t bxA_f callA_fn ev_tmp ev_const ev_global ev_func oc_bool oc_int oc_string oc_nil oc_nilptr oc_nilfunc cl_bool cl_int cl_string cl_nil updO_some updO_none upd_same upd_other init_at pickA_b pickA_wh selA_t selA_f selA_and selA_or selA_orn selA_orm selA_bb selA_ii beqt b_add b_sub b_mul b_and b_or b_xor b_eql b_neq b_lss b_leq b_gtr b_geq b_quo b_rem b_shr b_seql b_sneq b_sadd b_beql b_bneq b_aeql b_aneq u_not u_neg isConstOp eqA eqCellV List.getD_cons_zero List.getD_cons_succ List.map_cons List.map_nil List.nil_append List.cons_append List.append_nil if_true if_false Option.map_some Option.map_none ne_eq not_false_eq_true oneA ldv ld1v ld1s wr1s ldRow stRow row_lit row_agg row_vsl row_sl row_ptr row_fn one_I one_B one_S one_vsl one_sl one_ptr one_fn extractA okA rI rS rU rClass rFault rExit rStart rLine Int.toNat_natCast List.length_cons List.length_nil List.length_map List.all_cons List.all_nil Bool.and_true Nat.zero_add List.getElem?_cons_zero List.getElem?_cons_succ List.take_succ_cons List.take_zero List.drop_succ_cons List.drop_zero and_self true_and and_true implies_true decide_eq_true_eq decide_eq_false_iff_not Bool.or_eq_true Bool.or_eq_false_iff Bool.and_eq_true Bool.not_eq_true' Bool.not_eq_false' beq_false decide_true decide_false Int.ofNat_lt Int.ofNat_le Int.natCast_nonneg Bool.or_true Bool.or_false Bool.true_or Bool.false_or beq_self_eq_true List.drop_one Bool.not_true Bool.not_false Bool.not_not Bool.false_eq_true Bool.true_eq_false false_implies true_implies Bool.true_and Bool.false_and Bool.and_false not_true_eq_false Int.natCast_eq_zero Int.natCast_pos Int.natCast_zero false_and and_false or_false false_or or_true true_or Bool.or_self none_le_iff List.replicate_zero Int.toNat_zero List.replicate_succ buildRows List.set_cons_zero List.set_cons_succ List.set_nil List.mapM_nil maxLen_eq Nat.zero_le Nat.mul_one Nat.one_mul bldA fillA spliceA List.take_nil List.drop_nil List.getElem?_nil ld1o wr1o bldSliceA le_same ti1 ti2 tk2 ti3 te3 ts3 tk3 tz3 ti4 tb4 ti5 tk5 tz5 ti9 te9 ts9 tk9 tz9 ti12 tk12 ti13 tp13 tf13_0 tf13_1 ti20 ti21 tk21 tz21 ti22 te22 tz22 ti23 te23 ti24 tp24 tf24_0 ti25 tp25 tf25_0 ti26 te26 ti27 tq27 tp27 tf27_0 tf27_1 tf27_2 ti28 tq28 tp28 tf28_0 tf28_1 tf28_2 ti30 ti31 te31 ti32 te32 ti33 tp33 tf33_0 ti34 tp34 tf34_0 ti35 tp35 tf35_0 tf35_1 tf35_2 tf35_3 ti36 tp36 tf36_0 tf36_1 tf36_2 tf36_3 ti37 ti38 ti39 ti40 tq40 tp40 tf40_0 tf40_1 tf40_2 ti41 tq41 tp41 tf41_0 tf41_1 tf41_2 ti42 ti43 ti44 ti45 ti47 ti48 ti49 ti50 ti51 ti52 ti53 ti54 ti55 tp55 tf55_0 tf55_1 ti56 tp56 tf56_0 tf56_1 ti57 ti58 ti59 ti60 ti61 ti62 ti63 ti64 ti65 ti66 ti67 tq67 tp67 tf67_0 tf67_1 ti68 tq68 tp68 tf68_0 tf68_1 ti69 tq69 tp69 tf69_0 tf69_1 tf69_2 tf69_3 tf69_4 ti70 tq70 tp70 tf70_0 tf70_1 tf70_2 tf70_3 tf70_4 ti71 ti72 tp72 tf72_0 tf72_1 tf72_2 ti73 tp73 tf73_0 tf73_1 tf73_2 ti74 ti75 ti77 ti78 tq78 tp78 tf78_0 tf78_1 ti79 tq79 tp79 tf79_0 tf79_1 ti80 ti81 ti82 ti83 ti84 ti85 te85 ti86 ti87 te87 ti88 tp88 tf88_0 tf88_1 tf88_2 tf88_3 tf88_4 ti89 tp89 tf89_0 tf89_1 tf89_2 tf89_3 tf89_4 ti90 ti91 ti92 ti93 ti94 ti95 ti96 ti97 ti98 ti99 ti100 ti101 ti102 ti103 ti104 ti105 ti106 ti107 ti108 ti109 ti110 ti111 ti112 ti113 ti114 ti115 ti116 tk116 tz116 ti117 ti118 tk118 ti120 ti121 ti122 ti124 ti125 ti126 tk126 tz126 ti127 ti128 tk128 tz128 ti129 tk129 ti130 ti131 ti132 ti133 ti134 ti135 ti137 ti138 ti144 ti148 ti153 ti154 tq154 tp154 tf154_0 tf154_1 tf154_2 tf154_3 ti155 tq155 tp155 tf155_0 tf155_1 tf155_2 tf155_3 ti157 fp13_0 fv13_0 fp13_1 fv13_1 fp24_0 fv24_0 fp25_0 fv25_0 fp27_0 fv27_0 fp27_1 fv27_1 fp27_2 fv27_2 fp28_0 fv28_0 fp28_1 fv28_1 fp28_2 fv28_2 fp33_0 fv33_0 fp34_0 fv34_0 fp35_0 fv35_0 fp35_1 fv35_1 fp35_2 fv35_2 fp35_3 fv35_3 fp36_0 fv36_0 fp36_1 fv36_1 fp36_2 fv36_2 fp36_3 fv36_3 fp40_0 fv40_0 fp40_1 fv40_1 fp40_2 fv40_2 fp41_0 fv41_0 fp41_1 fv41_1 fp41_2 fv41_2 fp55_0 fv55_0 fp55_1 fv55_1 fp56_0 fv56_0 fp56_1 fv56_1 fp67_0 fv67_0 fp67_1 fv67_1 fp68_0 fv68_0 fp68_1 fv68_1 fp69_0 fv69_0 fp69_1 fv69_1 fp69_2 fv69_2 fp69_3 fv69_3 fp69_4 fv69_4 fp70_0 fv70_0 fp70_1 fv70_1 fp70_2 fv70_2 fp70_3 fv70_3 fp70_4 fv70_4 fp72_0 fv72_0 fp72_1 fv72_1 fp72_2 fv72_2 fp73_0 fv73_0 fp73_1 fv73_1 fp73_2 fv73_2 fp78_0 fv78_0 fp78_1 fv78_1 fp79_0 fv79_0 fp79_1 fv79_1 fp88_0 fv88_0 fp88_1 fv88_1 fp88_2 fv88_2 fp88_3 fv88_3 fp88_4 fv88_4 fp89_0 fv89_0 fp89_1 fv89_1 fp89_2 fv89_2 fp89_3 fv89_3 fp89_4 fv89_4 fp154_0 fv154_0 fp154_1 fv154_1 fp154_2 fv154_2 fp154_3 fv154_3 fp155_0 fv155_0 fp155_1 fv155_1 fp155_2 fv155_2 fp155_3 fv155_3 lv22 ll22 is22 ix22 sh22 so22 sb22 sm22 sp22 lv23 ll23 is23 ix23 sh23 so23 sb23 sm23 sp23 lv26 ll26 is26 ix26 sh26 so26 sb26 sm26 sp26 lv31 ll31 is31 ix31 sh31 so31 sb31 sm31 sp31 lv32 ll32 is32 ix32 sh32 so32 sb32 sm32 sp32 lv85 ll85 is85 ix85 sh85 so85 sb85 sm85 sp85 lv87 ll87 is87 ix87 sh87 so87 sb87 sm87 sp87 xs9 ls9 sx9 sy9 sz9
def resEq (a b : Res) : Bool := decide (a.log = b.log) && (decide (a.ed = b.ed) && (decide (a.val = b.val) && decide (a.heap = b.heap)))
theorem c_equalResult (a b : Res) (c1 c2 c3 c4 : Bool) (H : AHeap) : ACalls Try.prog 7 [.agg [.vsl (a.log.map rI) c1, I a.ed, I a.val, .vsl (a.heap.map rFault) c2], .agg [.vsl (b.log.map rI) c3, I b.ed, I b.val, .vsl (b.heap.map rFault) c4]] H fun r H' => r = B (resEq a b) ∧ H' = H := by
  refine acalls_of0 Try.func7 rfl (by kernel_rfl) rfl rfl (awp_sound (fz := fun _ => []) (im := fun s => s == 2 || s == 3) mixed _ _ _ _ (by kernel_rfl) ?_)
  simp +contextual -dsimp -implicitDefEqProofs (maxSteps := 5000000) only [go_sem, reduceIte, reduceCtorEq, Nat.reduceEqDiff, Nat.reduceBEq, Nat.reduceAdd, Nat.reduceLeDiff, Nat.reduceMul, Nat.reduceLT, Int.reduceEq, Int.reduceLT, Int.reduceLE]
  refine (c_equalInts _ _ _ _ _).det ?_
  unfold resEq
  generalize decide (a.log = b.log) = b1
  cases b1
  · simp +contextual -dsimp -implicitDefEqProofs (maxSteps := 5000000) only [go_sem, reduceIte, reduceCtorEq, Nat.reduceEqDiff, Nat.reduceBEq, Nat.reduceAdd, Nat.reduceLeDiff, Nat.reduceMul, Nat.reduceLT, Int.reduceEq, Int.reduceLT, Int.reduceLE]
  · by_cases he : a.ed = b.ed
    · by_cases hv : a.val = b.val
      · simp +contextual -dsimp -implicitDefEqProofs (maxSteps := 5000000) only [go_sem, reduceIte, reduceCtorEq, Nat.reduceEqDiff, Nat.reduceBEq, Nat.reduceAdd, Nat.reduceLeDiff, Nat.reduceMul, Nat.reduceLT, Int.reduceEq, Int.reduceLT, Int.reduceLE, he, hv]
        refine (c_equalHeap _ _ _ _ _).det ?_
        simp +contextual -dsimp -implicitDefEqProofs (maxSteps := 5000000) only [go_sem, reduceIte, reduceCtorEq, Nat.reduceEqDiff, Nat.reduceBEq, Nat.reduceAdd, Nat.reduceLeDiff, Nat.reduceMul, Nat.reduceLT, Int.reduceEq, Int.reduceLT, Int.reduceLE, he, hv]
      · simp +contextual -dsimp -implicitDefEqProofs (maxSteps := 5000000) only [go_sem, reduceIte, reduceCtorEq, Nat.reduceEqDiff, Nat.reduceBEq, Nat.reduceAdd, Nat.reduceLeDiff, Nat.reduceMul, Nat.reduceLT, Int.reduceEq, Int.reduceLT, Int.reduceLE, he, hv]
    · simp +contextual -dsimp -implicitDefEqProofs (maxSteps := 5000000) only [go_sem, reduceIte, reduceCtorEq, Nat.reduceEqDiff, Nat.reduceBEq, Nat.reduceAdd, Nat.reduceLeDiff, Nat.reduceMul, Nat.reduceLT, Int.reduceEq, Int.reduceLT, Int.reduceLE, he]
end Go.Proofs.Ytihjbbiajggcoaa
end
section
set_option linter.unusedVariables false
set_option linter.unusedSimpArgs false
namespace Go.Proofs.Ytihjbbiajggcoaa
open Go Go.Sim
set_option maxRecDepth 100000
attribute [local go_sem ↓] aw_skip aw_ret aw_exit aw_region aw_draw aw_seq aw_block aw_loop aw_cond frz_nil frz_cons sq_normal sq_ret sq_exit exB_normal exB_ret exB_same exB_other retQ_ret retQ_normal ret0_ret ret0_normal ao_nil go1 g_move g_assign g_pick g_build g_load g_binOp g_unOp g_convert g_fieldAddr g_field g_indexAddr g_index g_extract g_slice g_nilCheck g_len g_makeFunc h_call h_append h_alloc h_box h_buildSlice h_makeSlice h_store gV i_box i_buildSlice i_move i_assign i_build i_load i_binOp i_unOp i_convert i_fieldAddr i_field i_indexAddr i_index i_extract i_slice i_nilCheck i_makeFunc i_len i_max i_min i_alloc i_makeSlice i_store i_append i_call i_pick boxI boxA buildSliceI buildSliceA makeSliceA allocA storeA p_move p_assign p_pick p_build p_load p_binOp p_unOp p_convert p_fieldAddr p_field p_indexAddr p_index p_extract p_slice p_nilCheck p_makeFunc p_len p_max p_min p_alloc p_box p_buildSlice p_makeSlice p_store p_append p_call x_nil x_go1 x_g0 x_g1 x_g2 x_g3 x_s0 x_s1 x_s2 x_s3 u_move u_assign u_pick u_build u_load u_binOp u_unOp u_convert u_fieldAddr u_field u_indexAddr u_index u_extract u_slice u_nilCheck u_makeFunc u_len u_buildSlice
attribute [local go_sem] frzV_ptr frzV_sl frzK_some set_none set_other AHeap.set_self set_del set_set cnd_t cnd_f cnd_b retA_one retA_two retA_three retA_four retA_nil gIf_b mrgV_b mrgV_wh mrgV_U gIf_U gIf_wh mrgB_f mrgB_some mrgB_if wh_true wh_false keepA_some keepA_if gD_zero gD_succ gT_some bxA_t bxA_f callA_fn ev_tmp ev_const ev_global ev_func oc_bool oc_int oc_string oc_nil oc_nilptr oc_nilfunc cl_bool cl_int cl_string cl_nil updO_some updO_none upd_same upd_other init_at pickA_b pickA_wh selA_t selA_f selA_and selA_or selA_orn selA_orm selA_bb selA_ii beqt b_add b_sub b_mul b_and b_or b_xor b_eql b_neq b_lss b_leq b_gtr b_geq b_quo b_rem b_shr b_seql b_sneq b_sadd b_beql b_bneq b_aeql b_aneq u_not u_neg isConstOp eqA eqCellV List.getD_cons_zero List.getD_cons_succ List.map_cons List.map_nil List.nil_append List.cons_append List.append_nil if_true if_false Option.map_some Option.map_none ne_eq not_false_eq_true oneA ldv ld1v ld1s wr1s ldRow stRow row_lit row_agg row_vsl row_sl row_ptr row_fn one_I one_B one_S one_vsl one_sl one_ptr one_fn extractA okA rI rS rU rClass rFault rExit rStart rLine Int.toNat_natCast List.length_cons List.length_nil List.length_map List.all_cons List.all_nil Bool.and_true Nat.zero_add List.getElem?_cons_zero List.getElem?_cons_succ List.take_succ_cons List.take_zero List.drop_succ_cons List.drop_zero and_self true_and and_true implies_true decide_eq_true_eq decide_eq_false_iff_not Bool.or_eq_true Bool.or_eq_false_iff Bool.and_eq_true Bool.not_eq_true' Bool.not_eq_false' beq_false decide_true decide_false Int.ofNat_lt Int.ofNat_le Int.natCast_nonneg Bool.or_true Bool.or_false Bool.true_or Bool.false_or beq_self_eq_true List.drop_one Bool.not_true Bool.not_false Bool.not_not Bool.false_eq_true Bool.true_eq_false false_implies true_implies Bool.true_and Bool.false_and Bool.and_false not_true_eq_false Int.natCast_eq_zero Int.natCast_pos Int.natCast_zero false_and and_false or_false false_or or_true true_or Bool.or_self none_le_iff List.replicate_zero Int.toNat_zero List.replicate_succ buildRows List.set_cons_zero List.set_cons_succ List.set_nil List.mapM_nil maxLen_eq Nat.zero_le Nat.mul_one Nat.one_mul bldA fillA spliceA List.take_nil List.drop_nil List.getElem?_nil ld1o wr1o bldSliceA le_same ti1 ti2 tk2 ti3 te3 ts3 tk3 tz3 ti4 tb4 ti5 tk5 tz5 ti9 te9 ts9 tk9 tz9 ti12 tk12 ti13 tp13 tf13_0 tf13_1 ti20 ti21 tk21 tz21 ti22 te22 tz22 ti23 te23 ti24 tp24 tf24_0 ti25 tp25 tf25_0 ti26 te26 ti27 tq27 tp27 tf27_0 tf27_1 tf27_2 ti28 tq28 tp28 tf28_0 tf28_1 tf28_2 ti30 ti31 te31 ti32 te32 ti33 tp33 tf33_0 ti34 tp34 tf34_0 ti35 tp35 tf35_0 tf35_1 tf35_2 tf35_3 ti36 tp36 tf36_0 tf36_1 tf36_2 tf36_3 ti37 ti38 ti39 ti40 tq40 tp40 tf40_0 tf40_1 tf40_2 ti41 tq41 tp41 tf41_0 tf41_1 tf41_2 ti42 ti43 ti44 ti45 ti47 ti48 ti49 ti50 ti51 ti52 ti53 ti54 ti55 tp55 tf55_0 tf55_1 ti56 tp56 tf56_0 tf56_1 ti57 ti58 ti59 ti60 ti61 ti62 ti63 ti64 ti65 ti66 ti67 tq67 tp67 tf67_0 tf67_1 ti68 tq68 tp68 tf68_0 tf68_1 ti69 tq69 tp69 tf69_0 tf69_1 tf69_2 tf69_3 tf69_4 ti70 tq70 tp70 tf70_0 tf70_1 tf70_2 tf70_3 tf70_4 ti71 ti72 tp72 tf72_0 tf72_1 tf72_2 ti73 tp73 tf73_0 tf73_1 tf73_2 ti74 ti75 ti77 ti78 tq78 tp78 tf78_0 tf78_1 ti79 tq79 tp79 tf79_0 tf79_1 ti80 ti81 ti82 ti83 ti84 ti85 te85 ti86 ti87 te87 ti88 tp88 tf88_0 tf88_1 tf88_2 tf88_3 tf88_4 ti89 tp89 tf89_0 tf89_1 tf89_2 tf89_3 tf89_4 ti90 ti91 ti92 ti93 ti94 ti95 ti96 ti97 ti98 ti99 ti100 ti101 ti102 ti103 ti104 ti105 ti106 ti107 ti108 ti109 ti110 ti111 ti112 ti113 ti114 ti115 ti116 tk116 tz116 ti117 ti118 tk118 ti120 ti121 ti122 ti124 ti125 ti126 tk126 tz126 ti127 ti128 tk128 tz128 ti129 tk129 ti130 ti131 ti132 ti133 ti134 ti135 ti137 ti138 ti144 ti148 ti153 ti154 tq154 tp154 tf154_0 tf154_1 tf154_2 tf154_3 ti155 tq155 tp155 tf155_0 tf155_1 tf155_2 tf155_3 ti157 fp13_0 fv13_0 fp13_1 fv13_1 fp24_0 fv24_0 fp25_0 fv25_0 fp27_0 fv27_0 fp27_1 fv27_1 fp27_2 fv27_2 fp28_0 fv28_0 fp28_1 fv28_1 fp28_2 fv28_2 fp33_0 fv33_0 fp34_0 fv34_0 fp35_0 fv35_0 fp35_1 fv35_1 fp35_2 fv35_2 fp35_3 fv35_3 fp36_0 fv36_0 fp36_1 fv36_1 fp36_2 fv36_2 fp36_3 fv36_3 fp40_0 fv40_0 fp40_1 fv40_1 fp40_2 fv40_2 fp41_0 fv41_0 fp41_1 fv41_1 fp41_2 fv41_2 fp55_0 fv55_0 fp55_1 fv55_1 fp56_0 fv56_0 fp56_1 fv56_1 fp67_0 fv67_0 fp67_1 fv67_1 fp68_0 fv68_0 fp68_1 fv68_1 fp69_0 fv69_0 fp69_1 fv69_1 fp69_2 fv69_2 fp69_3 fv69_3 fp69_4 fv69_4 fp70_0 fv70_0 fp70_1 fv70_1 fp70_2 fv70_2 fp70_3 fv70_3 fp70_4 fv70_4 fp72_0 fv72_0 fp72_1 fv72_1 fp72_2 fv72_2 fp73_0 fv73_0 fp73_1 fv73_1 fp73_2 fv73_2 fp78_0 fv78_0 fp78_1 fv78_1 fp79_0 fv79_0 fp79_1 fv79_1 fp88_0 fv88_0 fp88_1 fv88_1 fp88_2 fv88_2 fp88_3 fv88_3 fp88_4 fv88_4 fp89_0 fv89_0 fp89_1 fv89_1 fp89_2 fv89_2 fp89_3 fv89_3 fp89_4 fv89_4 fp154_0 fv154_0 fp154_1 fv154_1 fp154_2 fv154_2 fp154_3 fv154_3 fp155_0 fv155_0 fp155_1 fv155_1 fp155_2 fv155_2 fp155_3 fv155_3 lv22 ll22 is22 ix22 sh22 so22 sb22 sm22 sp22 lv23 ll23 is23 ix23 sh23 so23 sb23 sm23 sp23 lv26 ll26 is26 ix26 sh26 so26 sb26 sm26 sp26 lv31 ll31 is31 ix31 sh31 so31 sb31 sm31 sp31 lv32 ll32 is32 ix32 sh32 so32 sb32 sm32 sp32 lv85 ll85 is85 ix85 sh85 so85 sb85 sm85 sp85 lv87 ll87 is87 ix87 sh87 so87 sb87 sm87 sp87 xs9 ls9 sx9 sy9 sz9

theorem c_ClipV (l : List Int) (cl : Bool) (H : AHeap) : ACalls Try.prog 49 [.vsl (l.map rI) cl] H fun r H' => r = .vsl (l.map rI) true ∧ H' = H := by
  refine acalls_of0 Try.func49 rfl (by kernel_rfl) rfl rfl (awp_sound (fz := fun _ => []) (im := fun _ => false) mixed _ _ _ _ (by kernel_rfl) ?_)
  simp +contextual -dsimp -implicitDefEqProofs (maxSteps := 5000000) only [go_sem, reduceIte, reduceCtorEq, Nat.reduceEqDiff, Nat.reduceBEq, Nat.reduceAdd, Nat.reduceLeDiff, Nat.reduceMul, Nat.reduceLT, Int.reduceEq, Int.reduceLT, Int.reduceLE]
  simp
theorem c_ClipG (l : List Int) (x : AV) (H0 H : AHeap) (hg : Grow rI 1 3 H0 H x l) : ACalls Try.prog 49 [x] H fun r H' => Grow rI 1 3 H0 H' r l := by
  have hn := grow_len te31 hg
  obtain ⟨x', hx, hg'⟩ := grow_slice (ka := .i64) (kb := .i64) te31 ti3 rI_len hg
  refine acalls_of0 Try.func49 rfl (by kernel_rfl) rfl rfl (awp_sound (fz := fun _ => []) (im := fun _ => false) mixed _ _ _ _ (by kernel_rfl) ?_)
  simp +contextual -dsimp -implicitDefEqProofs (maxSteps := 5000000) only [go_sem, reduceIte, reduceCtorEq, Nat.reduceEqDiff, Nat.reduceBEq, Nat.reduceAdd, Nat.reduceLeDiff, Nat.reduceMul, Nat.reduceLT, Int.reduceEq, Int.reduceLT, Int.reduceLE, hn, hx]
  exact hg'

/-- How many of the first n numbers are not in a list. -/
def freeN (n : Nat) (out : List Int) : Nat := (List.range n).countP fun (i : Nat) => !out.any fun x => decide ((i : Int) = x)
theorem freeN_lt {n : Nat} {out : List Int} {f : Int} (h0 : 0 ≤ f) (h1 : f < n) (h2 : (out.any fun x => decide (f = x)) = false) : freeN n (out ++ [f]) < freeN n out := by
  induction n with
  | zero => omega
  | succ n ih =>
    have e : ∀ o, freeN (n + 1) o = freeN n o + (if (!o.any fun x => decide ((n : Int) = x)) = true then 1 else 0) := by
      intro o
      simp only [freeN, List.range_succ, List.countP_append, List.countP_singleton]
    have le : freeN n (out ++ [f]) ≤ freeN n out := by
      apply List.countP_mono_left
      intro x _ hx
      simp only [List.any_append, Bool.not_eq_true', Bool.or_eq_false_iff] at hx ⊢
      exact hx.1
    rw [e, e]
    by_cases hf : f = n
    · subst hf
      simp only [List.any_append, h2, List.any_cons, List.any_nil, decide_true]
      simp
      omega
    · have := ih (by omega)
      have e2 : ((out ++ [f]).any fun x => decide ((n : Int) = x)) = (out.any fun x => decide ((n : Int) = x)) := by
        rw [List.any_append]
        have : decide ((n : Int) = f) = false := by simp; omega
        simp [this]
      rw [e2]
      omega
def walkG (nx : Int → Int) : Nat → List Int → Int → List Int
  | 0, out, _ => out
  | n + 1, out, f => if 0 ≤ f ∧ (out.any fun x => decide (f = x)) = false then walkG nx n (out ++ [f]) (nx f) else out
/-- A number, the next one, and so on. -/
def walkF (nx : Int → Int) (n : Nat) (f : Int) : List Int := walkG nx (n + 1) [] f

theorem freeN_nil (n : Nat) : freeN n [] ≤ n := by
  unfold freeN
  exact Nat.le_trans List.countP_le_length (by simp)
theorem c_ContainsG (l : List Int) (x : AV) (n : Int) (H0 H : AHeap) (hg : Grow rI 1 3 H0 H x l) : ACalls Try.prog 67 [x, I n] H fun r H' => r = B (l.any fun x => decide (n = x)) ∧ H' = H := by
  obtain ⟨cl, hz⟩ := grow_froz hg
  exact acalls_borrow [.vsl (l.map rI) cl, I n] (.cons hz (.cons (.same _) .nil)) (c_Contains _ _ _ _) rfl ⟨rfl, rfl⟩
theorem c_walk (n : Nat) (hN : n ≤ 1000000) (nx : Int → Int) (g : FuncId) (caps : List AV) (f : Int) (H : AHeap) (hf : f < n) (hnx : ∀ a : Int, 0 ≤ a → a < n → nx a < n)
    (hp : ∀ (a : Int) H, 0 ≤ a → a < n → ACalls Try.prog g (I a :: caps) H fun r H' => r = I (nx a) ∧ H' = H) : ACalls Try.prog 76 [I f, .fn g [] caps] H fun r H' => Grow rI 1 3 H H' r (walkF nx n f) := by
  refine acalls_of0 Try.func76 rfl (by kernel_rfl) rfl rfl (awp_sound (fz := fun _ => []) (im := fun s => s == 6 || s == 20) mixed _ _ _ _ (by kernel_rfl) ?_)
  simp +contextual -dsimp -implicitDefEqProofs (maxSteps := 5000000) only [go_sem, reduceIte, reduceCtorEq, Nat.reduceEqDiff, Nat.reduceBEq, Nat.reduceAdd, Nat.reduceLeDiff, Nat.reduceMul, Nat.reduceLT, Int.reduceEq, Int.reduceLT, Int.reduceLE]
  refine aloop mixed (fz := fun _ => []) (im := fun s => s == 6 || s == 20) (by kernel_rfl) (fun m tm H' => ∃ (out : List Int) (c : Int), c < n ∧ freeN n out < m ∧ out.length + m ≤ n + 1 ∧ tm 0 = I c ∧ tm 1 = .fn g [] caps ∧ Grow rI 1 3 H H' (tm 5) out ∧ walkG nx m out c = walkF nx n f) (n + 1) ⟨[], f, hf, ?_, ?_, ?_⟩ ?_
  · have := freeN_nil n; omega
  · simp
  · simp +contextual -dsimp -implicitDefEqProofs (maxSteps := 5000000) only [go_sem, reduceIte, reduceCtorEq, Nat.reduceEqDiff, Nat.reduceBEq, Nat.reduceAdd, Nat.reduceLeDiff, Nat.reduceMul, Nat.reduceLT, Int.reduceEq, Int.reduceLT, Int.reduceLE]
    exact ⟨grow_nil, rfl⟩
  · rintro m tm H' ⟨out, c, hc, hfr, hlen, h0, h1, hg, he⟩
    simp +contextual -dsimp -implicitDefEqProofs (maxSteps := 5000000) only [go_sem, reduceIte, reduceCtorEq, Nat.reduceEqDiff, Nat.reduceBEq, Nat.reduceAdd, Nat.reduceLeDiff, Nat.reduceMul, Nat.reduceLT, Int.reduceEq, Int.reduceLT, Int.reduceLE, h0, h1]
    have hm : m = (m - 1) + 1 := by omega
    rw [hm, walkG] at he
    have stop : ¬ (0 ≤ c ∧ (out.any fun x => decide (c = x)) = false) → out = walkF nx n f := fun h => by rw [if_neg h] at he; exact he
    refine ⟨fun h => ?_, fun h => ?_⟩
    · refine (c_ContainsG out _ c H H' hg).det ?_
      cases ha : out.any fun x => decide (c = x)
      · rw [if_pos ⟨h, ha⟩] at he
        simp +contextual -dsimp -implicitDefEqProofs (maxSteps := 5000000) only [go_sem, reduceIte, reduceCtorEq, Nat.reduceEqDiff, Nat.reduceBEq, Nat.reduceAdd, Nat.reduceLeDiff, Nat.reduceMul, Nat.reduceLT, Int.reduceEq, Int.reduceLT, Int.reduceLE, h0, h1, h]
        refine grow_append (m := [c]) te31 ti3 rI_len (by decide) hg (by simp; omega) (by simp; omega) rfl fun x' H'' hg' => ?_
        simp +contextual -dsimp -implicitDefEqProofs (maxSteps := 5000000) only [go_sem, reduceIte, reduceCtorEq, Nat.reduceEqDiff, Nat.reduceBEq, Nat.reduceAdd, Nat.reduceLeDiff, Nat.reduceMul, Nat.reduceLT, Int.reduceEq, Int.reduceLT, Int.reduceLE, h0, h1, h]
        refine (hp c H'' h hc).det ?_
        simp +contextual -dsimp -implicitDefEqProofs (maxSteps := 5000000) only [go_sem, reduceIte, reduceCtorEq, Nat.reduceEqDiff, Nat.reduceBEq, Nat.reduceAdd, Nat.reduceLeDiff, Nat.reduceMul, Nat.reduceLT, Int.reduceEq, Int.reduceLT, Int.reduceLE, h0, h1, h]
        exact ⟨m - 1, by omega, out ++ [c], _, hnx c h hc, by have := freeN_lt h hc ha; omega, by simp; omega, rfl, hg', he⟩
      · simp +contextual -dsimp -implicitDefEqProofs (maxSteps := 5000000) only [go_sem, reduceIte, reduceCtorEq, Nat.reduceEqDiff, Nat.reduceBEq, Nat.reduceAdd, Nat.reduceLeDiff, Nat.reduceMul, Nat.reduceLT, Int.reduceEq, Int.reduceLT, Int.reduceLE, h0, h1, h]
        refine (c_ClipG out _ H H' hg).mono fun r H'' hg' => ?_
        simp +contextual -dsimp -implicitDefEqProofs (maxSteps := 5000000) only [go_sem, reduceIte, reduceCtorEq, Nat.reduceEqDiff, Nat.reduceBEq, Nat.reduceAdd, Nat.reduceLeDiff, Nat.reduceMul, Nat.reduceLT, Int.reduceEq, Int.reduceLT, Int.reduceLE, h0, h1, h]
        rw [← stop (fun q => by rw [ha] at q; cases q.2)]
        exact hg'
    · refine (c_ClipG out _ H H' hg).mono fun r H'' hg' => ?_
      simp +contextual -dsimp -implicitDefEqProofs (maxSteps := 5000000) only [go_sem, reduceIte, reduceCtorEq, Nat.reduceEqDiff, Nat.reduceBEq, Nat.reduceAdd, Nat.reduceLeDiff, Nat.reduceMul, Nat.reduceLT, Int.reduceEq, Int.reduceLT, Int.reduceLE, h0, h1, h]
      rw [← stop (fun q => h q.1)]
      exact hg'

/-- The context of a fault. -/
def ctxOf (h : List Fault) (a : Int) : Int := (h.getD a.toNat default).ctx
theorem c_contexts1 (h : List Fault) (cl : Bool) (a : Int) (H : AHeap) (h0 : 0 ≤ a) (h1 : a < h.length) : ACalls Try.prog 77 [I a, .vptr [[.vsl (h.map rFault) cl]] 0 0] H fun r H' => r = I (ctxOf h a) ∧ H' = H := by
  refine acalls_of0 Try.func77 rfl (by kernel_rfl) rfl rfl (awp_sound (fz := fun _ => []) (im := fun _ => false) mixed _ _ _ _ (by kernel_rfl) ?_)
  have h2 : a.toNat < h.length := by omega
  simp +contextual -dsimp -implicitDefEqProofs (maxSteps := 5000000) only [go_sem, reduceIte, reduceCtorEq, Nat.reduceEqDiff, Nat.reduceBEq, Nat.reduceAdd, Nat.reduceLeDiff, Nat.reduceMul, Nat.reduceLT, Int.reduceEq, Int.reduceLT, Int.reduceLE, h0, h1, h2, ctxOf]
def chainF (h : List Fault) (f : Int) : List Int := walkF (ctxOf h) h.length f
theorem c_contexts (h : List Fault) (cl : Bool) (f : Int) (H : AHeap) (hl : h.length ≤ 1000000) (hf : f < h.length) (hc : ∀ k, k < h.length → (h.getD k default).ctx < h.length) :
    ACalls Try.prog 74 [.agg [.vsl (h.map rFault) cl], I f] H fun r H' => Grow rI 1 3 H H' r (chainF h f) := by
  refine acalls_of0 Try.func74 rfl (by kernel_rfl) rfl rfl (awp_sound (fz := fun _ => []) (im := fun s => s == 2) mixed _ _ _ _ (by kernel_rfl) ?_)
  simp +contextual -dsimp -implicitDefEqProofs (maxSteps := 5000000) only [go_sem, reduceIte, reduceCtorEq, Nat.reduceEqDiff, Nat.reduceBEq, Nat.reduceAdd, Nat.reduceLeDiff, Nat.reduceMul, Nat.reduceLT, Int.reduceEq, Int.reduceLT, Int.reduceLE]
  refine (c_walk h.length hl (ctxOf h) _ _ f H hf (fun a h0 h1 => hc a.toNat (by omega)) (fun a H h0 h1 => c_contexts1 h cl a H h0 h1)).mono fun r H' hg => ?_
  simp +contextual -dsimp -implicitDefEqProofs (maxSteps := 5000000) only [go_sem, reduceIte, reduceCtorEq, Nat.reduceEqDiff, Nat.reduceBEq, Nat.reduceAdd, Nat.reduceLeDiff, Nat.reduceMul, Nat.reduceLT, Int.reduceEq, Int.reduceLT, Int.reduceLE]
  exact hg
end Go.Proofs.Ytihjbbiajggcoaa
end
