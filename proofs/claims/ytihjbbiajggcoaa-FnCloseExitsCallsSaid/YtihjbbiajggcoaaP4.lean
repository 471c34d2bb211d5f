/- The law FnCloseExitsCalls answers true at every input. No condition. -/
import Derived.Test.YtihjbbiajggcoaaP3
import Derived.Test.YtihjbbiajggcoaaShelf
section
set_option linter.unusedVariables false
set_option linter.unusedSimpArgs false
namespace Go.Proofs.Ytihjbbiajggcoaa
open Go Go.Sim
set_option maxRecDepth 100000
attribute [local go_sem ↓] aw_skip aw_ret aw_exit aw_region aw_draw aw_seq aw_block aw_loop aw_cond frz_nil frz_cons sq_normal sq_ret sq_exit exB_normal exB_ret exB_same exB_other retQ_ret retQ_normal ret0_ret ret0_normal ao_nil go1 g_move g_assign g_pick g_build g_load g_binOp g_unOp g_convert g_fieldAddr g_field g_indexAddr g_index g_extract g_slice g_nilCheck g_len g_makeFunc h_call h_append h_alloc h_box h_buildSlice h_makeSlice h_store gV i_box i_buildSlice i_move i_assign i_build i_load i_binOp i_unOp i_convert i_fieldAddr i_field i_indexAddr i_index i_extract i_slice i_nilCheck i_makeFunc i_len i_max i_min i_alloc i_makeSlice i_store i_append i_call i_pick boxI boxA buildSliceI buildSliceA makeSliceA allocA storeA p_move p_assign p_pick p_build p_load p_binOp p_unOp p_convert p_fieldAddr p_field p_indexAddr p_index p_extract p_slice p_nilCheck p_makeFunc p_len p_max p_min p_alloc p_box p_buildSlice p_makeSlice p_store p_append p_call x_nil x_go1 x_g0 x_g1 x_g2 x_g3 x_s0 x_s1 x_s2 x_s3 u_move u_assign u_pick u_build u_load u_binOp u_unOp u_convert u_fieldAddr u_field u_indexAddr u_index u_extract u_slice u_nilCheck u_makeFunc u_len u_buildSlice
attribute [local go_sem] frzV_ptr frzV_sl frzK_some set_none set_other AHeap.set_self set_del set_set cnd_t cnd_f cnd_b retA_one retA_two retA_three retA_four retA_nil gIf_b mrgV_b mrgV_wh mrgV_U gIf_U gIf_wh mrgB_f mrgB_some mrgB_if wh_true wh_false keepA_some keepA_if gD_zero gD_succ gT_some bxA_t bxA_f callA_fn ev_tmp ev_const ev_global ev_func oc_bool oc_int oc_string oc_nil oc_nilptr oc_nilfunc cl_bool cl_int cl_string cl_nil updO_some updO_none upd_same upd_other init_at pickA_b pickA_wh selA_t selA_f selA_and selA_or selA_orn selA_orm selA_bb selA_ii beqt b_add b_sub b_mul b_and b_or b_xor b_eql b_neq b_lss b_leq b_gtr b_geq b_quo b_rem b_shr b_seql b_sneq b_sadd b_beql b_bneq b_aeql b_aneq u_not u_neg isConstOp eqA eqCellV List.getD_cons_zero List.getD_cons_succ List.map_cons List.map_nil List.nil_append List.cons_append List.append_nil if_true if_false Option.map_some Option.map_none ne_eq not_false_eq_true oneA ldv ld1v ld1s wr1s ldRow stRow row_lit row_agg row_vsl row_sl row_ptr row_fn one_I one_B one_S one_vsl one_sl one_ptr one_fn extractA okA rI rS rU rClass rFault rExit rStart rLine Int.toNat_natCast List.length_cons List.length_nil List.length_map List.all_cons List.all_nil Bool.and_true Nat.zero_add List.getElem?_cons_zero List.getElem?_cons_succ List.take_succ_cons List.take_zero List.drop_succ_cons List.drop_zero and_self true_and and_true implies_true decide_eq_true_eq decide_eq_false_iff_not Bool.or_eq_true Bool.or_eq_false_iff Bool.and_eq_true Bool.not_eq_true' Bool.not_eq_false' beq_false decide_true decide_false Int.ofNat_lt Int.ofNat_le Int.natCast_nonneg Bool.or_true Bool.or_false Bool.true_or Bool.false_or beq_self_eq_true List.drop_one Bool.not_true Bool.not_false Bool.not_not Bool.false_eq_true Bool.true_eq_false false_implies true_implies Bool.true_and Bool.false_and Bool.and_false not_true_eq_false Int.natCast_eq_zero Int.natCast_pos Int.natCast_zero false_and and_false or_false false_or or_true true_or Bool.or_self none_le_iff List.replicate_zero Int.toNat_zero List.replicate_succ buildRows List.set_cons_zero List.set_cons_succ List.set_nil List.mapM_nil maxLen_eq Nat.zero_le Nat.mul_one Nat.one_mul bldA fillA spliceA List.take_nil List.drop_nil List.getElem?_nil ld1o wr1o bldSliceA le_same ti1 ti2 tk2 ti3 te3 ts3 tk3 tz3 ti4 tb4 ti5 tk5 tz5 ti9 te9 ts9 tk9 tz9 ti12 tk12 ti13 tp13 tf13_0 tf13_1 ti20 ti21 tk21 tz21 ti22 te22 tz22 ti23 te23 ti24 tp24 tf24_0 ti25 tp25 tf25_0 ti26 te26 ti27 tq27 tp27 tf27_0 tf27_1 tf27_2 ti28 tq28 tp28 tf28_0 tf28_1 tf28_2 ti30 ti31 te31 ti32 te32 ti33 tp33 tf33_0 ti34 tp34 tf34_0 ti35 tp35 tf35_0 tf35_1 tf35_2 tf35_3 ti36 tp36 tf36_0 tf36_1 tf36_2 tf36_3 ti37 ti38 ti39 ti40 tq40 tp40 tf40_0 tf40_1 tf40_2 ti41 tq41 tp41 tf41_0 tf41_1 tf41_2 ti42 ti43 ti44 ti45 ti47 ti48 ti49 ti50 ti51 ti52 ti53 ti54 ti55 tp55 tf55_0 tf55_1 ti56 tp56 tf56_0 tf56_1 ti57 ti58 ti59 ti60 ti61 ti62 ti63 ti64 ti65 ti66 ti67 tq67 tp67 tf67_0 tf67_1 ti68 tq68 tp68 tf68_0 tf68_1 ti69 tq69 tp69 tf69_0 tf69_1 tf69_2 tf69_3 tf69_4 ti70 tq70 tp70 tf70_0 tf70_1 tf70_2 tf70_3 tf70_4 ti71 ti72 tp72 tf72_0 tf72_1 tf72_2 ti73 tp73 tf73_0 tf73_1 tf73_2 ti74 ti75 ti77 ti78 tq78 tp78 tf78_0 tf78_1 ti79 tq79 tp79 tf79_0 tf79_1 ti80 ti81 ti82 ti83 ti84 ti85 te85 ti86 ti87 te87 ti88 tp88 tf88_0 tf88_1 tf88_2 tf88_3 tf88_4 ti89 tp89 tf89_0 tf89_1 tf89_2 tf89_3 tf89_4 ti90 ti91 ti92 ti93 ti94 ti95 ti96 ti97 ti98 ti99 ti100 ti101 ti102 ti103 ti104 ti105 ti106 ti107 ti108 ti109 ti110 ti111 ti112 ti113 ti114 ti115 ti116 tk116 tz116 ti117 ti118 tk118 ti120 ti121 ti122 ti124 ti125 ti126 tk126 tz126 ti127 ti128 tk128 tz128 ti129 tk129 ti130 ti131 ti132 ti133 ti134 ti135 ti137 ti138 ti144 ti148 ti153 ti154 tq154 tp154 tf154_0 tf154_1 tf154_2 tf154_3 ti155 tq155 tp155 tf155_0 tf155_1 tf155_2 tf155_3 ti157 fp13_0 fv13_0 fp13_1 fv13_1 fp24_0 fv24_0 fp25_0 fv25_0 fp27_0 fv27_0 fp27_1 fv27_1 fp27_2 fv27_2 fp28_0 fv28_0 fp28_1 fv28_1 fp28_2 fv28_2 fp33_0 fv33_0 fp34_0 fv34_0 fp35_0 fv35_0 fp35_1 fv35_1 fp35_2 fv35_2 fp35_3 fv35_3 fp36_0 fv36_0 fp36_1 fv36_1 fp36_2 fv36_2 fp36_3 fv36_3 fp40_0 fv40_0 fp40_1 fv40_1 fp40_2 fv40_2 fp41_0 fv41_0 fp41_1 fv41_1 fp41_2 fv41_2 fp55_0 fv55_0 fp55_1 fv55_1 fp56_0 fv56_0 fp56_1 fv56_1 fp67_0 fv67_0 fp67_1 fv67_1 fp68_0 fv68_0 fp68_1 fv68_1 fp69_0 fv69_0 fp69_1 fv69_1 fp69_2 fv69_2 fp69_3 fv69_3 fp69_4 fv69_4 fp70_0 fv70_0 fp70_1 fv70_1 fp70_2 fv70_2 fp70_3 fv70_3 fp70_4 fv70_4 fp72_0 fv72_0 fp72_1 fv72_1 fp72_2 fv72_2 fp73_0 fv73_0 fp73_1 fv73_1 fp73_2 fv73_2 fp78_0 fv78_0 fp78_1 fv78_1 fp79_0 fv79_0 fp79_1 fv79_1 fp88_0 fv88_0 fp88_1 fv88_1 fp88_2 fv88_2 fp88_3 fv88_3 fp88_4 fv88_4 fp89_0 fv89_0 fp89_1 fv89_1 fp89_2 fv89_2 fp89_3 fv89_3 fp89_4 fv89_4 fp154_0 fv154_0 fp154_1 fv154_1 fp154_2 fv154_2 fp154_3 fv154_3 fp155_0 fv155_0 fp155_1 fv155_1 fp155_2 fv155_2 fp155_3 fv155_3 lv22 ll22 is22 ix22 sh22 so22 sb22 sm22 sp22 lv23 ll23 is23 ix23 sh23 so23 sb23 sm23 sp23 lv26 ll26 is26 ix26 sh26 so26 sb26 sm26 sp26 lv31 ll31 is31 ix31 sh31 so31 sb31 sm31 sp31 lv32 ll32 is32 ix32 sh32 so32 sb32 sm32 sp32 lv85 ll85 is85 ix85 sh85 so85 sb85 sm85 sp85 lv87 ll87 is87 ix87 sh87 so87 sb87 sm87 sp87 xs9 ls9 sx9 sy9 sz9

theorem it_backExit (l : List Exi) (cl : Bool) (hl : l.length ≤ 9223372036854775807) : Iter Try.prog 66 [.vptr [[.vsl (l.map rExit) cl]] 0 0] (backL (fun x => .agg (rExit x)) l) := by
  refine back_iter (fn := Try.f66) (im := fun _ => false) rfl (by kernel_rfl) rfl rfl rfl (by kernel_rfl) (by kernel_rfl) (by kernel_rfl) (by kernel_rfl) rfl rfl rfl rfl ?_ ?_ ?_ ?_ ?_
  · intro tm H h1
    simp only [List.toList_toArray]
    simp +contextual -dsimp -implicitDefEqProofs (maxSteps := 5000000) only [go_sem, reduceIte, reduceCtorEq, Nat.reduceEqDiff, Nat.reduceBEq, Nat.reduceAdd, Nat.reduceLeDiff, Nat.reduceMul, Nat.reduceLT, Int.reduceEq, Int.reduceLT, Int.reduceLE, h1]
    exact I_wrap rfl (by omega) (by omega)
  · intro tm H i h3
    simp only [List.toList_toArray]
    simp +contextual -dsimp -implicitDefEqProofs (maxSteps := 5000000) only [go_sem, reduceIte, reduceCtorEq, Nat.reduceEqDiff, Nat.reduceBEq, Nat.reduceAdd, Nat.reduceLeDiff, Nat.reduceMul, Nat.reduceLT, Int.reduceEq, Int.reduceLT, Int.reduceLE, h3]
  · intro tm H i h1 h3 h0 hi
    simp only [List.toList_toArray]
    simp +contextual -dsimp -implicitDefEqProofs (maxSteps := 5000000) only [go_sem, reduceIte, reduceCtorEq, Nat.reduceEqDiff, Nat.reduceBEq, Nat.reduceAdd, Nat.reduceLeDiff, Nat.reduceMul, Nat.reduceLT, Int.reduceEq, Int.reduceLT, Int.reduceLE, h1, h3, h0, hi]
    omega
  · intro tm H b h17
    simp only [List.toList_toArray]
    simp +contextual -dsimp -implicitDefEqProofs (maxSteps := 5000000) only [go_sem, reduceIte, reduceCtorEq, Nat.reduceEqDiff, Nat.reduceBEq, Nat.reduceAdd, Nat.reduceLeDiff, Nat.reduceMul, Nat.reduceLT, Int.reduceEq, Int.reduceLT, Int.reduceLE, h17]
  · intro tm H i h3 h0 hi
    simp only [List.toList_toArray]
    simp +contextual -dsimp -implicitDefEqProofs (maxSteps := 5000000) only [go_sem, reduceIte, reduceCtorEq, Nat.reduceEqDiff, Nat.reduceBEq, Nat.reduceAdd, Nat.reduceLeDiff, Nat.reduceMul, Nat.reduceLT, Int.reduceEq, Int.reduceLT, Int.reduceLE, h3]
    exact I_wrap rfl (by omega) (by omega)
theorem c_BackExit (l : List Exi) (cl : Bool) (H : AHeap) : ACalls Try.prog 47 [.vsl (l.map rExit) cl] H fun r H' => r = .fn 66 [] [.vptr [[.vsl (l.map rExit) cl]] 0 0] ∧ H' = H := by
  refine acalls_of0 Try.func47 rfl (by kernel_rfl) rfl rfl (awp_sound (fz := fun _ => []) (im := fun s => s == 1) mixed _ _ _ _ (by kernel_rfl) ?_)
  simp +contextual -dsimp -implicitDefEqProofs (maxSteps := 5000000) only [go_sem, reduceIte, reduceCtorEq, Nat.reduceEqDiff, Nat.reduceBEq, Nat.reduceAdd, Nat.reduceLeDiff, Nat.reduceMul, Nat.reduceLT, Int.reduceEq, Int.reduceLT, Int.reduceLE]

section
variable {F H : AHeap} {bm c : Nat} {t p : AV} {log : List Int} {fs : List Fault} {first : Int} {K : ABlk}
theorem mach_in (hM : Mach F H bm t p log fs first) (hc : H c = none) : Mach (F.set c K) (H.set c K) bm t p log fs first := by
  obtain ⟨xl, xf, H1, H2, hF, hg1, hg2, hb, rfl⟩ := hM
  rw [set_none] at hc
  have h1 := grow_none hg2 hc.2.2
  refine ⟨xl, xf, H1.set c K, H2.set c K, by rw [set_other (Ne.symm hc.1)]; exact hF, grow_in hg1 h1, grow_in hg2 hc.2.2, by rw [set_other (Ne.symm hc.1)]; exact hb, set_comm (Ne.symm hc.1)⟩
theorem mach_out (hM : Mach (F.set c K) H bm t p log fs first) (hc : F c = none) : ∃ H', H = H'.set c K ∧ Mach F H' bm t p log fs first ∧ H' c = none := by
  obtain ⟨xl, xf, H1, H2, hF, hg1, hg2, hb, rfl⟩ := hM
  obtain ⟨G1, k1, rfl, k2⟩ := grow_out hg1 hc
  obtain ⟨G2, k3, rfl, k4⟩ := grow_out hg2 k2
  rw [set_none] at hF hb
  refine ⟨G2.set bm ⟨5, 89, [[t, p, xl, xf, I first]]⟩, set_comm hF.2.1, ⟨xl, xf, G1, G2, hF.2.2, k1, k3, hb.2.2, rfl⟩, ?_⟩
  rw [set_other hF.2.1]; exact k4
theorem mach_none (hM : Mach F H bm t p log fs first) (hc : H c = none) : F c = none := by
  obtain ⟨xl, xf, H1, H2, hF, hg1, hg2, hb, rfl⟩ := hM
  rw [set_none] at hc
  exact grow_none hg1 (grow_none hg2 hc.2.2)
variable {xl xf : AV} {H1 H2 : AHeap} {M C : ABlk} {a : Int} {cl : Bool} {Kt : AV → AHeap → Prop}
/-- The machine's log grows. -/
theorem mach_app {g : Tag (H2.set bm M, Kt)} (hg1 : Grow rI 1 3 F H1 xl log) (hg2 : Grow rFault 5 70 H1 H2 xf fs) (hb : H2 bm = none) (hl : log.length < 1000000)
    (k : ∀ x' G G1, Grow rI 1 3 F G1 x' (log ++ [a]) → Grow rFault 5 70 G1 G xf fs → G bm = none → x'.row = [x'] ∧ x'.one = true → Kt x' (G.set bm M)) :
    appT Try.prog (H2.set bm M) 31 xl (.vsl [[I a]] cl) Kt g := by
  obtain ⟨H1', hf', hl'⟩ := grow_swap hg1 hg2
  refine grow_append (m := [a]) te31 ti3 rI_len (by decide) (grow_in hl' hb) (by simp; omega) (by simp; omega) rfl fun x' H' hg' => ?_
  obtain ⟨G, k1, rfl, k2⟩ := grow_out hg' (grow_none hl' hb)
  obtain ⟨G1, k3, k4⟩ := grow_swap hf' k1
  exact k x' G G1 k3 k4 k2 (one_grow k3)
theorem mach_app1 {g : Tag ((H2.set bm M).set c C, Kt)} (hg1 : Grow rI 1 3 F H1 xl log) (hg2 : Grow rFault 5 70 H1 H2 xf fs) (hb : H2 bm = none) (hcb : c ≠ bm) (hc : H2 c = none) (hl : log.length < 1000000)
    (k : ∀ x' G G1, Grow rI 1 3 F G1 x' (log ++ [a]) → Grow rFault 5 70 G1 G xf fs → G bm = none → G c = none → x'.row = [x'] ∧ x'.one = true → Kt x' ((G.set bm M).set c C)) :
    appT Try.prog ((H2.set bm M).set c C) 31 xl (.vsl [[I a]] cl) Kt g := by
  obtain ⟨H1', hf', hl'⟩ := grow_swap hg1 hg2
  refine grow_append (m := [a]) te31 ti3 rI_len (by decide) (grow_in (grow_in hl' hb) (by rw [set_other hcb]; exact hc)) (by simp; omega) (by simp; omega) rfl fun x' H' hg' => ?_
  obtain ⟨G', k1, rfl, k2⟩ := grow_out hg' (by rw [set_other hcb]; exact grow_none hl' hc)
  obtain ⟨G, k3, rfl, k4⟩ := grow_out k1 (grow_none hl' hb)
  obtain ⟨G1, k5, k6⟩ := grow_swap hf' k3
  rw [set_other hcb] at k2
  exact k x' G G1 k5 k6 k4 k2 (one_grow k5)
end
end Go.Proofs.Ytihjbbiajggcoaa
end
section
set_option linter.unusedVariables false
set_option linter.unusedSimpArgs false
namespace Go.Proofs.Ytihjbbiajggcoaa
open Go Go.Sim
set_option maxRecDepth 100000
attribute [local go_sem ↓] aw_skip aw_ret aw_exit aw_region aw_draw aw_seq aw_block aw_loop aw_cond frz_nil frz_cons sq_normal sq_ret sq_exit exB_normal exB_ret exB_same exB_other retQ_ret retQ_normal ret0_ret ret0_normal ao_nil go1 g_move g_assign g_pick g_build g_load g_binOp g_unOp g_convert g_fieldAddr g_field g_indexAddr g_index g_extract g_slice g_nilCheck g_len g_makeFunc h_call h_append h_alloc h_box h_buildSlice h_makeSlice h_store gV i_box i_buildSlice i_move i_assign i_build i_load i_binOp i_unOp i_convert i_fieldAddr i_field i_indexAddr i_index i_extract i_slice i_nilCheck i_makeFunc i_len i_max i_min i_alloc i_makeSlice i_store i_append i_call i_pick boxI boxA buildSliceI buildSliceA makeSliceA allocA storeA p_move p_assign p_pick p_build p_load p_binOp p_unOp p_convert p_fieldAddr p_field p_indexAddr p_index p_extract p_slice p_nilCheck p_makeFunc p_len p_max p_min p_alloc p_box p_buildSlice p_makeSlice p_store p_append p_call x_nil x_go1 x_g0 x_g1 x_g2 x_g3 x_s0 x_s1 x_s2 x_s3 u_move u_assign u_pick u_build u_load u_binOp u_unOp u_convert u_fieldAddr u_field u_indexAddr u_index u_extract u_slice u_nilCheck u_makeFunc u_len u_buildSlice x_s4 x_g4 rq_normal rq_ret rq_exit aw_range
attribute [local go_sem] frzV_sl frzK_some set_none set_other AHeap.set_self set_del set_set cnd_t cnd_f cnd_b retA_one retA_two retA_three retA_four retA_nil gIf_b mrgV_b mrgV_wh mrgV_U gIf_U gIf_wh mrgB_f mrgB_some mrgB_if wh_true wh_false keepA_some keepA_if gD_zero gD_succ gT_some bxA_t bxA_f callA_fn ev_tmp ev_const ev_global ev_func oc_bool oc_int oc_string oc_nil oc_nilptr oc_nilfunc cl_bool cl_int cl_string cl_nil updO_some updO_none upd_same upd_other init_at pickA_b pickA_wh selA_t selA_f selA_and selA_or selA_orn selA_orm selA_bb selA_ii beqt b_add b_sub b_mul b_and b_or b_xor b_eql b_neq b_lss b_leq b_gtr b_geq b_quo b_rem b_shr b_seql b_sneq b_sadd b_beql b_bneq b_aeql b_aneq u_not u_neg isConstOp eqA eqCellV List.getD_cons_zero List.getD_cons_succ List.map_cons List.map_nil List.nil_append List.cons_append List.append_nil if_true if_false Option.map_some Option.map_none ne_eq not_false_eq_true oneA ldv ld1v ld1s wr1s ldRow stRow row_lit row_agg row_vsl row_sl row_ptr row_fn one_I one_B one_S one_vsl one_sl one_ptr one_fn extractA okA rI rS rU rClass rFault rExit rStart rLine Int.toNat_natCast List.length_cons List.length_nil List.length_map List.all_cons List.all_nil Bool.and_true Nat.zero_add List.getElem?_cons_zero List.getElem?_cons_succ List.take_succ_cons List.take_zero List.drop_succ_cons List.drop_zero and_self true_and and_true implies_true decide_eq_true_eq decide_eq_false_iff_not Bool.or_eq_true Bool.or_eq_false_iff Bool.and_eq_true Bool.not_eq_true' Bool.not_eq_false' beq_false decide_true decide_false Int.ofNat_lt Int.ofNat_le Int.natCast_nonneg Bool.or_true Bool.or_false Bool.true_or Bool.false_or beq_self_eq_true List.drop_one Bool.not_true Bool.not_false Bool.not_not Bool.false_eq_true Bool.true_eq_false false_implies true_implies Bool.true_and Bool.false_and Bool.and_false not_true_eq_false Int.natCast_eq_zero Int.natCast_pos Int.natCast_zero false_and and_false or_false false_or or_true true_or Bool.or_self none_le_iff List.replicate_zero Int.toNat_zero List.replicate_succ buildRows List.set_cons_zero List.set_cons_succ List.set_nil List.mapM_nil maxLen_eq Nat.zero_le Nat.mul_one Nat.one_mul bldA fillA spliceA List.take_nil List.drop_nil List.getElem?_nil ld1o wr1o bldSliceA le_same cv_i cvI_t quietT_fn qvd_some ld_o ldO_1 ldO_l wr_o wrO_1 set_2 set_3 set_4 putL_nil putL_cons List.zip_cons_cons List.zip_nil_left List.zip_nil_right List.toList_toArray frzV_set ti1 ti2 tk2 ti3 te3 ts3 tk3 tz3 ti4 tb4 ti5 tk5 tz5 ti9 te9 ts9 tk9 tz9 ti12 tk12 ti13 tp13 tf13_0 tf13_1 ti20 ti21 tk21 tz21 ti22 te22 tz22 ti23 te23 ti24 tp24 tf24_0 ti25 tp25 tf25_0 ti26 te26 ti27 tq27 tp27 tf27_0 tf27_1 tf27_2 ti28 tq28 tp28 tf28_0 tf28_1 tf28_2 ti30 ti31 te31 ti32 te32 ti33 tp33 tf33_0 ti34 tp34 tf34_0 ti35 tp35 tf35_0 tf35_1 tf35_2 tf35_3 ti36 tp36 tf36_0 tf36_1 tf36_2 tf36_3 ti37 ti38 ti39 ti40 tq40 tp40 tf40_0 tf40_1 tf40_2 ti41 tq41 tp41 tf41_0 tf41_1 tf41_2 ti42 ti43 ti44 ti45 ti47 ti48 ti49 ti50 ti51 ti52 ti53 ti54 ti55 tp55 tf55_0 tf55_1 ti56 tp56 tf56_0 tf56_1 ti57 ti58 ti59 ti60 ti61 ti62 ti63 ti64 ti65 ti66 ti67 tq67 tp67 tf67_0 tf67_1 ti68 tq68 tp68 tf68_0 tf68_1 ti69 tq69 tp69 tf69_0 tf69_1 tf69_2 tf69_3 tf69_4 ti70 tq70 tp70 tf70_0 tf70_1 tf70_2 tf70_3 tf70_4 ti71 ti72 tp72 tf72_0 tf72_1 tf72_2 ti73 tp73 tf73_0 tf73_1 tf73_2 ti74 ti75 ti77 ti78 tq78 tp78 tf78_0 tf78_1 ti79 tq79 tp79 tf79_0 tf79_1 ti80 ti81 ti82 ti83 ti84 ti85 te85 ti86 ti87 te87 ti88 tp88 tf88_0 tf88_1 tf88_2 tf88_3 tf88_4 ti89 tp89 tf89_0 tf89_1 tf89_2 tf89_3 tf89_4 ti90 ti91 ti92 ti93 ti94 ti95 ti96 ti97 ti98 ti99 ti100 ti101 ti102 ti103 ti104 ti105 ti106 ti107 ti108 ti109 ti110 ti111 ti112 ti113 ti114 ti115 ti116 tk116 tz116 ti117 ti118 tk118 ti120 ti121 ti122 ti124 ti125 ti126 tk126 tz126 ti127 ti128 tk128 tz128 ti129 tk129 ti130 ti131 ti132 ti133 ti134 ti135 ti137 ti138 ti144 ti148 ti153 ti154 tq154 tp154 tf154_0 tf154_1 tf154_2 tf154_3 ti155 tq155 tp155 tf155_0 tf155_1 tf155_2 tf155_3 ti157 fp13_0 fv13_0 fp13_1 fv13_1 fp24_0 fv24_0 fp25_0 fv25_0 fp27_0 fv27_0 fp27_1 fv27_1 fp27_2 fv27_2 fp28_0 fv28_0 fp28_1 fv28_1 fp28_2 fv28_2 fp33_0 fv33_0 fp34_0 fv34_0 fp35_0 fv35_0 fp35_1 fv35_1 fp35_2 fv35_2 fp35_3 fv35_3 fp36_0 fv36_0 fp36_1 fv36_1 fp36_2 fv36_2 fp36_3 fv36_3 fp40_0 fv40_0 fp40_1 fv40_1 fp40_2 fv40_2 fp41_0 fv41_0 fp41_1 fv41_1 fp41_2 fv41_2 fp55_0 fv55_0 fp55_1 fv55_1 fp56_0 fv56_0 fp56_1 fv56_1 fp67_0 fv67_0 fp67_1 fv67_1 fp68_0 fv68_0 fp68_1 fv68_1 fp69_0 fv69_0 fp69_1 fv69_1 fp69_2 fv69_2 fp69_3 fv69_3 fp69_4 fv69_4 fp70_0 fv70_0 fp70_1 fv70_1 fp70_2 fv70_2 fp70_3 fv70_3 fp70_4 fv70_4 fp72_0 fv72_0 fp72_1 fv72_1 fp72_2 fv72_2 fp73_0 fv73_0 fp73_1 fv73_1 fp73_2 fv73_2 fp78_0 fv78_0 fp78_1 fv78_1 fp79_0 fv79_0 fp79_1 fv79_1 fp88_0 fv88_0 fp88_1 fv88_1 fp88_2 fv88_2 fp88_3 fv88_3 fp88_4 fv88_4 fp89_0 fv89_0 fp89_1 fv89_1 fp89_2 fv89_2 fp89_3 fv89_3 fp89_4 fv89_4 fp154_0 fv154_0 fp154_1 fv154_1 fp154_2 fv154_2 fp154_3 fv154_3 fp155_0 fv155_0 fp155_1 fv155_1 fp155_2 fv155_2 fp155_3 fv155_3 lv22 ll22 is22 ix22 sh22 so22 sb22 sm22 sp22 lv23 ll23 is23 ix23 sh23 so23 sb23 sm23 sp23 lv26 ll26 is26 ix26 sh26 so26 sb26 sm26 sp26 lv31 ll31 is31 ix31 sh31 so31 sb31 sm31 sp31 lv32 ll32 is32 ix32 sh32 so32 sb32 sm32 sp32 lv85 ll85 is85 ix85 sh85 so85 sb85 sm85 sp85 lv87 ll87 is87 ix87 sh87 so87 sb87 sm87 sp87 xs9 ls9 sx9 sy9 sz9

theorem c_mclosed (F H : AHeap) (bm : Nat) (t : List Class) (cl : Bool) (p : AV) (first : Int) (l : List Exi) (cl' : Bool) (x : Sta) (hM : Mach F H bm (.vsl (t.map rClass) cl) p [] [] first) (hv : validX t l = true) (hs : startOk t x = true) :
    ACalls Try.prog 32 [.ptr bm 5 0 0, .vsl (l.map rExit) cl', .agg (rStart x)] H fun r H' => r = I (closeX t l x).cur ∧ Mach F H' bm (.vsl (t.map rClass) cl) p (closeX t l x).log (closeX t l x).fs first := by
  obtain ⟨hT, hl8⟩ := validX_T hv
  refine acalls_of1 Try.func32 rfl (by kernel_rfl) rfl rfl (awp_sound (fz := fun r => if r = 5 then [9] else []) (im := fun s => s == 3 || s == 5) mixed _ _ _ _ (by kernel_rfl) ?_)
  simp +contextual -dsimp -implicitDefEqProofs (maxSteps := 5000000) only [go_sem, reduceIte, reduceCtorEq, Nat.reduceEqDiff, Nat.reduceBEq, Nat.reduceAdd, Nat.reduceLeDiff, Nat.reduceMul, Nat.reduceLT, Int.reduceEq, Int.reduceLT, Int.reduceLE]
  intro b7 hb7
  have hM' := mach_in (K := ⟨1, 3, [[I (-1)]]⟩) hM hb7
  have hF7 := mach_none hM hb7
  have st := CloOk.start (t := t) hs
  refine ⟨fun hx => ?_, fun hx => ?_⟩
  · refine (c_raise _ _ bm _ p [] [] first x.cls x.code (-1) hM' (by simp) heapOk_nil (by simp)).mono ?_
    rintro _ H2 ⟨rfl, hM2⟩
    obtain ⟨H3, rfl, hM3, hn3⟩ := mach_out hM2 hF7
    simp +contextual -dsimp -implicitDefEqProofs (maxSteps := 5000000) only [go_sem, reduceIte, reduceCtorEq, Nat.reduceEqDiff, Nat.reduceBEq, Nat.reduceAdd, Nat.reduceLeDiff, Nat.reduceMul, Nat.reduceLT, Int.reduceEq, Int.reduceLT, Int.reduceLE]
    refine (c_BackExit l cl' _).det ?_
    simp +contextual -dsimp -implicitDefEqProofs (maxSteps := 5000000) only [go_sem, reduceIte, reduceCtorEq, Nat.reduceEqDiff, Nat.reduceBEq, Nat.reduceAdd, Nat.reduceLeDiff, Nat.reduceMul, Nat.reduceLT, Int.reduceEq, Int.reduceLT, Int.reduceLE]
    refine sim_rangeFunc (caps := [.vptr [[.vsl (l.map rExit) cl']] 0 0]) (by simp only [↓aw_skip, ↓aw_ret, ↓aw_exit, ↓aw_region, ↓aw_draw, ↓aw_seq, ↓aw_block, ↓aw_loop, ↓aw_cond, ↓frz_nil, ↓frz_cons, frzV_ptr, frzV_sl, frzK_some, set_none, set_other, AHeap.set_self, set_del, set_set, cnd_t, cnd_f, cnd_b, ↓sq_normal, ↓sq_ret, ↓sq_exit, ↓exB_normal, ↓exB_ret, ↓exB_same, ↓exB_other, ↓retQ_ret, ↓retQ_normal, ↓ret0_ret, ↓ret0_normal, retA_one, retA_two, retA_three, retA_four, retA_nil, ↓ao_nil, ↓go1, ↓g_move, ↓g_assign, ↓g_pick, ↓g_build, ↓g_load, ↓g_binOp, ↓g_unOp, ↓g_convert, ↓g_fieldAddr, ↓g_field, ↓g_indexAddr, ↓g_index, ↓g_extract, ↓g_slice, ↓g_nilCheck, ↓g_len, ↓g_makeFunc, ↓h_call, ↓h_append, ↓h_alloc, ↓h_box, ↓h_buildSlice, ↓h_makeSlice, ↓h_store, gIf_b, mrgV_b, mrgV_wh, mrgV_U, gIf_U, gIf_wh, mrgB_f, mrgB_some, mrgB_if, wh_true, wh_false, keepA_some, keepA_if, ↓gV, gD_zero, gD_succ, gT_some, ↓i_box, ↓i_buildSlice, bxA_t, bxA_f, ↓i_move, ↓i_assign, ↓i_build, ↓i_load, ↓i_binOp, ↓i_unOp, ↓i_convert, ↓i_fieldAddr, ↓i_field, ↓i_indexAddr, ↓i_index, ↓i_extract, ↓i_slice, ↓i_nilCheck, ↓i_makeFunc, ↓i_len, ↓i_max, ↓i_min, ↓i_alloc, ↓i_makeSlice, ↓i_store, ↓i_append, ↓i_call, ↓i_pick, ↓boxI, ↓boxA, ↓buildSliceI, ↓buildSliceA, ↓makeSliceA, ↓allocA, ↓storeA, ↓p_move, ↓p_assign, ↓p_pick, ↓p_build, ↓p_load, ↓p_binOp, ↓p_unOp, ↓p_convert, ↓p_fieldAddr, ↓p_field, ↓p_indexAddr, ↓p_index, ↓p_extract, ↓p_slice, ↓p_nilCheck, ↓p_makeFunc, ↓p_len, ↓p_max, ↓p_min, ↓p_alloc, ↓p_box, ↓p_buildSlice, ↓p_makeSlice, ↓p_store, ↓p_append, ↓p_call, callA_fn, ev_tmp, ev_const, ev_global, ev_func, oc_bool, oc_int, oc_string, oc_nil, oc_nilptr, oc_nilfunc, cl_bool, cl_int, cl_string, cl_nil, updO_some, updO_none, upd_same, upd_other, init_at, pickA_b, pickA_wh, selA_t, selA_f, selA_and, selA_or, selA_orn, selA_orm, selA_bb, selA_ii, beqt, b_add, b_sub, b_mul, b_and, b_or, b_xor, b_eql, b_neq, b_lss, b_leq, b_gtr, b_geq, b_quo, b_rem, b_shr, b_seql, b_sneq, b_sadd, b_beql, b_bneq, b_aeql, b_aneq, u_not, u_neg, isConstOp, eqA, eqCellV, List.getD_cons_zero, List.getD_cons_succ, List.map_cons, List.map_nil, List.nil_append, List.cons_append, List.append_nil, if_true, if_false, Option.map_some, Option.map_none, reduceIte, reduceCtorEq, Nat.reduceEqDiff, ne_eq, not_false_eq_true, Nat.reduceBEq, oneA, ldv, ld1v, ld1s, wr1s, ldRow, stRow, row_lit, row_agg, row_vsl, row_sl, row_ptr, row_fn, one_I, one_B, one_S, one_vsl, one_sl, one_ptr, one_fn, extractA, okA, rI, rS, rU, rClass, rFault, rExit, rStart, rLine, Int.toNat_natCast, List.length_cons, List.length_nil, List.length_map, List.all_cons, List.all_nil, Bool.and_true, Nat.reduceAdd, Nat.zero_add, List.getElem?_cons_zero, List.getElem?_cons_succ, List.take_succ_cons, List.take_zero, List.drop_succ_cons, List.drop_zero, Nat.reduceLeDiff, and_self, true_and, and_true, implies_true, decide_eq_true_eq, decide_eq_false_iff_not, Bool.or_eq_true, Bool.or_eq_false_iff, Bool.and_eq_true, Bool.not_eq_true', Bool.not_eq_false', beq_false, decide_true, decide_false, Int.ofNat_lt, Int.ofNat_le, Int.natCast_nonneg, Bool.or_true, Bool.or_false, Bool.true_or, Bool.false_or, beq_self_eq_true, Nat.reduceMul, List.drop_one, Bool.not_true, Bool.not_false, Bool.not_not, Bool.false_eq_true, Bool.true_eq_false, false_implies, true_implies, Bool.true_and, Bool.false_and, Bool.and_false, if_true, if_false, not_true_eq_false, Nat.reduceLT, Int.natCast_eq_zero, Int.natCast_pos, Int.natCast_zero, false_and, and_false, or_false, false_or, or_true, true_or, Bool.or_self, ↓x_nil, ↓x_go1, ↓x_g0, ↓x_g1, ↓x_g2, ↓x_g3, ↓x_s0, ↓x_s1, ↓x_s2, ↓x_s3, none_le_iff, ↓u_move, ↓u_assign, ↓u_pick, ↓u_build, ↓u_load, ↓u_binOp, ↓u_unOp, ↓u_convert, ↓u_fieldAddr, ↓u_field, ↓u_indexAddr, ↓u_index, ↓u_extract, ↓u_slice, ↓u_nilCheck, ↓u_makeFunc, ↓u_len, List.replicate_zero, Int.toNat_zero, List.replicate_succ, buildRows, List.set_cons_zero, List.set_cons_succ, List.set_nil, List.mapM_nil, maxLen_eq, Nat.zero_le, Nat.mul_one, Nat.one_mul, bldA, fillA, spliceA, List.take_nil, List.drop_nil, List.getElem?_nil, Int.reduceEq, Int.reduceLT, Int.reduceLE, decide_eq_true_eq, ld1o, wr1o, ↓u_buildSlice, bldSliceA, le_same, ti1, ti2, tk2, ti3, te3, ts3, tk3, tz3, ti4, tb4, ti5, tk5, tz5, ti9, te9, ts9, tk9, tz9, ti12, tk12, ti13, tp13, tf13_0, tf13_1, ti20, ti21, tk21, tz21, ti22, te22, tz22, ti23, te23, ti24, tp24, tf24_0, ti25, tp25, tf25_0, ti26, te26, ti27, tq27, tp27, tf27_0, tf27_1, tf27_2, ti28, tq28, tp28, tf28_0, tf28_1, tf28_2, ti30, ti31, te31, ti32, te32, ti33, tp33, tf33_0, ti34, tp34, tf34_0, ti35, tp35, tf35_0, tf35_1, tf35_2, tf35_3, ti36, tp36, tf36_0, tf36_1, tf36_2, tf36_3, ti37, ti38, ti39, ti40, tq40, tp40, tf40_0, tf40_1, tf40_2, ti41, tq41, tp41, tf41_0, tf41_1, tf41_2, ti42, ti43, ti44, ti45, ti47, ti48, ti49, ti50, ti51, ti52, ti53, ti54, ti55, tp55, tf55_0, tf55_1, ti56, tp56, tf56_0, tf56_1, ti57, ti58, ti59, ti60, ti61, ti62, ti63, ti64, ti65, ti66, ti67, tq67, tp67, tf67_0, tf67_1, ti68, tq68, tp68, tf68_0, tf68_1, ti69, tq69, tp69, tf69_0, tf69_1, tf69_2, tf69_3, tf69_4, ti70, tq70, tp70, tf70_0, tf70_1, tf70_2, tf70_3, tf70_4, ti71, ti72, tp72, tf72_0, tf72_1, tf72_2, ti73, tp73, tf73_0, tf73_1, tf73_2, ti74, ti75, ti77, ti78, tq78, tp78, tf78_0, tf78_1, ti79, tq79, tp79, tf79_0, tf79_1, ti80, ti81, ti82, ti83, ti84, ti85, te85, ti86, ti87, te87, ti88, tp88, tf88_0, tf88_1, tf88_2, tf88_3, tf88_4, ti89, tp89, tf89_0, tf89_1, tf89_2, tf89_3, tf89_4, ti90, ti91, ti92, ti93, ti94, ti95, ti96, ti97, ti98, ti99, ti100, ti101, ti102, ti103, ti104, ti105, ti106, ti107, ti108, ti109, ti110, ti111, ti112, ti113, ti114, ti115, ti116, tk116, tz116, ti117, ti118, tk118, ti120, ti121, ti122, ti124, ti125, ti126, tk126, tz126, ti127, ti128, tk128, tz128, ti129, tk129, ti130, ti131, ti132, ti133, ti134, ti135, ti137, ti138, ti144, ti148, ti153, ti154, tq154, tp154, tf154_0, tf154_1, tf154_2, tf154_3, ti155, tq155, tp155, tf155_0, tf155_1, tf155_2, tf155_3, ti157, fp13_0, fv13_0, fp13_1, fv13_1, fp24_0, fv24_0, fp25_0, fv25_0, fp27_0, fv27_0, fp27_1, fv27_1, fp27_2, fv27_2, fp28_0, fv28_0, fp28_1, fv28_1, fp28_2, fv28_2, fp33_0, fv33_0, fp34_0, fv34_0, fp35_0, fv35_0, fp35_1, fv35_1, fp35_2, fv35_2, fp35_3, fv35_3, fp36_0, fv36_0, fp36_1, fv36_1, fp36_2, fv36_2, fp36_3, fv36_3, fp40_0, fv40_0, fp40_1, fv40_1, fp40_2, fv40_2, fp41_0, fv41_0, fp41_1, fv41_1, fp41_2, fv41_2, fp55_0, fv55_0, fp55_1, fv55_1, fp56_0, fv56_0, fp56_1, fv56_1, fp67_0, fv67_0, fp67_1, fv67_1, fp68_0, fv68_0, fp68_1, fv68_1, fp69_0, fv69_0, fp69_1, fv69_1, fp69_2, fv69_2, fp69_3, fv69_3, fp69_4, fv69_4, fp70_0, fv70_0, fp70_1, fv70_1, fp70_2, fv70_2, fp70_3, fv70_3, fp70_4, fv70_4, fp72_0, fv72_0, fp72_1, fv72_1, fp72_2, fv72_2, fp73_0, fv73_0, fp73_1, fv73_1, fp73_2, fv73_2, fp78_0, fv78_0, fp78_1, fv78_1, fp79_0, fv79_0, fp79_1, fv79_1, fp88_0, fv88_0, fp88_1, fv88_1, fp88_2, fv88_2, fp88_3, fv88_3, fp88_4, fv88_4, fp89_0, fv89_0, fp89_1, fv89_1, fp89_2, fv89_2, fp89_3, fv89_3, fp89_4, fv89_4, fp154_0, fv154_0, fp154_1, fv154_1, fp154_2, fv154_2, fp154_3, fv154_3, fp155_0, fv155_0, fp155_1, fv155_1, fp155_2, fv155_2, fp155_3, fv155_3, lv22, ll22, is22, ix22, sh22, so22, sb22, sm22, sp22, lv23, ll23, is23, ix23, sh23, so23, sb23, sm23, sp23, lv26, ll26, is26, ix26, sh26, so26, sb26, sm26, sp26, lv31, ll31, is31, ix31, sh31, so31, sb31, sm31, sp31, lv32, ll32, is32, ix32, sh32, so32, sb32, sm32, sp32, lv85, ll85, is85, ix85, sh85, so85, sb85, sm85, sp85, lv87, ll87, is87, ix87, sh87, so87, sb87, sm87, sp87, xs9, ls9, sx9, sy9, sz9]) (it_backExit l cl' (by omega)) (by decide) backL_len
      (fun k H' => ∃ s H'', s = (l.reverse.take k).foldl (stepX t) (startX x) ∧ CloOk t s k ∧ Mach F H'' bm (.vsl (t.map rClass) cl) p s.log s.fs first ∧ H'' b7 = none ∧ H' = H''.set b7 ⟨1, 3, [[I s.cur]]⟩) (fun _ _ => False) ?_ ?_ ?_ (fun _ h => h.elim) (fun _ _ h => h.elim)
    · refine ⟨startX x, H3, rfl, st, ?_, hn3, ?_⟩
      · simp only [startX, hx, if_true]; exact hM3
      · simp only [startX, hx, if_true, List.length_nil]
    ·
      rintro k x' H' lp hx' ⟨s, H'', hsk, ok, hMk, hn, rfl⟩
      obtain ⟨hkl, rfl⟩ := backL_get hx'
      have hi2 : l.length - 1 - k < l.length := by omega
      have he := validX_at hv hi2
      have hrev := rev_take hkl
      generalize l.getD (l.length - 1 - k) default = e at he hrev ⊢
      have ok' := ok.step he
      have hsk' : (l.reverse.take (k + 1)).foldl (stepX t) (startX x) = stepX t s e := by rw [hrev, List.foldl_append, ← hsk]; rfl
      have hFk := mach_none hMk hn
      refine awp_soundAt (fz := fun r => if r = 5 then [9] else []) (im := fun s => s == 3 || s == 5) mixed _ _ _ _ (by kernel_rfl) (.inr (by kernel_rfl)) ?_
      simp +contextual -dsimp -implicitDefEqProofs (maxSteps := 5000000) only [go_sem, reduceIte, reduceCtorEq, Nat.reduceEqDiff, Nat.reduceBEq, Nat.reduceAdd, Nat.reduceLeDiff, Nat.reduceMul, Nat.reduceLT, Int.reduceEq, Int.reduceLT, Int.reduceLE]
      rintro b9 ⟨m1, m2, hb9⟩
      refine awp_soundAt (fz := fun r => if r = 5 then [9] else []) (im := fun s => s == 3 || s == 5) mixed _ _ _ _ (by kernel_rfl) (.inr (by kernel_rfl)) ?_
      have go : ∀ (s' : Clo) (G : AHeap), stepX t s e = s' → Mach F G bm (.vsl (t.map rClass) cl) p s'.log s'.fs first → G b7 = none →
          ∃ s_1 H'', s_1 = (l.reverse.take (k + 1)).foldl (stepX t) (startX x) ∧ CloOk t s_1 (k + 1) ∧ Mach F H'' bm (.vsl (t.map rClass) cl) p s_1.log s_1.fs first ∧ H'' b7 = none ∧ G.set b7 ⟨1, 3, [[I s'.cur]]⟩ = H''.set b7 ⟨1, 3, [[I s_1.cur]]⟩ :=
        fun s' G q1 q2 q3 => ⟨s', G, by rw [hsk', q1], q1 ▸ ok', q2, q3, rfl⟩
      obtain ⟨xl, xf, H1, H2, hF, hg1, hg2, hb, rfl⟩ := id hMk
      have hn' := hn
      rw [set_none] at hn'
      obtain ⟨n1, n2, hn2⟩ := hn'
      by_cases k0 : e.kind = 0
      · have hs' : stepX t s e = { s with log := s.log ++ [e.a] } := by simp only [stepX, k0, if_true]
        simp +contextual -dsimp -implicitDefEqProofs (maxSteps := 5000000) only [go_sem, reduceIte, reduceCtorEq, Nat.reduceEqDiff, Nat.reduceBEq, Nat.reduceAdd, Nat.reduceLeDiff, Nat.reduceMul, Nat.reduceLT, Int.reduceEq, Int.reduceLT, Int.reduceLE, k0]
        refine draw_intro [1, 0, 0, 0, 0, 0, 0, 0, 3, 0, 0, 2] AHeap.none (by kernel_rfl) none_le ?_
        simp +contextual -dsimp -implicitDefEqProofs (maxSteps := 5000000) only [go_sem, reduceIte, reduceCtorEq, Nat.reduceEqDiff, Nat.reduceBEq, Nat.reduceAdd, Nat.reduceLeDiff, Nat.reduceMul, Nat.reduceLT, Int.reduceEq, Int.reduceLT, Int.reduceLE, k0, n1, n2]
        refine mach_app1 hg1 hg2 hb n1 hn2 (by have := ok.log; omega) fun x2 G G1 y1 y2 y3 y4 y5 => ?_
        obtain ⟨r1, r2⟩ := y5
        simp +contextual -dsimp -implicitDefEqProofs (maxSteps := 5000000) only [go_sem, reduceIte, reduceCtorEq, Nat.reduceEqDiff, Nat.reduceBEq, Nat.reduceAdd, Nat.reduceLeDiff, Nat.reduceMul, Nat.reduceLT, Int.reduceEq, Int.reduceLT, Int.reduceLE, k0, n1, n2, r1, r2]
        exact go { s with log := s.log ++ [e.a] } _ hs' ⟨x2, xf, G1, G, hF, y1, y2, y3, rfl⟩ (by rw [set_other n1]; exact y4)
      · by_cases k1 : e.kind = 1
        · simp +contextual -dsimp -implicitDefEqProofs (maxSteps := 5000000) only [go_sem, reduceIte, reduceCtorEq, Nat.reduceEqDiff, Nat.reduceBEq, Nat.reduceAdd, Nat.reduceLeDiff, Nat.reduceMul, Nat.reduceLT, Int.reduceEq, Int.reduceLT, Int.reduceLE, k0, k1]
          refine ⟨fun hc => ?_, fun hc => ?_⟩
          · have hs' : stepX t s e = { s with log := s.log ++ [e.a] } := by simp only [stepX, k0, k1, hc, if_true, if_false]; rfl
            refine draw_intro [1, 0, 0, 0, 0, 0, 0, 0, 3, 0, 0, 2] AHeap.none (by kernel_rfl) none_le ?_
            simp +contextual -dsimp -implicitDefEqProofs (maxSteps := 5000000) only [go_sem, reduceIte, reduceCtorEq, Nat.reduceEqDiff, Nat.reduceBEq, Nat.reduceAdd, Nat.reduceLeDiff, Nat.reduceMul, Nat.reduceLT, Int.reduceEq, Int.reduceLT, Int.reduceLE, k0, k1, n1, n2]
            refine mach_app1 hg1 hg2 hb n1 hn2 (by have := ok.log; omega) fun x2 G G1 y1 y2 y3 y4 y5 => ?_
            obtain ⟨r1, r2⟩ := y5
            simp +contextual -dsimp -implicitDefEqProofs (maxSteps := 5000000) only [go_sem, reduceIte, reduceCtorEq, Nat.reduceEqDiff, Nat.reduceBEq, Nat.reduceAdd, Nat.reduceLeDiff, Nat.reduceMul, Nat.reduceLT, Int.reduceEq, Int.reduceLT, Int.reduceLE, k0, k1, n1, n2, r1, r2]
            exact go { s with log := s.log ++ [e.a] } _ hs' ⟨x2, xf, G1, G, hF, y1, y2, y3, rfl⟩ (by rw [set_other n1]; exact y4)
          · have hs' : stepX t s e = s := by simp only [stepX, k0, k1, hc, if_true, if_false]; rfl
            exact go s _ hs' hMk hn
        · by_cases k2 : e.kind = 2
          · by_cases hc : 0 ≤ s.cur
            · simp +contextual -dsimp -implicitDefEqProofs (maxSteps := 5000000) only [go_sem, reduceIte, reduceCtorEq, Nat.reduceEqDiff, Nat.reduceBEq, Nat.reduceAdd, Nat.reduceLeDiff, Nat.reduceMul, Nat.reduceLT, Int.reduceEq, Int.reduceLT, Int.reduceLE, k0, k1, k2]
              refine draw_intro [0, 0, 0, 0, 0, 0, 0, 0, 0, 0, 0, 0, 0, 0, 0, 0, 0, 0, 2, 0] AHeap.none (by kernel_rfl) none_le ?_
              rcases hg2 with ⟨e1, _, _⟩ | ⟨bf, clf, hbf, rfl, rfl⟩
              · have := ok.cur; rw [e1] at this; simp at this; omega
              have hb' := hb
              have hn3 := hn2
              rw [set_none] at hb' hn3
              have w1 := hb'.1
              have w2 := hb'.2.1
              have w3 := hn3.1
              have w4 := hn3.2.1
              have i1 := ok.cur
              have i2 : s.cur.toNat < s.fs.length := by omega
              simp +contextual -dsimp -implicitDefEqProofs (maxSteps := 5000000) only [go_sem, reduceIte, reduceCtorEq, Nat.reduceEqDiff, Nat.reduceBEq, Nat.reduceAdd, Nat.reduceLeDiff, Nat.reduceMul, Nat.reduceLT, Int.reduceEq, Int.reduceLT, Int.reduceLE, k0, k1, k2, hc, n1, n2, w1, w2, w3, w4, i1, i2]
              have hcl := ok.cls s.cur.toNat i2
              refine (c_is t cl _ e.a _ hT hcl.2).det ?_
              simp +contextual -dsimp -implicitDefEqProofs (maxSteps := 5000000) only [go_sem, reduceIte, reduceCtorEq, Nat.reduceEqDiff, Nat.reduceBEq, Nat.reduceAdd, Nat.reduceLeDiff, Nat.reduceMul, Nat.reduceLT, Int.reduceEq, Int.reduceLT, Int.reduceLE, k0, k1, k2, hc, n1, n2, w1, w2, w3, w4, i1, i2]
              refine ⟨fun hq => ?_, fun hq => ?_⟩
              · have hs' : stepX t s e = { s with cur := -1 } := by
                  simp only [stepX, k2, hc, isF, hq, and_self, if_true]; rfl
                exact go { s with cur := -1 } _ hs' hMk hn
              · have hs' : stepX t s e = s := by
                  simp only [stepX, k2, hc, isF, hq, and_self, if_true]; rfl
                exact go s _ hs' hMk hn
            · have hs' : stepX t s e = s := by simp only [stepX, k0, k1, k2, hc, if_true, if_false, false_and]; rfl
              simp +contextual -dsimp -implicitDefEqProofs (maxSteps := 5000000) only [go_sem, reduceIte, reduceCtorEq, Nat.reduceEqDiff, Nat.reduceBEq, Nat.reduceAdd, Nat.reduceLeDiff, Nat.reduceMul, Nat.reduceLT, Int.reduceEq, Int.reduceLT, Int.reduceLE, k0, k1, k2]
              refine draw_intro [0, 0, 0, 0, 0, 0, 0, 0, 0, 0, 0, 0, 0, 0, 0, 0, 0, 0, 2, 0] AHeap.none (by kernel_rfl) none_le ?_
              simp +contextual -dsimp -implicitDefEqProofs (maxSteps := 5000000) only [go_sem, reduceIte, reduceCtorEq, Nat.reduceEqDiff, Nat.reduceBEq, Nat.reduceAdd, Nat.reduceLeDiff, Nat.reduceMul, Nat.reduceLT, Int.reduceEq, Int.reduceLT, Int.reduceLE, k0, k1, k2, hc, n1, n2]
              exact go s _ hs' hMk hn
          · by_cases k3 : e.kind = 3
            · simp +contextual -dsimp -implicitDefEqProofs (maxSteps := 5000000) only [go_sem, reduceIte, reduceCtorEq, Nat.reduceEqDiff, Nat.reduceBEq, Nat.reduceAdd, Nat.reduceLeDiff, Nat.reduceMul, Nat.reduceLT, Int.reduceEq, Int.reduceLT, Int.reduceLE, k0, k1, k2, k3]
              refine (c_raise _ _ bm _ p s.log s.fs first e.a e.b s.cur (mach_in (K := ⟨1, 3, [[I s.cur]]⟩) hMk hn) (by have := ok.len; omega) ok.ho ok.cur).mono ?_
              rintro _ H9 ⟨rfl, hM9⟩
              obtain ⟨H10, rfl, hM10, hn10⟩ := mach_out hM9 hFk
              have hs' : stepX t s e = { s with fs := raiseF s.fs e.a e.b s.cur, cur := s.fs.length } := by simp only [stepX, k0, k1, k2, k3, if_true, if_false]; rfl
              simp +contextual -dsimp -implicitDefEqProofs (maxSteps := 5000000) only [go_sem, reduceIte, reduceCtorEq, Nat.reduceEqDiff, Nat.reduceBEq, Nat.reduceAdd, Nat.reduceLeDiff, Nat.reduceMul, Nat.reduceLT, Int.reduceEq, Int.reduceLT, Int.reduceLE, k0, k1, k2, k3]
              exact go { s with fs := raiseF s.fs e.a e.b s.cur, cur := s.fs.length } _ hs' hM10 hn10
            · have hs' : stepX t s e = s := by simp only [stepX, k0, k1, k2, k3, if_false]
              simp +contextual -dsimp -implicitDefEqProofs (maxSteps := 5000000) only [go_sem, reduceIte, reduceCtorEq, Nat.reduceEqDiff, Nat.reduceBEq, Nat.reduceAdd, Nat.reduceLeDiff, Nat.reduceMul, Nat.reduceLT, Int.reduceEq, Int.reduceLT, Int.reduceLE, k0, k1, k2, k3]
              exact go s _ hs' hMk hn
    ·
      rintro H' ⟨s, H'', hsk, ok, hMk, hn, rfl⟩
      rw [backL_length, List.take_of_length_le (by simp)] at hsk
      have hfin : closeX t l x = s := by rw [closeX, hsk]
      simp +contextual -dsimp -implicitDefEqProofs (maxSteps := 5000000) only [go_sem, reduceIte, reduceCtorEq, Nat.reduceEqDiff, Nat.reduceBEq, Nat.reduceAdd, Nat.reduceLeDiff, Nat.reduceMul, Nat.reduceLT, Int.reduceEq, Int.reduceLT, Int.reduceLE]
      refine retR_less (l := [I s.cur]) (H' := H'') ?_ (le_set hn) ⟨by rw [hfin]; rfl, by rw [hfin]; exact hMk⟩
      simp only [resA, ↓aw_skip, ↓aw_ret, ↓aw_exit, ↓aw_region, ↓aw_draw, ↓aw_seq, ↓aw_block, ↓aw_loop, ↓aw_cond, ↓frz_nil, ↓frz_cons, frzV_ptr, frzV_sl, frzK_some, set_none, set_other, AHeap.set_self, set_del, set_set, cnd_t, cnd_f, cnd_b, ↓sq_normal, ↓sq_ret, ↓sq_exit, ↓exB_normal, ↓exB_ret, ↓exB_same, ↓exB_other, ↓retQ_ret, ↓retQ_normal, ↓ret0_ret, ↓ret0_normal, retA_one, retA_two, retA_three, retA_four, retA_nil, ↓ao_nil, ↓go1, ↓g_move, ↓g_assign, ↓g_pick, ↓g_build, ↓g_load, ↓g_binOp, ↓g_unOp, ↓g_convert, ↓g_fieldAddr, ↓g_field, ↓g_indexAddr, ↓g_index, ↓g_extract, ↓g_slice, ↓g_nilCheck, ↓g_len, ↓g_makeFunc, ↓h_call, ↓h_append, ↓h_alloc, ↓h_box, ↓h_buildSlice, ↓h_makeSlice, ↓h_store, gIf_b, mrgV_b, mrgV_wh, mrgV_U, gIf_U, gIf_wh, mrgB_f, mrgB_some, mrgB_if, wh_true, wh_false, keepA_some, keepA_if, ↓gV, gD_zero, gD_succ, gT_some, ↓i_box, ↓i_buildSlice, bxA_t, bxA_f, ↓i_move, ↓i_assign, ↓i_build, ↓i_load, ↓i_binOp, ↓i_unOp, ↓i_convert, ↓i_fieldAddr, ↓i_field, ↓i_indexAddr, ↓i_index, ↓i_extract, ↓i_slice, ↓i_nilCheck, ↓i_makeFunc, ↓i_len, ↓i_max, ↓i_min, ↓i_alloc, ↓i_makeSlice, ↓i_store, ↓i_append, ↓i_call, ↓i_pick, ↓boxI, ↓boxA, ↓buildSliceI, ↓buildSliceA, ↓makeSliceA, ↓allocA, ↓storeA, ↓p_move, ↓p_assign, ↓p_pick, ↓p_build, ↓p_load, ↓p_binOp, ↓p_unOp, ↓p_convert, ↓p_fieldAddr, ↓p_field, ↓p_indexAddr, ↓p_index, ↓p_extract, ↓p_slice, ↓p_nilCheck, ↓p_makeFunc, ↓p_len, ↓p_max, ↓p_min, ↓p_alloc, ↓p_box, ↓p_buildSlice, ↓p_makeSlice, ↓p_store, ↓p_append, ↓p_call, callA_fn, ev_tmp, ev_const, ev_global, ev_func, oc_bool, oc_int, oc_string, oc_nil, oc_nilptr, oc_nilfunc, cl_bool, cl_int, cl_string, cl_nil, updO_some, updO_none, upd_same, upd_other, init_at, pickA_b, pickA_wh, selA_t, selA_f, selA_and, selA_or, selA_orn, selA_orm, selA_bb, selA_ii, beqt, b_add, b_sub, b_mul, b_and, b_or, b_xor, b_eql, b_neq, b_lss, b_leq, b_gtr, b_geq, b_quo, b_rem, b_shr, b_seql, b_sneq, b_sadd, b_beql, b_bneq, b_aeql, b_aneq, u_not, u_neg, isConstOp, eqA, eqCellV, List.getD_cons_zero, List.getD_cons_succ, List.map_cons, List.map_nil, List.nil_append, List.cons_append, List.append_nil, if_true, if_false, Option.map_some, Option.map_none, reduceIte, reduceCtorEq, Nat.reduceEqDiff, ne_eq, not_false_eq_true, Nat.reduceBEq, oneA, ldv, ld1v, ld1s, wr1s, ldRow, stRow, row_lit, row_agg, row_vsl, row_sl, row_ptr, row_fn, one_I, one_B, one_S, one_vsl, one_sl, one_ptr, one_fn, extractA, okA, rI, rS, rU, rClass, rFault, rExit, rStart, rLine, Int.toNat_natCast, List.length_cons, List.length_nil, List.length_map, List.all_cons, List.all_nil, Bool.and_true, Nat.reduceAdd, Nat.zero_add, List.getElem?_cons_zero, List.getElem?_cons_succ, List.take_succ_cons, List.take_zero, List.drop_succ_cons, List.drop_zero, Nat.reduceLeDiff, and_self, true_and, and_true, implies_true, decide_eq_true_eq, decide_eq_false_iff_not, Bool.or_eq_true, Bool.or_eq_false_iff, Bool.and_eq_true, Bool.not_eq_true', Bool.not_eq_false', beq_false, decide_true, decide_false, Int.ofNat_lt, Int.ofNat_le, Int.natCast_nonneg, Bool.or_true, Bool.or_false, Bool.true_or, Bool.false_or, beq_self_eq_true, Nat.reduceMul, List.drop_one, Bool.not_true, Bool.not_false, Bool.not_not, Bool.false_eq_true, Bool.true_eq_false, false_implies, true_implies, Bool.true_and, Bool.false_and, Bool.and_false, if_true, if_false, not_true_eq_false, Nat.reduceLT, Int.natCast_eq_zero, Int.natCast_pos, Int.natCast_zero, false_and, and_false, or_false, false_or, or_true, true_or, Bool.or_self, ↓x_nil, ↓x_go1, ↓x_g0, ↓x_g1, ↓x_g2, ↓x_g3, ↓x_s0, ↓x_s1, ↓x_s2, ↓x_s3, none_le_iff, ↓u_move, ↓u_assign, ↓u_pick, ↓u_build, ↓u_load, ↓u_binOp, ↓u_unOp, ↓u_convert, ↓u_fieldAddr, ↓u_field, ↓u_indexAddr, ↓u_index, ↓u_extract, ↓u_slice, ↓u_nilCheck, ↓u_makeFunc, ↓u_len, List.replicate_zero, Int.toNat_zero, List.replicate_succ, buildRows, List.set_cons_zero, List.set_cons_succ, List.set_nil, List.mapM_nil, maxLen_eq, Nat.zero_le, Nat.mul_one, Nat.one_mul, bldA, fillA, spliceA, List.take_nil, List.drop_nil, List.getElem?_nil, Int.reduceEq, Int.reduceLT, Int.reduceLE, decide_eq_true_eq, ld1o, wr1o, ↓u_buildSlice, bldSliceA, le_same, ti1, ti2, tk2, ti3, te3, ts3, tk3, tz3, ti4, tb4, ti5, tk5, tz5, ti9, te9, ts9, tk9, tz9, ti12, tk12, ti13, tp13, tf13_0, tf13_1, ti20, ti21, tk21, tz21, ti22, te22, tz22, ti23, te23, ti24, tp24, tf24_0, ti25, tp25, tf25_0, ti26, te26, ti27, tq27, tp27, tf27_0, tf27_1, tf27_2, ti28, tq28, tp28, tf28_0, tf28_1, tf28_2, ti30, ti31, te31, ti32, te32, ti33, tp33, tf33_0, ti34, tp34, tf34_0, ti35, tp35, tf35_0, tf35_1, tf35_2, tf35_3, ti36, tp36, tf36_0, tf36_1, tf36_2, tf36_3, ti37, ti38, ti39, ti40, tq40, tp40, tf40_0, tf40_1, tf40_2, ti41, tq41, tp41, tf41_0, tf41_1, tf41_2, ti42, ti43, ti44, ti45, ti47, ti48, ti49, ti50, ti51, ti52, ti53, ti54, ti55, tp55, tf55_0, tf55_1, ti56, tp56, tf56_0, tf56_1, ti57, ti58, ti59, ti60, ti61, ti62, ti63, ti64, ti65, ti66, ti67, tq67, tp67, tf67_0, tf67_1, ti68, tq68, tp68, tf68_0, tf68_1, ti69, tq69, tp69, tf69_0, tf69_1, tf69_2, tf69_3, tf69_4, ti70, tq70, tp70, tf70_0, tf70_1, tf70_2, tf70_3, tf70_4, ti71, ti72, tp72, tf72_0, tf72_1, tf72_2, ti73, tp73, tf73_0, tf73_1, tf73_2, ti74, ti75, ti77, ti78, tq78, tp78, tf78_0, tf78_1, ti79, tq79, tp79, tf79_0, tf79_1, ti80, ti81, ti82, ti83, ti84, ti85, te85, ti86, ti87, te87, ti88, tp88, tf88_0, tf88_1, tf88_2, tf88_3, tf88_4, ti89, tp89, tf89_0, tf89_1, tf89_2, tf89_3, tf89_4, ti90, ti91, ti92, ti93, ti94, ti95, ti96, ti97, ti98, ti99, ti100, ti101, ti102, ti103, ti104, ti105, ti106, ti107, ti108, ti109, ti110, ti111, ti112, ti113, ti114, ti115, ti116, tk116, tz116, ti117, ti118, tk118, ti120, ti121, ti122, ti124, ti125, ti126, tk126, tz126, ti127, ti128, tk128, tz128, ti129, tk129, ti130, ti131, ti132, ti133, ti134, ti135, ti137, ti138, ti144, ti148, ti153, ti154, tq154, tp154, tf154_0, tf154_1, tf154_2, tf154_3, ti155, tq155, tp155, tf155_0, tf155_1, tf155_2, tf155_3, ti157, fp13_0, fv13_0, fp13_1, fv13_1, fp24_0, fv24_0, fp25_0, fv25_0, fp27_0, fv27_0, fp27_1, fv27_1, fp27_2, fv27_2, fp28_0, fv28_0, fp28_1, fv28_1, fp28_2, fv28_2, fp33_0, fv33_0, fp34_0, fv34_0, fp35_0, fv35_0, fp35_1, fv35_1, fp35_2, fv35_2, fp35_3, fv35_3, fp36_0, fv36_0, fp36_1, fv36_1, fp36_2, fv36_2, fp36_3, fv36_3, fp40_0, fv40_0, fp40_1, fv40_1, fp40_2, fv40_2, fp41_0, fv41_0, fp41_1, fv41_1, fp41_2, fv41_2, fp55_0, fv55_0, fp55_1, fv55_1, fp56_0, fv56_0, fp56_1, fv56_1, fp67_0, fv67_0, fp67_1, fv67_1, fp68_0, fv68_0, fp68_1, fv68_1, fp69_0, fv69_0, fp69_1, fv69_1, fp69_2, fv69_2, fp69_3, fv69_3, fp69_4, fv69_4, fp70_0, fv70_0, fp70_1, fv70_1, fp70_2, fv70_2, fp70_3, fv70_3, fp70_4, fv70_4, fp72_0, fv72_0, fp72_1, fv72_1, fp72_2, fv72_2, fp73_0, fv73_0, fp73_1, fv73_1, fp73_2, fv73_2, fp78_0, fv78_0, fp78_1, fv78_1, fp79_0, fv79_0, fp79_1, fv79_1, fp88_0, fv88_0, fp88_1, fv88_1, fp88_2, fv88_2, fp88_3, fv88_3, fp88_4, fv88_4, fp89_0, fv89_0, fp89_1, fv89_1, fp89_2, fv89_2, fp89_3, fv89_3, fp89_4, fv89_4, fp154_0, fv154_0, fp154_1, fv154_1, fp154_2, fv154_2, fp154_3, fv154_3, fp155_0, fv155_0, fp155_1, fv155_1, fp155_2, fv155_2, fp155_3, fv155_3, lv22, ll22, is22, ix22, sh22, so22, sb22, sm22, sp22, lv23, ll23, is23, ix23, sh23, so23, sb23, sm23, sp23, lv26, ll26, is26, ix26, sh26, so26, sb26, sm26, sp26, lv31, ll31, is31, ix31, sh31, so31, sb31, sm31, sp31, lv32, ll32, is32, ix32, sh32, so32, sb32, sm32, sp32, lv85, ll85, is85, ix85, sh85, so85, sb85, sm85, sp85, lv87, ll87, is87, ix87, sh87, so87, sb87, sm87, sp87, xs9, ls9, sx9, sy9, sz9]
  · refine (c_BackExit l cl' _).det ?_
    simp +contextual -dsimp -implicitDefEqProofs (maxSteps := 5000000) only [go_sem, reduceIte, reduceCtorEq, Nat.reduceEqDiff, Nat.reduceBEq, Nat.reduceAdd, Nat.reduceLeDiff, Nat.reduceMul, Nat.reduceLT, Int.reduceEq, Int.reduceLT, Int.reduceLE]
    refine sim_rangeFunc (caps := [.vptr [[.vsl (l.map rExit) cl']] 0 0]) (by simp only [↓aw_skip, ↓aw_ret, ↓aw_exit, ↓aw_region, ↓aw_draw, ↓aw_seq, ↓aw_block, ↓aw_loop, ↓aw_cond, ↓frz_nil, ↓frz_cons, frzV_ptr, frzV_sl, frzK_some, set_none, set_other, AHeap.set_self, set_del, set_set, cnd_t, cnd_f, cnd_b, ↓sq_normal, ↓sq_ret, ↓sq_exit, ↓exB_normal, ↓exB_ret, ↓exB_same, ↓exB_other, ↓retQ_ret, ↓retQ_normal, ↓ret0_ret, ↓ret0_normal, retA_one, retA_two, retA_three, retA_four, retA_nil, ↓ao_nil, ↓go1, ↓g_move, ↓g_assign, ↓g_pick, ↓g_build, ↓g_load, ↓g_binOp, ↓g_unOp, ↓g_convert, ↓g_fieldAddr, ↓g_field, ↓g_indexAddr, ↓g_index, ↓g_extract, ↓g_slice, ↓g_nilCheck, ↓g_len, ↓g_makeFunc, ↓h_call, ↓h_append, ↓h_alloc, ↓h_box, ↓h_buildSlice, ↓h_makeSlice, ↓h_store, gIf_b, mrgV_b, mrgV_wh, mrgV_U, gIf_U, gIf_wh, mrgB_f, mrgB_some, mrgB_if, wh_true, wh_false, keepA_some, keepA_if, ↓gV, gD_zero, gD_succ, gT_some, ↓i_box, ↓i_buildSlice, bxA_t, bxA_f, ↓i_move, ↓i_assign, ↓i_build, ↓i_load, ↓i_binOp, ↓i_unOp, ↓i_convert, ↓i_fieldAddr, ↓i_field, ↓i_indexAddr, ↓i_index, ↓i_extract, ↓i_slice, ↓i_nilCheck, ↓i_makeFunc, ↓i_len, ↓i_max, ↓i_min, ↓i_alloc, ↓i_makeSlice, ↓i_store, ↓i_append, ↓i_call, ↓i_pick, ↓boxI, ↓boxA, ↓buildSliceI, ↓buildSliceA, ↓makeSliceA, ↓allocA, ↓storeA, ↓p_move, ↓p_assign, ↓p_pick, ↓p_build, ↓p_load, ↓p_binOp, ↓p_unOp, ↓p_convert, ↓p_fieldAddr, ↓p_field, ↓p_indexAddr, ↓p_index, ↓p_extract, ↓p_slice, ↓p_nilCheck, ↓p_makeFunc, ↓p_len, ↓p_max, ↓p_min, ↓p_alloc, ↓p_box, ↓p_buildSlice, ↓p_makeSlice, ↓p_store, ↓p_append, ↓p_call, callA_fn, ev_tmp, ev_const, ev_global, ev_func, oc_bool, oc_int, oc_string, oc_nil, oc_nilptr, oc_nilfunc, cl_bool, cl_int, cl_string, cl_nil, updO_some, updO_none, upd_same, upd_other, init_at, pickA_b, pickA_wh, selA_t, selA_f, selA_and, selA_or, selA_orn, selA_orm, selA_bb, selA_ii, beqt, b_add, b_sub, b_mul, b_and, b_or, b_xor, b_eql, b_neq, b_lss, b_leq, b_gtr, b_geq, b_quo, b_rem, b_shr, b_seql, b_sneq, b_sadd, b_beql, b_bneq, b_aeql, b_aneq, u_not, u_neg, isConstOp, eqA, eqCellV, List.getD_cons_zero, List.getD_cons_succ, List.map_cons, List.map_nil, List.nil_append, List.cons_append, List.append_nil, if_true, if_false, Option.map_some, Option.map_none, reduceIte, reduceCtorEq, Nat.reduceEqDiff, ne_eq, not_false_eq_true, Nat.reduceBEq, oneA, ldv, ld1v, ld1s, wr1s, ldRow, stRow, row_lit, row_agg, row_vsl, row_sl, row_ptr, row_fn, one_I, one_B, one_S, one_vsl, one_sl, one_ptr, one_fn, extractA, okA, rI, rS, rU, rClass, rFault, rExit, rStart, rLine, Int.toNat_natCast, List.length_cons, List.length_nil, List.length_map, List.all_cons, List.all_nil, Bool.and_true, Nat.reduceAdd, Nat.zero_add, List.getElem?_cons_zero, List.getElem?_cons_succ, List.take_succ_cons, List.take_zero, List.drop_succ_cons, List.drop_zero, Nat.reduceLeDiff, and_self, true_and, and_true, implies_true, decide_eq_true_eq, decide_eq_false_iff_not, Bool.or_eq_true, Bool.or_eq_false_iff, Bool.and_eq_true, Bool.not_eq_true', Bool.not_eq_false', beq_false, decide_true, decide_false, Int.ofNat_lt, Int.ofNat_le, Int.natCast_nonneg, Bool.or_true, Bool.or_false, Bool.true_or, Bool.false_or, beq_self_eq_true, Nat.reduceMul, List.drop_one, Bool.not_true, Bool.not_false, Bool.not_not, Bool.false_eq_true, Bool.true_eq_false, false_implies, true_implies, Bool.true_and, Bool.false_and, Bool.and_false, if_true, if_false, not_true_eq_false, Nat.reduceLT, Int.natCast_eq_zero, Int.natCast_pos, Int.natCast_zero, false_and, and_false, or_false, false_or, or_true, true_or, Bool.or_self, ↓x_nil, ↓x_go1, ↓x_g0, ↓x_g1, ↓x_g2, ↓x_g3, ↓x_s0, ↓x_s1, ↓x_s2, ↓x_s3, none_le_iff, ↓u_move, ↓u_assign, ↓u_pick, ↓u_build, ↓u_load, ↓u_binOp, ↓u_unOp, ↓u_convert, ↓u_fieldAddr, ↓u_field, ↓u_indexAddr, ↓u_index, ↓u_extract, ↓u_slice, ↓u_nilCheck, ↓u_makeFunc, ↓u_len, List.replicate_zero, Int.toNat_zero, List.replicate_succ, buildRows, List.set_cons_zero, List.set_cons_succ, List.set_nil, List.mapM_nil, maxLen_eq, Nat.zero_le, Nat.mul_one, Nat.one_mul, bldA, fillA, spliceA, List.take_nil, List.drop_nil, List.getElem?_nil, Int.reduceEq, Int.reduceLT, Int.reduceLE, decide_eq_true_eq, ld1o, wr1o, ↓u_buildSlice, bldSliceA, le_same, ti1, ti2, tk2, ti3, te3, ts3, tk3, tz3, ti4, tb4, ti5, tk5, tz5, ti9, te9, ts9, tk9, tz9, ti12, tk12, ti13, tp13, tf13_0, tf13_1, ti20, ti21, tk21, tz21, ti22, te22, tz22, ti23, te23, ti24, tp24, tf24_0, ti25, tp25, tf25_0, ti26, te26, ti27, tq27, tp27, tf27_0, tf27_1, tf27_2, ti28, tq28, tp28, tf28_0, tf28_1, tf28_2, ti30, ti31, te31, ti32, te32, ti33, tp33, tf33_0, ti34, tp34, tf34_0, ti35, tp35, tf35_0, tf35_1, tf35_2, tf35_3, ti36, tp36, tf36_0, tf36_1, tf36_2, tf36_3, ti37, ti38, ti39, ti40, tq40, tp40, tf40_0, tf40_1, tf40_2, ti41, tq41, tp41, tf41_0, tf41_1, tf41_2, ti42, ti43, ti44, ti45, ti47, ti48, ti49, ti50, ti51, ti52, ti53, ti54, ti55, tp55, tf55_0, tf55_1, ti56, tp56, tf56_0, tf56_1, ti57, ti58, ti59, ti60, ti61, ti62, ti63, ti64, ti65, ti66, ti67, tq67, tp67, tf67_0, tf67_1, ti68, tq68, tp68, tf68_0, tf68_1, ti69, tq69, tp69, tf69_0, tf69_1, tf69_2, tf69_3, tf69_4, ti70, tq70, tp70, tf70_0, tf70_1, tf70_2, tf70_3, tf70_4, ti71, ti72, tp72, tf72_0, tf72_1, tf72_2, ti73, tp73, tf73_0, tf73_1, tf73_2, ti74, ti75, ti77, ti78, tq78, tp78, tf78_0, tf78_1, ti79, tq79, tp79, tf79_0, tf79_1, ti80, ti81, ti82, ti83, ti84, ti85, te85, ti86, ti87, te87, ti88, tp88, tf88_0, tf88_1, tf88_2, tf88_3, tf88_4, ti89, tp89, tf89_0, tf89_1, tf89_2, tf89_3, tf89_4, ti90, ti91, ti92, ti93, ti94, ti95, ti96, ti97, ti98, ti99, ti100, ti101, ti102, ti103, ti104, ti105, ti106, ti107, ti108, ti109, ti110, ti111, ti112, ti113, ti114, ti115, ti116, tk116, tz116, ti117, ti118, tk118, ti120, ti121, ti122, ti124, ti125, ti126, tk126, tz126, ti127, ti128, tk128, tz128, ti129, tk129, ti130, ti131, ti132, ti133, ti134, ti135, ti137, ti138, ti144, ti148, ti153, ti154, tq154, tp154, tf154_0, tf154_1, tf154_2, tf154_3, ti155, tq155, tp155, tf155_0, tf155_1, tf155_2, tf155_3, ti157, fp13_0, fv13_0, fp13_1, fv13_1, fp24_0, fv24_0, fp25_0, fv25_0, fp27_0, fv27_0, fp27_1, fv27_1, fp27_2, fv27_2, fp28_0, fv28_0, fp28_1, fv28_1, fp28_2, fv28_2, fp33_0, fv33_0, fp34_0, fv34_0, fp35_0, fv35_0, fp35_1, fv35_1, fp35_2, fv35_2, fp35_3, fv35_3, fp36_0, fv36_0, fp36_1, fv36_1, fp36_2, fv36_2, fp36_3, fv36_3, fp40_0, fv40_0, fp40_1, fv40_1, fp40_2, fv40_2, fp41_0, fv41_0, fp41_1, fv41_1, fp41_2, fv41_2, fp55_0, fv55_0, fp55_1, fv55_1, fp56_0, fv56_0, fp56_1, fv56_1, fp67_0, fv67_0, fp67_1, fv67_1, fp68_0, fv68_0, fp68_1, fv68_1, fp69_0, fv69_0, fp69_1, fv69_1, fp69_2, fv69_2, fp69_3, fv69_3, fp69_4, fv69_4, fp70_0, fv70_0, fp70_1, fv70_1, fp70_2, fv70_2, fp70_3, fv70_3, fp70_4, fv70_4, fp72_0, fv72_0, fp72_1, fv72_1, fp72_2, fv72_2, fp73_0, fv73_0, fp73_1, fv73_1, fp73_2, fv73_2, fp78_0, fv78_0, fp78_1, fv78_1, fp79_0, fv79_0, fp79_1, fv79_1, fp88_0, fv88_0, fp88_1, fv88_1, fp88_2, fv88_2, fp88_3, fv88_3, fp88_4, fv88_4, fp89_0, fv89_0, fp89_1, fv89_1, fp89_2, fv89_2, fp89_3, fv89_3, fp89_4, fv89_4, fp154_0, fv154_0, fp154_1, fv154_1, fp154_2, fv154_2, fp154_3, fv154_3, fp155_0, fv155_0, fp155_1, fv155_1, fp155_2, fv155_2, fp155_3, fv155_3, lv22, ll22, is22, ix22, sh22, so22, sb22, sm22, sp22, lv23, ll23, is23, ix23, sh23, so23, sb23, sm23, sp23, lv26, ll26, is26, ix26, sh26, so26, sb26, sm26, sp26, lv31, ll31, is31, ix31, sh31, so31, sb31, sm31, sp31, lv32, ll32, is32, ix32, sh32, so32, sb32, sm32, sp32, lv85, ll85, is85, ix85, sh85, so85, sb85, sm85, sp85, lv87, ll87, is87, ix87, sh87, so87, sb87, sm87, sp87, xs9, ls9, sx9, sy9, sz9]) (it_backExit l cl' (by omega)) (by decide) backL_len
      (fun k H' => ∃ s H'', s = (l.reverse.take k).foldl (stepX t) (startX x) ∧ CloOk t s k ∧ Mach F H'' bm (.vsl (t.map rClass) cl) p s.log s.fs first ∧ H'' b7 = none ∧ H' = H''.set b7 ⟨1, 3, [[I s.cur]]⟩) (fun _ _ => False) ?_ ?_ ?_ (fun _ h => h.elim) (fun _ _ h => h.elim)
    · refine ⟨startX x, H, rfl, st, ?_, hb7, ?_⟩
      · simp only [startX, hx]; exact hM
      · simp [startX, hx]
    ·
      rintro k x' H' lp hx' ⟨s, H'', hsk, ok, hMk, hn, rfl⟩
      obtain ⟨hkl, rfl⟩ := backL_get hx'
      have hi2 : l.length - 1 - k < l.length := by omega
      have he := validX_at hv hi2
      have hrev := rev_take hkl
      generalize l.getD (l.length - 1 - k) default = e at he hrev ⊢
      have ok' := ok.step he
      have hsk' : (l.reverse.take (k + 1)).foldl (stepX t) (startX x) = stepX t s e := by rw [hrev, List.foldl_append, ← hsk]; rfl
      have hFk := mach_none hMk hn
      refine awp_soundAt (fz := fun r => if r = 5 then [9] else []) (im := fun s => s == 3 || s == 5) mixed _ _ _ _ (by kernel_rfl) (.inr (by kernel_rfl)) ?_
      simp +contextual -dsimp -implicitDefEqProofs (maxSteps := 5000000) only [go_sem, reduceIte, reduceCtorEq, Nat.reduceEqDiff, Nat.reduceBEq, Nat.reduceAdd, Nat.reduceLeDiff, Nat.reduceMul, Nat.reduceLT, Int.reduceEq, Int.reduceLT, Int.reduceLE]
      rintro b9 ⟨m1, m2, hb9⟩
      refine awp_soundAt (fz := fun r => if r = 5 then [9] else []) (im := fun s => s == 3 || s == 5) mixed _ _ _ _ (by kernel_rfl) (.inr (by kernel_rfl)) ?_
      have go : ∀ (s' : Clo) (G : AHeap), stepX t s e = s' → Mach F G bm (.vsl (t.map rClass) cl) p s'.log s'.fs first → G b7 = none →
          ∃ s_1 H'', s_1 = (l.reverse.take (k + 1)).foldl (stepX t) (startX x) ∧ CloOk t s_1 (k + 1) ∧ Mach F H'' bm (.vsl (t.map rClass) cl) p s_1.log s_1.fs first ∧ H'' b7 = none ∧ G.set b7 ⟨1, 3, [[I s'.cur]]⟩ = H''.set b7 ⟨1, 3, [[I s_1.cur]]⟩ :=
        fun s' G q1 q2 q3 => ⟨s', G, by rw [hsk', q1], q1 ▸ ok', q2, q3, rfl⟩
      obtain ⟨xl, xf, H1, H2, hF, hg1, hg2, hb, rfl⟩ := id hMk
      have hn' := hn
      rw [set_none] at hn'
      obtain ⟨n1, n2, hn2⟩ := hn'
      by_cases k0 : e.kind = 0
      · have hs' : stepX t s e = { s with log := s.log ++ [e.a] } := by simp only [stepX, k0, if_true]
        simp +contextual -dsimp -implicitDefEqProofs (maxSteps := 5000000) only [go_sem, reduceIte, reduceCtorEq, Nat.reduceEqDiff, Nat.reduceBEq, Nat.reduceAdd, Nat.reduceLeDiff, Nat.reduceMul, Nat.reduceLT, Int.reduceEq, Int.reduceLT, Int.reduceLE, k0]
        refine draw_intro [1, 0, 0, 0, 0, 0, 0, 0, 3, 0, 0, 2] AHeap.none (by kernel_rfl) none_le ?_
        simp +contextual -dsimp -implicitDefEqProofs (maxSteps := 5000000) only [go_sem, reduceIte, reduceCtorEq, Nat.reduceEqDiff, Nat.reduceBEq, Nat.reduceAdd, Nat.reduceLeDiff, Nat.reduceMul, Nat.reduceLT, Int.reduceEq, Int.reduceLT, Int.reduceLE, k0, n1, n2]
        refine mach_app1 hg1 hg2 hb n1 hn2 (by have := ok.log; omega) fun x2 G G1 y1 y2 y3 y4 y5 => ?_
        obtain ⟨r1, r2⟩ := y5
        simp +contextual -dsimp -implicitDefEqProofs (maxSteps := 5000000) only [go_sem, reduceIte, reduceCtorEq, Nat.reduceEqDiff, Nat.reduceBEq, Nat.reduceAdd, Nat.reduceLeDiff, Nat.reduceMul, Nat.reduceLT, Int.reduceEq, Int.reduceLT, Int.reduceLE, k0, n1, n2, r1, r2]
        exact go { s with log := s.log ++ [e.a] } _ hs' ⟨x2, xf, G1, G, hF, y1, y2, y3, rfl⟩ (by rw [set_other n1]; exact y4)
      · by_cases k1 : e.kind = 1
        · simp +contextual -dsimp -implicitDefEqProofs (maxSteps := 5000000) only [go_sem, reduceIte, reduceCtorEq, Nat.reduceEqDiff, Nat.reduceBEq, Nat.reduceAdd, Nat.reduceLeDiff, Nat.reduceMul, Nat.reduceLT, Int.reduceEq, Int.reduceLT, Int.reduceLE, k0, k1]
          refine ⟨fun hc => ?_, fun hc => ?_⟩
          · have hs' : stepX t s e = { s with log := s.log ++ [e.a] } := by simp only [stepX, k0, k1, hc, if_true, if_false]; rfl
            refine draw_intro [1, 0, 0, 0, 0, 0, 0, 0, 3, 0, 0, 2] AHeap.none (by kernel_rfl) none_le ?_
            simp +contextual -dsimp -implicitDefEqProofs (maxSteps := 5000000) only [go_sem, reduceIte, reduceCtorEq, Nat.reduceEqDiff, Nat.reduceBEq, Nat.reduceAdd, Nat.reduceLeDiff, Nat.reduceMul, Nat.reduceLT, Int.reduceEq, Int.reduceLT, Int.reduceLE, k0, k1, n1, n2]
            refine mach_app1 hg1 hg2 hb n1 hn2 (by have := ok.log; omega) fun x2 G G1 y1 y2 y3 y4 y5 => ?_
            obtain ⟨r1, r2⟩ := y5
            simp +contextual -dsimp -implicitDefEqProofs (maxSteps := 5000000) only [go_sem, reduceIte, reduceCtorEq, Nat.reduceEqDiff, Nat.reduceBEq, Nat.reduceAdd, Nat.reduceLeDiff, Nat.reduceMul, Nat.reduceLT, Int.reduceEq, Int.reduceLT, Int.reduceLE, k0, k1, n1, n2, r1, r2]
            exact go { s with log := s.log ++ [e.a] } _ hs' ⟨x2, xf, G1, G, hF, y1, y2, y3, rfl⟩ (by rw [set_other n1]; exact y4)
          · have hs' : stepX t s e = s := by simp only [stepX, k0, k1, hc, if_true, if_false]; rfl
            exact go s _ hs' hMk hn
        · by_cases k2 : e.kind = 2
          · by_cases hc : 0 ≤ s.cur
            · simp +contextual -dsimp -implicitDefEqProofs (maxSteps := 5000000) only [go_sem, reduceIte, reduceCtorEq, Nat.reduceEqDiff, Nat.reduceBEq, Nat.reduceAdd, Nat.reduceLeDiff, Nat.reduceMul, Nat.reduceLT, Int.reduceEq, Int.reduceLT, Int.reduceLE, k0, k1, k2]
              refine draw_intro [0, 0, 0, 0, 0, 0, 0, 0, 0, 0, 0, 0, 0, 0, 0, 0, 0, 0, 2, 0] AHeap.none (by kernel_rfl) none_le ?_
              rcases hg2 with ⟨e1, _, _⟩ | ⟨bf, clf, hbf, rfl, rfl⟩
              · have := ok.cur; rw [e1] at this; simp at this; omega
              have hb' := hb
              have hn3 := hn2
              rw [set_none] at hb' hn3
              have w1 := hb'.1
              have w2 := hb'.2.1
              have w3 := hn3.1
              have w4 := hn3.2.1
              have i1 := ok.cur
              have i2 : s.cur.toNat < s.fs.length := by omega
              simp +contextual -dsimp -implicitDefEqProofs (maxSteps := 5000000) only [go_sem, reduceIte, reduceCtorEq, Nat.reduceEqDiff, Nat.reduceBEq, Nat.reduceAdd, Nat.reduceLeDiff, Nat.reduceMul, Nat.reduceLT, Int.reduceEq, Int.reduceLT, Int.reduceLE, k0, k1, k2, hc, n1, n2, w1, w2, w3, w4, i1, i2]
              have hcl := ok.cls s.cur.toNat i2
              refine (c_is t cl _ e.a _ hT hcl.2).det ?_
              simp +contextual -dsimp -implicitDefEqProofs (maxSteps := 5000000) only [go_sem, reduceIte, reduceCtorEq, Nat.reduceEqDiff, Nat.reduceBEq, Nat.reduceAdd, Nat.reduceLeDiff, Nat.reduceMul, Nat.reduceLT, Int.reduceEq, Int.reduceLT, Int.reduceLE, k0, k1, k2, hc, n1, n2, w1, w2, w3, w4, i1, i2]
              refine ⟨fun hq => ?_, fun hq => ?_⟩
              · have hs' : stepX t s e = { s with cur := -1 } := by
                  simp only [stepX, k2, hc, isF, hq, and_self, if_true]; rfl
                exact go { s with cur := -1 } _ hs' hMk hn
              · have hs' : stepX t s e = s := by
                  simp only [stepX, k2, hc, isF, hq, and_self, if_true]; rfl
                exact go s _ hs' hMk hn
            · have hs' : stepX t s e = s := by simp only [stepX, k0, k1, k2, hc, if_true, if_false, false_and]; rfl
              simp +contextual -dsimp -implicitDefEqProofs (maxSteps := 5000000) only [go_sem, reduceIte, reduceCtorEq, Nat.reduceEqDiff, Nat.reduceBEq, Nat.reduceAdd, Nat.reduceLeDiff, Nat.reduceMul, Nat.reduceLT, Int.reduceEq, Int.reduceLT, Int.reduceLE, k0, k1, k2]
              refine draw_intro [0, 0, 0, 0, 0, 0, 0, 0, 0, 0, 0, 0, 0, 0, 0, 0, 0, 0, 2, 0] AHeap.none (by kernel_rfl) none_le ?_
              simp +contextual -dsimp -implicitDefEqProofs (maxSteps := 5000000) only [go_sem, reduceIte, reduceCtorEq, Nat.reduceEqDiff, Nat.reduceBEq, Nat.reduceAdd, Nat.reduceLeDiff, Nat.reduceMul, Nat.reduceLT, Int.reduceEq, Int.reduceLT, Int.reduceLE, k0, k1, k2, hc, n1, n2]
              exact go s _ hs' hMk hn
          · by_cases k3 : e.kind = 3
            · simp +contextual -dsimp -implicitDefEqProofs (maxSteps := 5000000) only [go_sem, reduceIte, reduceCtorEq, Nat.reduceEqDiff, Nat.reduceBEq, Nat.reduceAdd, Nat.reduceLeDiff, Nat.reduceMul, Nat.reduceLT, Int.reduceEq, Int.reduceLT, Int.reduceLE, k0, k1, k2, k3]
              refine (c_raise _ _ bm _ p s.log s.fs first e.a e.b s.cur (mach_in (K := ⟨1, 3, [[I s.cur]]⟩) hMk hn) (by have := ok.len; omega) ok.ho ok.cur).mono ?_
              rintro _ H9 ⟨rfl, hM9⟩
              obtain ⟨H10, rfl, hM10, hn10⟩ := mach_out hM9 hFk
              have hs' : stepX t s e = { s with fs := raiseF s.fs e.a e.b s.cur, cur := s.fs.length } := by simp only [stepX, k0, k1, k2, k3, if_true, if_false]; rfl
              simp +contextual -dsimp -implicitDefEqProofs (maxSteps := 5000000) only [go_sem, reduceIte, reduceCtorEq, Nat.reduceEqDiff, Nat.reduceBEq, Nat.reduceAdd, Nat.reduceLeDiff, Nat.reduceMul, Nat.reduceLT, Int.reduceEq, Int.reduceLT, Int.reduceLE, k0, k1, k2, k3]
              exact go { s with fs := raiseF s.fs e.a e.b s.cur, cur := s.fs.length } _ hs' hM10 hn10
            · have hs' : stepX t s e = s := by simp only [stepX, k0, k1, k2, k3, if_false]
              simp +contextual -dsimp -implicitDefEqProofs (maxSteps := 5000000) only [go_sem, reduceIte, reduceCtorEq, Nat.reduceEqDiff, Nat.reduceBEq, Nat.reduceAdd, Nat.reduceLeDiff, Nat.reduceMul, Nat.reduceLT, Int.reduceEq, Int.reduceLT, Int.reduceLE, k0, k1, k2, k3]
              exact go s _ hs' hMk hn
    ·
      rintro H' ⟨s, H'', hsk, ok, hMk, hn, rfl⟩
      rw [backL_length, List.take_of_length_le (by simp)] at hsk
      have hfin : closeX t l x = s := by rw [closeX, hsk]
      simp +contextual -dsimp -implicitDefEqProofs (maxSteps := 5000000) only [go_sem, reduceIte, reduceCtorEq, Nat.reduceEqDiff, Nat.reduceBEq, Nat.reduceAdd, Nat.reduceLeDiff, Nat.reduceMul, Nat.reduceLT, Int.reduceEq, Int.reduceLT, Int.reduceLE]
      refine retR_less (l := [I s.cur]) (H' := H'') ?_ (le_set hn) ⟨by rw [hfin]; rfl, by rw [hfin]; exact hMk⟩
      simp only [resA, ↓aw_skip, ↓aw_ret, ↓aw_exit, ↓aw_region, ↓aw_draw, ↓aw_seq, ↓aw_block, ↓aw_loop, ↓aw_cond, ↓frz_nil, ↓frz_cons, frzV_ptr, frzV_sl, frzK_some, set_none, set_other, AHeap.set_self, set_del, set_set, cnd_t, cnd_f, cnd_b, ↓sq_normal, ↓sq_ret, ↓sq_exit, ↓exB_normal, ↓exB_ret, ↓exB_same, ↓exB_other, ↓retQ_ret, ↓retQ_normal, ↓ret0_ret, ↓ret0_normal, retA_one, retA_two, retA_three, retA_four, retA_nil, ↓ao_nil, ↓go1, ↓g_move, ↓g_assign, ↓g_pick, ↓g_build, ↓g_load, ↓g_binOp, ↓g_unOp, ↓g_convert, ↓g_fieldAddr, ↓g_field, ↓g_indexAddr, ↓g_index, ↓g_extract, ↓g_slice, ↓g_nilCheck, ↓g_len, ↓g_makeFunc, ↓h_call, ↓h_append, ↓h_alloc, ↓h_box, ↓h_buildSlice, ↓h_makeSlice, ↓h_store, gIf_b, mrgV_b, mrgV_wh, mrgV_U, gIf_U, gIf_wh, mrgB_f, mrgB_some, mrgB_if, wh_true, wh_false, keepA_some, keepA_if, ↓gV, gD_zero, gD_succ, gT_some, ↓i_box, ↓i_buildSlice, bxA_t, bxA_f, ↓i_move, ↓i_assign, ↓i_build, ↓i_load, ↓i_binOp, ↓i_unOp, ↓i_convert, ↓i_fieldAddr, ↓i_field, ↓i_indexAddr, ↓i_index, ↓i_extract, ↓i_slice, ↓i_nilCheck, ↓i_makeFunc, ↓i_len, ↓i_max, ↓i_min, ↓i_alloc, ↓i_makeSlice, ↓i_store, ↓i_append, ↓i_call, ↓i_pick, ↓boxI, ↓boxA, ↓buildSliceI, ↓buildSliceA, ↓makeSliceA, ↓allocA, ↓storeA, ↓p_move, ↓p_assign, ↓p_pick, ↓p_build, ↓p_load, ↓p_binOp, ↓p_unOp, ↓p_convert, ↓p_fieldAddr, ↓p_field, ↓p_indexAddr, ↓p_index, ↓p_extract, ↓p_slice, ↓p_nilCheck, ↓p_makeFunc, ↓p_len, ↓p_max, ↓p_min, ↓p_alloc, ↓p_box, ↓p_buildSlice, ↓p_makeSlice, ↓p_store, ↓p_append, ↓p_call, callA_fn, ev_tmp, ev_const, ev_global, ev_func, oc_bool, oc_int, oc_string, oc_nil, oc_nilptr, oc_nilfunc, cl_bool, cl_int, cl_string, cl_nil, updO_some, updO_none, upd_same, upd_other, init_at, pickA_b, pickA_wh, selA_t, selA_f, selA_and, selA_or, selA_orn, selA_orm, selA_bb, selA_ii, beqt, b_add, b_sub, b_mul, b_and, b_or, b_xor, b_eql, b_neq, b_lss, b_leq, b_gtr, b_geq, b_quo, b_rem, b_shr, b_seql, b_sneq, b_sadd, b_beql, b_bneq, b_aeql, b_aneq, u_not, u_neg, isConstOp, eqA, eqCellV, List.getD_cons_zero, List.getD_cons_succ, List.map_cons, List.map_nil, List.nil_append, List.cons_append, List.append_nil, if_true, if_false, Option.map_some, Option.map_none, reduceIte, reduceCtorEq, Nat.reduceEqDiff, ne_eq, not_false_eq_true, Nat.reduceBEq, oneA, ldv, ld1v, ld1s, wr1s, ldRow, stRow, row_lit, row_agg, row_vsl, row_sl, row_ptr, row_fn, one_I, one_B, one_S, one_vsl, one_sl, one_ptr, one_fn, extractA, okA, rI, rS, rU, rClass, rFault, rExit, rStart, rLine, Int.toNat_natCast, List.length_cons, List.length_nil, List.length_map, List.all_cons, List.all_nil, Bool.and_true, Nat.reduceAdd, Nat.zero_add, List.getElem?_cons_zero, List.getElem?_cons_succ, List.take_succ_cons, List.take_zero, List.drop_succ_cons, List.drop_zero, Nat.reduceLeDiff, and_self, true_and, and_true, implies_true, decide_eq_true_eq, decide_eq_false_iff_not, Bool.or_eq_true, Bool.or_eq_false_iff, Bool.and_eq_true, Bool.not_eq_true', Bool.not_eq_false', beq_false, decide_true, decide_false, Int.ofNat_lt, Int.ofNat_le, Int.natCast_nonneg, Bool.or_true, Bool.or_false, Bool.true_or, Bool.false_or, beq_self_eq_true, Nat.reduceMul, List.drop_one, Bool.not_true, Bool.not_false, Bool.not_not, Bool.false_eq_true, Bool.true_eq_false, false_implies, true_implies, Bool.true_and, Bool.false_and, Bool.and_false, if_true, if_false, not_true_eq_false, Nat.reduceLT, Int.natCast_eq_zero, Int.natCast_pos, Int.natCast_zero, false_and, and_false, or_false, false_or, or_true, true_or, Bool.or_self, ↓x_nil, ↓x_go1, ↓x_g0, ↓x_g1, ↓x_g2, ↓x_g3, ↓x_s0, ↓x_s1, ↓x_s2, ↓x_s3, none_le_iff, ↓u_move, ↓u_assign, ↓u_pick, ↓u_build, ↓u_load, ↓u_binOp, ↓u_unOp, ↓u_convert, ↓u_fieldAddr, ↓u_field, ↓u_indexAddr, ↓u_index, ↓u_extract, ↓u_slice, ↓u_nilCheck, ↓u_makeFunc, ↓u_len, List.replicate_zero, Int.toNat_zero, List.replicate_succ, buildRows, List.set_cons_zero, List.set_cons_succ, List.set_nil, List.mapM_nil, maxLen_eq, Nat.zero_le, Nat.mul_one, Nat.one_mul, bldA, fillA, spliceA, List.take_nil, List.drop_nil, List.getElem?_nil, Int.reduceEq, Int.reduceLT, Int.reduceLE, decide_eq_true_eq, ld1o, wr1o, ↓u_buildSlice, bldSliceA, le_same, ti1, ti2, tk2, ti3, te3, ts3, tk3, tz3, ti4, tb4, ti5, tk5, tz5, ti9, te9, ts9, tk9, tz9, ti12, tk12, ti13, tp13, tf13_0, tf13_1, ti20, ti21, tk21, tz21, ti22, te22, tz22, ti23, te23, ti24, tp24, tf24_0, ti25, tp25, tf25_0, ti26, te26, ti27, tq27, tp27, tf27_0, tf27_1, tf27_2, ti28, tq28, tp28, tf28_0, tf28_1, tf28_2, ti30, ti31, te31, ti32, te32, ti33, tp33, tf33_0, ti34, tp34, tf34_0, ti35, tp35, tf35_0, tf35_1, tf35_2, tf35_3, ti36, tp36, tf36_0, tf36_1, tf36_2, tf36_3, ti37, ti38, ti39, ti40, tq40, tp40, tf40_0, tf40_1, tf40_2, ti41, tq41, tp41, tf41_0, tf41_1, tf41_2, ti42, ti43, ti44, ti45, ti47, ti48, ti49, ti50, ti51, ti52, ti53, ti54, ti55, tp55, tf55_0, tf55_1, ti56, tp56, tf56_0, tf56_1, ti57, ti58, ti59, ti60, ti61, ti62, ti63, ti64, ti65, ti66, ti67, tq67, tp67, tf67_0, tf67_1, ti68, tq68, tp68, tf68_0, tf68_1, ti69, tq69, tp69, tf69_0, tf69_1, tf69_2, tf69_3, tf69_4, ti70, tq70, tp70, tf70_0, tf70_1, tf70_2, tf70_3, tf70_4, ti71, ti72, tp72, tf72_0, tf72_1, tf72_2, ti73, tp73, tf73_0, tf73_1, tf73_2, ti74, ti75, ti77, ti78, tq78, tp78, tf78_0, tf78_1, ti79, tq79, tp79, tf79_0, tf79_1, ti80, ti81, ti82, ti83, ti84, ti85, te85, ti86, ti87, te87, ti88, tp88, tf88_0, tf88_1, tf88_2, tf88_3, tf88_4, ti89, tp89, tf89_0, tf89_1, tf89_2, tf89_3, tf89_4, ti90, ti91, ti92, ti93, ti94, ti95, ti96, ti97, ti98, ti99, ti100, ti101, ti102, ti103, ti104, ti105, ti106, ti107, ti108, ti109, ti110, ti111, ti112, ti113, ti114, ti115, ti116, tk116, tz116, ti117, ti118, tk118, ti120, ti121, ti122, ti124, ti125, ti126, tk126, tz126, ti127, ti128, tk128, tz128, ti129, tk129, ti130, ti131, ti132, ti133, ti134, ti135, ti137, ti138, ti144, ti148, ti153, ti154, tq154, tp154, tf154_0, tf154_1, tf154_2, tf154_3, ti155, tq155, tp155, tf155_0, tf155_1, tf155_2, tf155_3, ti157, fp13_0, fv13_0, fp13_1, fv13_1, fp24_0, fv24_0, fp25_0, fv25_0, fp27_0, fv27_0, fp27_1, fv27_1, fp27_2, fv27_2, fp28_0, fv28_0, fp28_1, fv28_1, fp28_2, fv28_2, fp33_0, fv33_0, fp34_0, fv34_0, fp35_0, fv35_0, fp35_1, fv35_1, fp35_2, fv35_2, fp35_3, fv35_3, fp36_0, fv36_0, fp36_1, fv36_1, fp36_2, fv36_2, fp36_3, fv36_3, fp40_0, fv40_0, fp40_1, fv40_1, fp40_2, fv40_2, fp41_0, fv41_0, fp41_1, fv41_1, fp41_2, fv41_2, fp55_0, fv55_0, fp55_1, fv55_1, fp56_0, fv56_0, fp56_1, fv56_1, fp67_0, fv67_0, fp67_1, fv67_1, fp68_0, fv68_0, fp68_1, fv68_1, fp69_0, fv69_0, fp69_1, fv69_1, fp69_2, fv69_2, fp69_3, fv69_3, fp69_4, fv69_4, fp70_0, fv70_0, fp70_1, fv70_1, fp70_2, fv70_2, fp70_3, fv70_3, fp70_4, fv70_4, fp72_0, fv72_0, fp72_1, fv72_1, fp72_2, fv72_2, fp73_0, fv73_0, fp73_1, fv73_1, fp73_2, fv73_2, fp78_0, fv78_0, fp78_1, fv78_1, fp79_0, fv79_0, fp79_1, fv79_1, fp88_0, fv88_0, fp88_1, fv88_1, fp88_2, fv88_2, fp88_3, fv88_3, fp88_4, fv88_4, fp89_0, fv89_0, fp89_1, fv89_1, fp89_2, fv89_2, fp89_3, fv89_3, fp89_4, fv89_4, fp154_0, fv154_0, fp154_1, fv154_1, fp154_2, fv154_2, fp154_3, fv154_3, fp155_0, fv155_0, fp155_1, fv155_1, fp155_2, fv155_2, fp155_3, fv155_3, lv22, ll22, is22, ix22, sh22, so22, sb22, sm22, sp22, lv23, ll23, is23, ix23, sh23, so23, sb23, sm23, sp23, lv26, ll26, is26, ix26, sh26, so26, sb26, sm26, sp26, lv31, ll31, is31, ix31, sh31, so31, sb31, sm31, sp31, lv32, ll32, is32, ix32, sh32, so32, sb32, sm32, sp32, lv85, ll85, is85, ix85, sh85, so85, sb85, sm85, sp85, lv87, ll87, is87, ix87, sh87, so87, sb87, sm87, sp87, xs9, ls9, sx9, sy9, sz9]
end Go.Proofs.Ytihjbbiajggcoaa
end
section
set_option linter.unusedVariables false
set_option linter.unusedSimpArgs false
namespace Go.Proofs.Ytihjbbiajggcoaa
open Go Go.Sim
set_option maxRecDepth 100000
attribute [local go_sem ↓] aw_skip aw_ret aw_exit aw_region aw_draw aw_seq aw_block aw_loop aw_cond frz_nil frz_cons sq_normal sq_ret sq_exit exB_normal exB_ret exB_same exB_other retQ_ret retQ_normal ret0_ret ret0_normal ao_nil go1 g_move g_assign g_pick g_build g_load g_binOp g_unOp g_convert g_fieldAddr g_field g_indexAddr g_index g_extract g_slice g_nilCheck g_len g_makeFunc h_call h_append h_alloc h_box h_buildSlice h_makeSlice h_store gV i_box i_buildSlice i_move i_assign i_build i_load i_binOp i_unOp i_convert i_fieldAddr i_field i_indexAddr i_index i_extract i_slice i_nilCheck i_makeFunc i_len i_max i_min i_alloc i_makeSlice i_store i_append i_call i_pick boxI boxA buildSliceI buildSliceA makeSliceA allocA storeA p_move p_assign p_pick p_build p_load p_binOp p_unOp p_convert p_fieldAddr p_field p_indexAddr p_index p_extract p_slice p_nilCheck p_makeFunc p_len p_max p_min p_alloc p_box p_buildSlice p_makeSlice p_store p_append p_call x_nil x_go1 x_g0 x_g1 x_g2 x_g3 x_s0 x_s1 x_s2 x_s3 u_move u_assign u_pick u_build u_load u_binOp u_unOp u_convert u_fieldAddr u_field u_indexAddr u_index u_extract u_slice u_nilCheck u_makeFunc u_len u_buildSlice x_s4 x_g4 rq_normal rq_ret rq_exit aw_range
attribute [local go_sem] frzV_sl frzK_some set_none set_other AHeap.set_self set_del set_set cnd_t cnd_f cnd_b retA_one retA_two retA_three retA_four retA_nil gIf_b mrgV_b mrgV_wh mrgV_U gIf_U gIf_wh mrgB_f mrgB_some mrgB_if wh_true wh_false keepA_some keepA_if gD_zero gD_succ gT_some bxA_t bxA_f callA_fn ev_tmp ev_const ev_global ev_func oc_bool oc_int oc_string oc_nil oc_nilptr oc_nilfunc cl_bool cl_int cl_string cl_nil updO_some updO_none upd_same upd_other init_at pickA_b pickA_wh selA_t selA_f selA_and selA_or selA_orn selA_orm selA_bb selA_ii beqt b_add b_sub b_mul b_and b_or b_xor b_eql b_neq b_lss b_leq b_gtr b_geq b_quo b_rem b_shr b_seql b_sneq b_sadd b_beql b_bneq b_aeql b_aneq u_not u_neg isConstOp eqA eqCellV List.getD_cons_zero List.getD_cons_succ List.map_cons List.map_nil List.nil_append List.cons_append List.append_nil if_true if_false Option.map_some Option.map_none ne_eq not_false_eq_true oneA ldv ld1v ld1s wr1s ldRow stRow row_lit row_agg row_vsl row_sl row_ptr row_fn one_I one_B one_S one_vsl one_sl one_ptr one_fn extractA okA rI rS rU rClass rFault rExit rStart rLine Int.toNat_natCast List.length_cons List.length_nil List.length_map List.all_cons List.all_nil Bool.and_true Nat.zero_add List.getElem?_cons_zero List.getElem?_cons_succ List.take_succ_cons List.take_zero List.drop_succ_cons List.drop_zero and_self true_and and_true implies_true decide_eq_true_eq decide_eq_false_iff_not Bool.or_eq_true Bool.or_eq_false_iff Bool.and_eq_true Bool.not_eq_true' Bool.not_eq_false' beq_false decide_true decide_false Int.ofNat_lt Int.ofNat_le Int.natCast_nonneg Bool.or_true Bool.or_false Bool.true_or Bool.false_or beq_self_eq_true List.drop_one Bool.not_true Bool.not_false Bool.not_not Bool.false_eq_true Bool.true_eq_false false_implies true_implies Bool.true_and Bool.false_and Bool.and_false not_true_eq_false Int.natCast_eq_zero Int.natCast_pos Int.natCast_zero false_and and_false or_false false_or or_true true_or Bool.or_self none_le_iff List.replicate_zero Int.toNat_zero List.replicate_succ buildRows List.set_cons_zero List.set_cons_succ List.set_nil List.mapM_nil maxLen_eq Nat.zero_le Nat.mul_one Nat.one_mul bldA fillA spliceA List.take_nil List.drop_nil List.getElem?_nil ld1o wr1o bldSliceA le_same cv_i cvI_t quietT_fn qvd_some ld_o ldO_1 ldO_l wr_o wrO_1 set_2 set_3 set_4 putL_nil putL_cons List.zip_cons_cons List.zip_nil_left List.zip_nil_right List.toList_toArray frzV_set ti1 ti2 tk2 ti3 te3 ts3 tk3 tz3 ti4 tb4 ti5 tk5 tz5 ti9 te9 ts9 tk9 tz9 ti12 tk12 ti13 tp13 tf13_0 tf13_1 ti20 ti21 tk21 tz21 ti22 te22 tz22 ti23 te23 ti24 tp24 tf24_0 ti25 tp25 tf25_0 ti26 te26 ti27 tq27 tp27 tf27_0 tf27_1 tf27_2 ti28 tq28 tp28 tf28_0 tf28_1 tf28_2 ti30 ti31 te31 ti32 te32 ti33 tp33 tf33_0 ti34 tp34 tf34_0 ti35 tp35 tf35_0 tf35_1 tf35_2 tf35_3 ti36 tp36 tf36_0 tf36_1 tf36_2 tf36_3 ti37 ti38 ti39 ti40 tq40 tp40 tf40_0 tf40_1 tf40_2 ti41 tq41 tp41 tf41_0 tf41_1 tf41_2 ti42 ti43 ti44 ti45 ti47 ti48 ti49 ti50 ti51 ti52 ti53 ti54 ti55 tp55 tf55_0 tf55_1 ti56 tp56 tf56_0 tf56_1 ti57 ti58 ti59 ti60 ti61 ti62 ti63 ti64 ti65 ti66 ti67 tq67 tp67 tf67_0 tf67_1 ti68 tq68 tp68 tf68_0 tf68_1 ti69 tq69 tp69 tf69_0 tf69_1 tf69_2 tf69_3 tf69_4 ti70 tq70 tp70 tf70_0 tf70_1 tf70_2 tf70_3 tf70_4 ti71 ti72 tp72 tf72_0 tf72_1 tf72_2 ti73 tp73 tf73_0 tf73_1 tf73_2 ti74 ti75 ti77 ti78 tq78 tp78 tf78_0 tf78_1 ti79 tq79 tp79 tf79_0 tf79_1 ti80 ti81 ti82 ti83 ti84 ti85 te85 ti86 ti87 te87 ti88 tp88 tf88_0 tf88_1 tf88_2 tf88_3 tf88_4 ti89 tp89 tf89_0 tf89_1 tf89_2 tf89_3 tf89_4 ti90 ti91 ti92 ti93 ti94 ti95 ti96 ti97 ti98 ti99 ti100 ti101 ti102 ti103 ti104 ti105 ti106 ti107 ti108 ti109 ti110 ti111 ti112 ti113 ti114 ti115 ti116 tk116 tz116 ti117 ti118 tk118 ti120 ti121 ti122 ti124 ti125 ti126 tk126 tz126 ti127 ti128 tk128 tz128 ti129 tk129 ti130 ti131 ti132 ti133 ti134 ti135 ti137 ti138 ti144 ti148 ti153 ti154 tq154 tp154 tf154_0 tf154_1 tf154_2 tf154_3 ti155 tq155 tp155 tf155_0 tf155_1 tf155_2 tf155_3 ti157 fp13_0 fv13_0 fp13_1 fv13_1 fp24_0 fv24_0 fp25_0 fv25_0 fp27_0 fv27_0 fp27_1 fv27_1 fp27_2 fv27_2 fp28_0 fv28_0 fp28_1 fv28_1 fp28_2 fv28_2 fp33_0 fv33_0 fp34_0 fv34_0 fp35_0 fv35_0 fp35_1 fv35_1 fp35_2 fv35_2 fp35_3 fv35_3 fp36_0 fv36_0 fp36_1 fv36_1 fp36_2 fv36_2 fp36_3 fv36_3 fp40_0 fv40_0 fp40_1 fv40_1 fp40_2 fv40_2 fp41_0 fv41_0 fp41_1 fv41_1 fp41_2 fv41_2 fp55_0 fv55_0 fp55_1 fv55_1 fp56_0 fv56_0 fp56_1 fv56_1 fp67_0 fv67_0 fp67_1 fv67_1 fp68_0 fv68_0 fp68_1 fv68_1 fp69_0 fv69_0 fp69_1 fv69_1 fp69_2 fv69_2 fp69_3 fv69_3 fp69_4 fv69_4 fp70_0 fv70_0 fp70_1 fv70_1 fp70_2 fv70_2 fp70_3 fv70_3 fp70_4 fv70_4 fp72_0 fv72_0 fp72_1 fv72_1 fp72_2 fv72_2 fp73_0 fv73_0 fp73_1 fv73_1 fp73_2 fv73_2 fp78_0 fv78_0 fp78_1 fv78_1 fp79_0 fv79_0 fp79_1 fv79_1 fp88_0 fv88_0 fp88_1 fv88_1 fp88_2 fv88_2 fp88_3 fv88_3 fp88_4 fv88_4 fp89_0 fv89_0 fp89_1 fv89_1 fp89_2 fv89_2 fp89_3 fv89_3 fp89_4 fv89_4 fp154_0 fv154_0 fp154_1 fv154_1 fp154_2 fv154_2 fp154_3 fv154_3 fp155_0 fv155_0 fp155_1 fv155_1 fp155_2 fv155_2 fp155_3 fv155_3 lv22 ll22 is22 ix22 sh22 so22 sb22 sm22 sp22 lv23 ll23 is23 ix23 sh23 so23 sb23 sm23 sp23 lv26 ll26 is26 ix26 sh26 so26 sb26 sm26 sp26 lv31 ll31 is31 ix31 sh31 so31 sb31 sm31 sp31 lv32 ll32 is32 ix32 sh32 so32 sb32 sm32 sp32 lv85 ll85 is85 ix85 sh85 so85 sb85 sm85 sp85 lv87 ll87 is87 ix87 sh87 so87 sb87 sm87 sp87 xs9 ls9 sx9 sy9 sz9

theorem c_Sort (H : AHeap) (b : Nat) (ty : TypeId) (l : List Int) (cl : Bool) {Q : AV → AHeap → Prop} (hb : H b = some ⟨1, ty, l.map rI⟩) (hl : l.length < 4611686018427387904) (k : Q (.tup []) (H.set b ⟨1, ty, (sortI l).map rI⟩)) :
    ACalls Try.prog 75 [.sl b 1 0 l.length cl] H Q :=
  acalls_sort (by kernel_rfl) Try.slices_Sort_int hb hl k
theorem c_SortG (H0 H : AHeap) (x : AV) (l : List Int) (hg : Grow rI 1 3 H0 H x l) (hn : l ≠ []) (hl : l.length < 4611686018427387904) :
    ACalls Try.prog 75 [x] H fun r H' => r = .tup [] ∧ Grow rI 1 3 H0 H' x (sortI l) := by
  rcases hg with ⟨e, _, _⟩ | ⟨b, cl, hb, rfl, rfl⟩
  · exact absurd e hn
  · refine c_Sort _ b 3 l cl (AHeap.set_self ..) hl ⟨rfl, .inr ⟨b, cl, hb, by rw [sortI_len], set_set⟩⟩

def causeOf (h : List Fault) (a : Int) : Int := (h.getD a.toNat default).cause
/-- A link's end put to what is there, if it is new. -/
def addF (out : List Int) (g : Int) : List Int := if 0 ≤ g ∧ (out.any fun x => decide (g = x)) = false then out ++ [g] else out
def bfsG (h : List Fault) : Nat → Nat → List Int → List Int
  | 0, _, out => out
  | n + 1, i, out => if i < out.length then bfsG h n (i + 1) (addF (addF out (causeOf h (out.getD i default))) (ctxOf h (out.getD i default))) else out
def bfsF (h : List Fault) (f : Int) : List Int := bfsG h (h.length + 1) 0 [f]
/-- Numbers of a heap, each once. -/
structure Nums (n : Nat) (out : List Int) : Prop where
  mem : ∀ a ∈ out, 0 ≤ a ∧ a < n
  free : freeN n out + out.length ≤ n
theorem Nums.add {n : Nat} {out : List Int} (h : Nums n out) {g : Int} (hg : g < n) : Nums n (addF out g) := by
  unfold addF
  split
  · rename_i hc
    refine ⟨fun a ha => ?_, ?_⟩
    · rcases List.mem_append.1 ha with q | q
      · exact h.mem a q
      · simp at q; subst q; exact ⟨hc.1, hg⟩
    · have := freeN_lt hc.1 hg hc.2
      have := h.free
      simp; omega
  · exact h
theorem Nums.one {n : Nat} {f : Int} (h0 : 0 ≤ f) (h1 : f < n) : Nums n [f] := by
  refine ⟨fun a ha => by simp at ha; subst ha; exact ⟨h0, h1⟩, ?_⟩
  have := freeN_lt (out := []) h0 h1 rfl
  have := freeN_nil n
  simp at *; omega
theorem addF_len (out : List Int) (g : Int) : out.length ≤ (addF out g).length := by
  unfold addF; split <;> simp

theorem c_mreach (h : List Fault) (cl : Bool) (f : Int) (H : AHeap) (hl : h.length ≤ 1000000) (h0 : 0 ≤ f) (h1 : f < h.length) (hlk : ∀ k, k < h.length → (h.getD k default).cause < h.length ∧ (h.getD k default).ctx < h.length) :
    ACalls Try.prog 69 [aHeap h cl, I f] H fun r H' => Grow rI 1 3 H H' r (sortI (bfsF h f)) := by
  refine acalls_of0 Try.func69 rfl (by kernel_rfl) rfl rfl (awp_sound (fz := fun _ => []) (im := fun s => s == 2 || s == 51) mixed _ _ _ _ (by kernel_rfl) ?_)
  simp +contextual -dsimp -implicitDefEqProofs (maxSteps := 5000000) only [go_sem, reduceIte, reduceCtorEq, Nat.reduceEqDiff, Nat.reduceBEq, Nat.reduceAdd, Nat.reduceLeDiff, Nat.reduceMul, Nat.reduceLT, Int.reduceEq, Int.reduceLT, Int.reduceLE]
  intro b5 hb5
  refine aloop mixed (fz := fun _ => []) (im := fun s => s == 2 || s == 51) (by kernel_rfl) (fun m tm H' => ∃ (i : Nat) (out : List Int) (x : AV), m = h.length + 1 - i ∧ i ≤ out.length ∧ Nums h.length out ∧ out ≠ [] ∧ Grow rI 1 3 H H' x out ∧ tm 2 = .vptr [[.vsl (h.map rFault) cl]] 0 0 ∧ tm 5 = x ∧ tm 6 = I i ∧ bfsG h (h.length + 1 - i) i out = bfsF h f) (h.length + 1) ⟨0, [f], .sl b5 1 0 1 true, rfl, by simp, Nums.one h0 h1, by simp, .inr ⟨b5, true, hb5, rfl, rfl⟩, ?_⟩ ?_
  · simp +contextual -dsimp -implicitDefEqProofs (maxSteps := 5000000) only [go_sem, reduceIte, reduceCtorEq, Nat.reduceEqDiff, Nat.reduceBEq, Nat.reduceAdd, Nat.reduceLeDiff, Nat.reduceMul, Nat.reduceLT, Int.reduceEq, Int.reduceLT, Int.reduceLE]
    rfl
  · rintro m tm H' ⟨i, out, x, rfl, hi, hn, hne, hg, t2, t5, t6, he⟩
    have hlen := grow_len te31 hg
    have hol : out.length ≤ h.length := by have := hn.free; omega
    simp +contextual -dsimp -implicitDefEqProofs (maxSteps := 5000000) only [go_sem, reduceIte, reduceCtorEq, Nat.reduceEqDiff, Nat.reduceBEq, Nat.reduceAdd, Nat.reduceLeDiff, Nat.reduceMul, Nat.reduceLT, Int.reduceEq, Int.reduceLT, Int.reduceLE, t2, t5, t6, hlen]
    refine ⟨fun hlt => ?_, fun hlt => ?_⟩
    · refine draw_intro [0, 0, 0, 0, 0, 0, 0, 0, 0, 0, 0, 0, 0, 0, 0, 0, 0, 0, 0, 0, 0] AHeap.none (by kernel_rfl) none_le ?_
      rcases hg with ⟨e1, _, _⟩ | ⟨b, cl', hb, rfl, rfl⟩
      · exact absurd e1 hne
      have hm := hn.mem (out.getD i default) (by rw [List.getD_eq_getElem?_getD, List.getElem?_eq_getElem hlt]; exact List.getElem_mem hlt)
      have i1 := hm.1
      have i2 := hm.2
      have i3 : (out.getD i default).toNat < h.length := by omega
      have hk1 := (hlk _ i3).1
      have hk2 := (hlk _ i3).2
      simp +contextual -dsimp -implicitDefEqProofs (maxSteps := 5000000) only [go_sem, reduceIte, reduceCtorEq, Nat.reduceEqDiff, Nat.reduceBEq, Nat.reduceAdd, Nat.reduceLeDiff, Nat.reduceMul, Nat.reduceLT, Int.reduceEq, Int.reduceLT, Int.reduceLE, t2, t5, t6, hlt, i1, i2, i3]
      have hg : Grow rI 1 3 H (H.set b ⟨1, 3, out.map rI⟩) (.sl b 1 0 out.length cl') out := .inr ⟨b, cl', hb, rfl, rfl⟩
      generalize H.set b ⟨1, 3, out.map rI⟩ = HH at hg ⊢
      generalize hx : AV.sl b 1 0 out.length cl' = x at hg ⊢
      refine aloop mixed (fz := fun _ => []) (im := fun s => s == 2 || s == 51) (by kernel_rfl) (fun m tm H' => ∃ (j : Nat) (o : List Int) (x : AV), m = 2 - j ∧ j ≤ 2 ∧ Grow rI 1 3 H H' x o ∧ Nums h.length o ∧ o ≠ [] ∧ out.length ≤ o.length ∧ tm 2 = .vptr [[.vsl (h.map rFault) cl]] 0 0 ∧ tm 5 = x ∧ tm 6 = I i ∧ tm 35 = .vsl ([causeOf h (out.getD i default), ctxOf h (out.getD i default)].map rI) true ∧ tm 36 = I 2 ∧ tm 37 = I j ∧ o = (if j = 0 then out else if j = 1 then addF out (causeOf h (out.getD i default)) else addF (addF out (causeOf h (out.getD i default))) (ctxOf h (out.getD i default)))) 2 ⟨0, out, x, rfl, by simp, hg, hn, hne, Nat.le_refl _, ?_⟩ ?_
      · simp +contextual -dsimp -implicitDefEqProofs (maxSteps := 5000000) only [go_sem, reduceIte, reduceCtorEq, Nat.reduceEqDiff, Nat.reduceBEq, Nat.reduceAdd, Nat.reduceLeDiff, Nat.reduceMul, Nat.reduceLT, Int.reduceEq, Int.reduceLT, Int.reduceLE, t2, t5, t6, hlt, i1, i2, i3, hx]
        simp [causeOf, ctxOf]
      · rintro m tm H' ⟨j, o, x', rfl, hj, hg', hn', hne', hol', t2, t5, t6, t35, t36, t37, ho⟩
        have hol2 : o.length ≤ h.length := by have := hn'.free; omega
        generalize hL : [causeOf h (out.getD i default), ctxOf h (out.getD i default)] = L at t35
        have hLl : L.length = 2 := by rw [← hL]; rfl
        simp +contextual -dsimp -implicitDefEqProofs (maxSteps := 5000000) only [go_sem, reduceIte, reduceCtorEq, Nat.reduceEqDiff, Nat.reduceBEq, Nat.reduceAdd, Nat.reduceLeDiff, Nat.reduceMul, Nat.reduceLT, Int.reduceEq, Int.reduceLT, Int.reduceLE, t2, t5, t6, t35, t36, t37, hLl]
        refine ⟨fun hj2 => ⟨by omega, ?_⟩, fun hj2 => ?_⟩
        · have hc : ∀ g, g = L.getD j default → g < h.length := by
            rintro g rfl
            have : j = 0 ∨ j = 1 := by omega
            rcases this with rfl | rfl
            · rw [← hL]; exact hk1
            · rw [← hL]; exact hk2
          have hnx : (if j + 1 = 0 then out else if j + 1 = 1 then addF out (causeOf h (out.getD i default)) else addF (addF out (causeOf h (out.getD i default))) (ctxOf h (out.getD i default))) = addF o (L.getD j default) := by
            have : j = 0 ∨ j = 1 := by omega
            rcases this with rfl | rfl
            · rw [← hL, ho]; rfl
            · rw [← hL, ho]; rfl
          have hgl := hc _ rfl
          generalize L.getD j default = g at hgl hnx
          refine ⟨by omega, fun hg0 => (c_ContainsG o x' g H H' hg').det ?_, fun hg0 => ?_⟩
          · cases ha : o.any fun x => decide (g = x)
            · simp +contextual -dsimp -implicitDefEqProofs (maxSteps := 5000000) only [go_sem, reduceIte, reduceCtorEq, Nat.reduceEqDiff, Nat.reduceBEq, Nat.reduceAdd, Nat.reduceLeDiff, Nat.reduceMul, Nat.reduceLT, Int.reduceEq, Int.reduceLT, Int.reduceLE, t2, t5, t6, t35, t36, t37, hLl, hg0]
              have hadd : addF o g = o ++ [g] := by rw [addF, if_pos ⟨hg0, ha⟩]
              refine grow_append (m := [g]) te31 ti3 rI_len (by decide) hg' (by simp; omega) (by simp; omega) rfl fun x2 H2 hg2 => ?_
              simp +contextual -dsimp -implicitDefEqProofs (maxSteps := 5000000) only [go_sem, reduceIte, reduceCtorEq, Nat.reduceEqDiff, Nat.reduceBEq, Nat.reduceAdd, Nat.reduceLeDiff, Nat.reduceMul, Nat.reduceLT, Int.reduceEq, Int.reduceLT, Int.reduceLE, t2, t5, t6, t35, t36, t37, hLl, hg0]
              rw [← hadd] at hg2
              exact ⟨2 - (j + 1), by omega, j + 1, addF o g, x2, rfl, by omega, hg2, hn'.add hgl, by rw [hadd]; simp, Nat.le_trans hol' (addF_len _ _), rfl, I_wrap (by simp) (by omega) (by omega), hnx.symm⟩
            · simp +contextual -dsimp -implicitDefEqProofs (maxSteps := 5000000) only [go_sem, reduceIte, reduceCtorEq, Nat.reduceEqDiff, Nat.reduceBEq, Nat.reduceAdd, Nat.reduceLeDiff, Nat.reduceMul, Nat.reduceLT, Int.reduceEq, Int.reduceLT, Int.reduceLE, t2, t5, t6, t35, t36, t37, hLl, hg0]
              exact ⟨2 - (j + 1), by omega, j + 1, o, x', rfl, by omega, hg', hn', hne', hol', rfl, I_wrap (by simp) (by omega) (by omega), by rw [hnx, addF, if_neg (by rw [ha]; simp)]⟩
          · exact ⟨2 - (j + 1), by omega, j + 1, o, x', rfl, by omega, hg', hn', hne', hol', rfl, I_wrap (by simp) (by omega) (by omega), by rw [hnx, addF, if_neg (fun q => hg0 q.1)]⟩
        · have hj3 : j = 2 := by omega
          subst hj3
          have hq : h.length + 1 - i = (h.length + 1 - (i + 1)) + 1 := by omega
          rw [hq, bfsG, if_pos hlt] at he
          have ho' : o = addF (addF out (causeOf h (out.getD i default))) (ctxOf h (out.getD i default)) := ho
          exact ⟨_, by omega, i + 1, o, x', rfl, by omega, hn', hne', hg', rfl, I_wrap (by simp) (by omega) (by omega), by rw [ho']; exact he⟩
    · refine (c_SortG H H' x out hg hne (by omega)).mono ?_
      rintro _ H'' ⟨rfl, hg'⟩
      simp +contextual -dsimp -implicitDefEqProofs (maxSteps := 5000000) only [go_sem, reduceIte, reduceCtorEq, Nat.reduceEqDiff, Nat.reduceBEq, Nat.reduceAdd, Nat.reduceLeDiff, Nat.reduceMul, Nat.reduceLT, Int.reduceEq, Int.reduceLT, Int.reduceLE, t2, t5, t6, hlen]
      refine (c_ClipG (sortI out) x H H'' hg').mono fun r H3 hg3 => ?_
      simp +contextual -dsimp -implicitDefEqProofs (maxSteps := 5000000) only [go_sem, reduceIte, reduceCtorEq, Nat.reduceEqDiff, Nat.reduceBEq, Nat.reduceAdd, Nat.reduceLeDiff, Nat.reduceMul, Nat.reduceLT, Int.reduceEq, Int.reduceLT, Int.reduceLE, t2, t5, t6, hlen]
      have : bfsF h f = out := by
        rw [← he]
        cases hq : h.length + 1 - i with
        | zero => rfl
        | succ q => rw [bfsG, if_neg hlt]
      rw [this]; exact hg3
end Go.Proofs.Ytihjbbiajggcoaa
end
section
set_option linter.unusedVariables false
set_option linter.unusedSimpArgs false
namespace Go.Proofs.Ytihjbbiajggcoaa
open Go Go.Sim
set_option maxRecDepth 100000
attribute [local go_sem ↓] aw_skip aw_ret aw_exit aw_region aw_draw aw_seq aw_block aw_loop aw_cond frz_nil frz_cons sq_normal sq_ret sq_exit exB_normal exB_ret exB_same exB_other retQ_ret retQ_normal ret0_ret ret0_normal ao_nil go1 g_move g_assign g_pick g_build g_load g_binOp g_unOp g_convert g_fieldAddr g_field g_indexAddr g_index g_extract g_slice g_nilCheck g_len g_makeFunc h_call h_append h_alloc h_box h_buildSlice h_makeSlice h_store gV i_box i_buildSlice i_move i_assign i_build i_load i_binOp i_unOp i_convert i_fieldAddr i_field i_indexAddr i_index i_extract i_slice i_nilCheck i_makeFunc i_len i_max i_min i_alloc i_makeSlice i_store i_append i_call i_pick boxI boxA buildSliceI buildSliceA makeSliceA allocA storeA p_move p_assign p_pick p_build p_load p_binOp p_unOp p_convert p_fieldAddr p_field p_indexAddr p_index p_extract p_slice p_nilCheck p_makeFunc p_len p_max p_min p_alloc p_box p_buildSlice p_makeSlice p_store p_append p_call x_nil x_go1 x_g0 x_g1 x_g2 x_g3 x_s0 x_s1 x_s2 x_s3 u_move u_assign u_pick u_build u_load u_binOp u_unOp u_convert u_fieldAddr u_field u_indexAddr u_index u_extract u_slice u_nilCheck u_makeFunc u_len u_buildSlice x_s4 x_g4 rq_normal rq_ret rq_exit aw_range
attribute [local go_sem] frzV_sl frzK_some set_none set_other AHeap.set_self set_del set_set cnd_t cnd_f cnd_b retA_one retA_two retA_three retA_four retA_nil gIf_b mrgV_b mrgV_wh mrgV_U gIf_U gIf_wh mrgB_f mrgB_some mrgB_if wh_true wh_false keepA_some keepA_if gD_zero gD_succ gT_some bxA_t bxA_f callA_fn ev_tmp ev_const ev_global ev_func oc_bool oc_int oc_string oc_nil oc_nilptr oc_nilfunc cl_bool cl_int cl_string cl_nil updO_some updO_none upd_same upd_other init_at pickA_b pickA_wh selA_t selA_f selA_and selA_or selA_orn selA_orm selA_bb selA_ii beqt b_add b_sub b_mul b_and b_or b_xor b_eql b_neq b_lss b_leq b_gtr b_geq b_quo b_rem b_shr b_seql b_sneq b_sadd b_beql b_bneq b_aeql b_aneq u_not u_neg isConstOp eqA eqCellV List.getD_cons_zero List.getD_cons_succ List.map_cons List.map_nil List.nil_append List.cons_append List.append_nil if_true if_false Option.map_some Option.map_none ne_eq not_false_eq_true oneA ldv ld1v ld1s wr1s ldRow stRow row_lit row_agg row_vsl row_sl row_ptr row_fn one_I one_B one_S one_vsl one_sl one_ptr one_fn extractA okA rI rS rU rClass rFault rExit rStart rLine Int.toNat_natCast List.length_cons List.length_nil List.length_map List.all_cons List.all_nil Bool.and_true Nat.zero_add List.getElem?_cons_zero List.getElem?_cons_succ List.take_succ_cons List.take_zero List.drop_succ_cons List.drop_zero and_self true_and and_true implies_true decide_eq_true_eq decide_eq_false_iff_not Bool.or_eq_true Bool.or_eq_false_iff Bool.and_eq_true Bool.not_eq_true' Bool.not_eq_false' beq_false decide_true decide_false Int.ofNat_lt Int.ofNat_le Int.natCast_nonneg Bool.or_true Bool.or_false Bool.true_or Bool.false_or beq_self_eq_true List.drop_one Bool.not_true Bool.not_false Bool.not_not Bool.false_eq_true Bool.true_eq_false false_implies true_implies Bool.true_and Bool.false_and Bool.and_false not_true_eq_false Int.natCast_eq_zero Int.natCast_pos Int.natCast_zero false_and and_false or_false false_or or_true true_or Bool.or_self none_le_iff List.replicate_zero Int.toNat_zero List.replicate_succ buildRows List.set_cons_zero List.set_cons_succ List.set_nil List.mapM_nil maxLen_eq Nat.zero_le Nat.mul_one Nat.one_mul bldA fillA spliceA List.take_nil List.drop_nil List.getElem?_nil ld1o wr1o bldSliceA le_same cv_i cvI_t quietT_fn qvd_some ld_o ldO_1 ldO_l wr_o wrO_1 set_2 set_3 set_4 putL_nil putL_cons List.zip_cons_cons List.zip_nil_left List.zip_nil_right List.toList_toArray frzV_set ti1 ti2 tk2 ti3 te3 ts3 tk3 tz3 ti4 tb4 ti5 tk5 tz5 ti9 te9 ts9 tk9 tz9 ti12 tk12 ti13 tp13 tf13_0 tf13_1 ti20 ti21 tk21 tz21 ti22 te22 tz22 ti23 te23 ti24 tp24 tf24_0 ti25 tp25 tf25_0 ti26 te26 ti27 tq27 tp27 tf27_0 tf27_1 tf27_2 ti28 tq28 tp28 tf28_0 tf28_1 tf28_2 ti30 ti31 te31 ti32 te32 ti33 tp33 tf33_0 ti34 tp34 tf34_0 ti35 tp35 tf35_0 tf35_1 tf35_2 tf35_3 ti36 tp36 tf36_0 tf36_1 tf36_2 tf36_3 ti37 ti38 ti39 ti40 tq40 tp40 tf40_0 tf40_1 tf40_2 ti41 tq41 tp41 tf41_0 tf41_1 tf41_2 ti42 ti43 ti44 ti45 ti47 ti48 ti49 ti50 ti51 ti52 ti53 ti54 ti55 tp55 tf55_0 tf55_1 ti56 tp56 tf56_0 tf56_1 ti57 ti58 ti59 ti60 ti61 ti62 ti63 ti64 ti65 ti66 ti67 tq67 tp67 tf67_0 tf67_1 ti68 tq68 tp68 tf68_0 tf68_1 ti69 tq69 tp69 tf69_0 tf69_1 tf69_2 tf69_3 tf69_4 ti70 tq70 tp70 tf70_0 tf70_1 tf70_2 tf70_3 tf70_4 ti71 ti72 tp72 tf72_0 tf72_1 tf72_2 ti73 tp73 tf73_0 tf73_1 tf73_2 ti74 ti75 ti77 ti78 tq78 tp78 tf78_0 tf78_1 ti79 tq79 tp79 tf79_0 tf79_1 ti80 ti81 ti82 ti83 ti84 ti85 te85 ti86 ti87 te87 ti88 tp88 tf88_0 tf88_1 tf88_2 tf88_3 tf88_4 ti89 tp89 tf89_0 tf89_1 tf89_2 tf89_3 tf89_4 ti90 ti91 ti92 ti93 ti94 ti95 ti96 ti97 ti98 ti99 ti100 ti101 ti102 ti103 ti104 ti105 ti106 ti107 ti108 ti109 ti110 ti111 ti112 ti113 ti114 ti115 ti116 tk116 tz116 ti117 ti118 tk118 ti120 ti121 ti122 ti124 ti125 ti126 tk126 tz126 ti127 ti128 tk128 tz128 ti129 tk129 ti130 ti131 ti132 ti133 ti134 ti135 ti137 ti138 ti144 ti148 ti153 ti154 tq154 tp154 tf154_0 tf154_1 tf154_2 tf154_3 ti155 tq155 tp155 tf155_0 tf155_1 tf155_2 tf155_3 ti157 fp13_0 fv13_0 fp13_1 fv13_1 fp24_0 fv24_0 fp25_0 fv25_0 fp27_0 fv27_0 fp27_1 fv27_1 fp27_2 fv27_2 fp28_0 fv28_0 fp28_1 fv28_1 fp28_2 fv28_2 fp33_0 fv33_0 fp34_0 fv34_0 fp35_0 fv35_0 fp35_1 fv35_1 fp35_2 fv35_2 fp35_3 fv35_3 fp36_0 fv36_0 fp36_1 fv36_1 fp36_2 fv36_2 fp36_3 fv36_3 fp40_0 fv40_0 fp40_1 fv40_1 fp40_2 fv40_2 fp41_0 fv41_0 fp41_1 fv41_1 fp41_2 fv41_2 fp55_0 fv55_0 fp55_1 fv55_1 fp56_0 fv56_0 fp56_1 fv56_1 fp67_0 fv67_0 fp67_1 fv67_1 fp68_0 fv68_0 fp68_1 fv68_1 fp69_0 fv69_0 fp69_1 fv69_1 fp69_2 fv69_2 fp69_3 fv69_3 fp69_4 fv69_4 fp70_0 fv70_0 fp70_1 fv70_1 fp70_2 fv70_2 fp70_3 fv70_3 fp70_4 fv70_4 fp72_0 fv72_0 fp72_1 fv72_1 fp72_2 fv72_2 fp73_0 fv73_0 fp73_1 fv73_1 fp73_2 fv73_2 fp78_0 fv78_0 fp78_1 fv78_1 fp79_0 fv79_0 fp79_1 fv79_1 fp88_0 fv88_0 fp88_1 fv88_1 fp88_2 fv88_2 fp88_3 fv88_3 fp88_4 fv88_4 fp89_0 fv89_0 fp89_1 fv89_1 fp89_2 fv89_2 fp89_3 fv89_3 fp89_4 fv89_4 fp154_0 fv154_0 fp154_1 fv154_1 fp154_2 fv154_2 fp154_3 fv154_3 fp155_0 fv155_0 fp155_1 fv155_1 fp155_2 fv155_2 fp155_3 fv155_3 lv22 ll22 is22 ix22 sh22 so22 sb22 sm22 sp22 lv23 ll23 is23 ix23 sh23 so23 sb23 sm23 sp23 lv26 ll26 is26 ix26 sh26 so26 sb26 sm26 sp26 lv31 ll31 is31 ix31 sh31 so31 sb31 sm31 sp31 lv32 ll32 is32 ix32 sh32 so32 sb32 sm32 sp32 lv85 ll85 is85 ix85 sh85 so85 sb85 sm85 sp85 lv87 ll87 is87 ix87 sh87 so87 sb87 sm87 sp87 xs9 ls9 sx9 sy9 sz9

theorem c_misolate0 (h : List Fault) (cl : Bool) (f : Int) (H : AHeap) (hl : h.length ≤ 999999) (h0 : 0 ≤ f) (h1 : f < h.length) (hlk : ∀ k, k < h.length → (h.getD k default).cause < h.length ∧ (h.getD k default).ctx < h.length) (hm : ∀ a ∈ sortI (bfsF h f), 0 ≤ a ∧ a < h.length) (hll : (sortI (bfsF h f)).length ≤ 999999) :
    ACalls Try.prog 50 [aHeap h cl, I f] H fun r H' => ∃ x, r = .tup [.agg [x], I (idxF (fun x => decide (f = x)) (sortI (bfsF h f)))] ∧ Grow rFault 5 70 H H' x (isoL h (sortI (bfsF h f))) := by
  refine acalls_of1 Try.func50 rfl (by kernel_rfl) rfl rfl (awp_sound (fz := fun r => if r = 7 then [10] else []) (im := fun s => s == 2 || s == 42) mixed _ _ _ _ (by kernel_rfl) ?_)
  simp +contextual -dsimp -implicitDefEqProofs (maxSteps := 5000000) only [go_sem, reduceIte, reduceCtorEq, Nat.reduceEqDiff, Nat.reduceBEq, Nat.reduceAdd, Nat.reduceLeDiff, Nat.reduceMul, Nat.reduceLT, Int.reduceEq, Int.reduceLT, Int.reduceLE]
  intro b4 hb4
  refine acalls_frz (c_mreach h cl f _ (by omega) h0 h1 hlk) fun cl1 => ?_
  generalize sortI (bfsF h f) = L at hm hll ⊢
  simp +contextual -dsimp -implicitDefEqProofs (maxSteps := 5000000) only [go_sem, reduceIte, reduceCtorEq, Nat.reduceEqDiff, Nat.reduceBEq, Nat.reduceAdd, Nat.reduceLeDiff, Nat.reduceMul, Nat.reduceLT, Int.reduceEq, Int.reduceLT, Int.reduceLE]
  refine ⟨by omega, by omega, ?_⟩
  rintro bx ⟨x1, x2, hbx⟩ b7 ⟨n1, n2, n3, n4, hb7⟩
  have hgx : Grow rFault 5 70 H (H.set bx ⟨5, 70, []⟩) (.sl bx 5 0 0 false) [] := .inr ⟨bx, false, hbx, rfl, rfl⟩
  have hcm : ((H.set b4 ⟨1, 34, [[.vsl [] true]]⟩).set bx ⟨5, 70, []⟩).set b7 ⟨1, 34, [[.sl bx 5 0 0 false]]⟩ = ((H.set bx ⟨5, 70, []⟩).set b4 ⟨1, 34, [[.vsl [] true]]⟩).set b7 ⟨1, 34, [[.sl bx 5 0 0 false]]⟩ := by rw [set_comm (H := H) x2]
  rw [hcm]
  have e40 : (H.set bx ⟨5, 70, []⟩) b4 = none := by rw [set_other x2]; exact hb4
  have e70 : (H.set bx ⟨5, 70, []⟩) b7 = none := by rw [set_other n1]; exact hb7
  generalize H.set bx ⟨5, 70, []⟩ = H20 at hgx e40 e70 ⊢
  generalize AV.sl bx 5 0 0 false = x0 at hgx ⊢
  refine aloop mixed (fz := fun r => if r = 7 then [10] else []) (im := fun s => s == 2 || s == 42) (by kernel_rfl) (fun m tm H' => ∃ (k : Nat) (H2 : AHeap) (x : AV), m = L.length - k ∧ k ≤ L.length ∧ Grow rFault 5 70 H H2 x ((L.take k).map (isoAt h L)) ∧ H2 b4 = none ∧ H2 b7 = none ∧ H' = (H2.set b4 ⟨1, 34, [[.vsl [] true]]⟩).set b7 ⟨1, 34, [[x]]⟩ ∧
    tm 1 = I f ∧ tm 2 = .vptr [[.vsl (h.map rFault) cl]] 0 0 ∧ tm 4 = .ptr b4 1 0 0 ∧ tm 6 = .vsl (L.map rI) cl1 ∧ tm 7 = .ptr b7 1 0 0 ∧ tm 18 = .vsl (L.map rI) cl1 ∧ tm 19 = I L.length ∧ tm 20 = I k) L.length ⟨0, H20, x0, rfl, by omega, by simpa using hgx, e40, e70, rfl, ?_⟩ ?_
  · simp +contextual -dsimp -implicitDefEqProofs (maxSteps := 5000000) only [go_sem, reduceIte, reduceCtorEq, Nat.reduceEqDiff, Nat.reduceBEq, Nat.reduceAdd, Nat.reduceLeDiff, Nat.reduceMul, Nat.reduceLT, Int.reduceEq, Int.reduceLT, Int.reduceLE]
  · rintro m tm H' ⟨k, H2, x, rfl, hk, hg, e4, e7, rfl, t1, t2, t4, t6, t7, t18, t19, t20⟩
    obtain ⟨r1, r2⟩ := one_grow hg
    simp +contextual -dsimp -implicitDefEqProofs (maxSteps := 5000000) only [go_sem, reduceIte, reduceCtorEq, Nat.reduceEqDiff, Nat.reduceBEq, Nat.reduceAdd, Nat.reduceLeDiff, Nat.reduceMul, Nat.reduceLT, Int.reduceEq, Int.reduceLT, Int.reduceLE, t1, t2, t4, t6, t7, t18, t19, t20, r1, r2, n3, n4]
    refine ⟨fun hk0 => ?_, fun hk0 => ?_⟩
    · have hx := hm (L.getD k default) (by rw [List.getD_eq_getElem?_getD, List.getElem?_eq_getElem hk0]; exact List.getElem_mem hk0)
      have i0 := hx.1
      have i2 := hx.2
      have i1 : (L.getD k default).toNat < h.length := by omega
      simp +contextual -dsimp -implicitDefEqProofs (maxSteps := 5000000) only [go_sem, reduceIte, reduceCtorEq, Nat.reduceEqDiff, Nat.reduceBEq, Nat.reduceAdd, Nat.reduceLeDiff, Nat.reduceMul, Nat.reduceLT, Int.reduceEq, Int.reduceLT, Int.reduceLE, t1, t2, t4, t6, t7, t18, t19, t20, r1, r2, n3, n4, hk0, i0, i2, i1]
      rintro b9 ⟨m1, m2, m3, m4, hb9⟩
      refine draw_intro [0, 0, 0, 3, 0, 0, 1, 2, 0, 2, 0, 2] _ (by kernel_rfl) (AHeap.le_refl _) ?_
      simp +contextual -dsimp -implicitDefEqProofs (maxSteps := 5000000) only [go_sem, reduceIte, reduceCtorEq, Nat.reduceEqDiff, Nat.reduceBEq, Nat.reduceAdd, Nat.reduceLeDiff, Nat.reduceMul, Nat.reduceLT, Int.reduceEq, Int.reduceLT, Int.reduceLE, t1, t2, t4, t6, t7, t18, t19, t20, r1, r2, n3, n4, hk0, i0, i2, i1, m1, m2, m3, m4]
      refine (c_Index _ _ _ _).det ?_
      simp +contextual -dsimp -implicitDefEqProofs (maxSteps := 5000000) only [go_sem, reduceIte, reduceCtorEq, Nat.reduceEqDiff, Nat.reduceBEq, Nat.reduceAdd, Nat.reduceLeDiff, Nat.reduceMul, Nat.reduceLT, Int.reduceEq, Int.reduceLT, Int.reduceLE, t1, t2, t4, t6, t7, t18, t19, t20, r1, r2, n3, n4, hk0, i0, i2, i1, m1, m2, m3, m4]
      refine (c_Index _ _ _ _).det ?_
      simp +contextual -dsimp -implicitDefEqProofs (maxSteps := 5000000) only [go_sem, reduceIte, reduceCtorEq, Nat.reduceEqDiff, Nat.reduceBEq, Nat.reduceAdd, Nat.reduceLeDiff, Nat.reduceMul, Nat.reduceLT, Int.reduceEq, Int.reduceLT, Int.reduceLE, t1, t2, t4, t6, t7, t18, t19, t20, r1, r2, n3, n4, hk0, i0, i2, i1, m1, m2, m3, m4, hb9]
      have e74 : (H2.set b4 ⟨1, 34, [[.vsl [] true]]⟩) b7 = none := by rw [set_other n3]; exact e7
      refine grow_append (m := [isoAt h L (L.getD k default)]) te32 ti70 rFault_len (by decide) (grow_in (grow_in hg e4) e74) (by simp; omega) (by simp; omega) rfl fun x' H' hg' => ?_
      have f4 := grow_none hg e4
      have f7 := grow_none hg e7
      obtain ⟨G1, hg1, rfl, u7⟩ := grow_out hg' (by rw [set_other n3]; exact f7)
      obtain ⟨G3, hg3, rfl, u4⟩ := grow_out hg1 f4
      obtain ⟨r3, r4⟩ := one_grow hg3
      rw [set_other n3] at u7
      simp +contextual -dsimp -implicitDefEqProofs (maxSteps := 5000000) only [go_sem, reduceIte, reduceCtorEq, Nat.reduceEqDiff, Nat.reduceBEq, Nat.reduceAdd, Nat.reduceLeDiff, Nat.reduceMul, Nat.reduceLT, Int.reduceEq, Int.reduceLT, Int.reduceLE, t1, t2, t4, t6, t7, t18, t19, t20, r1, r2, r3, r4, n3, n4, hk0, i0, i2, i1, m1, m2, m3, m4]
      exact ⟨_, by omega, k + 1, G3, x', rfl, hk0, by rw [List.take_succ_eq_append_getElem hk0, List.map_append]; simpa [List.getD_eq_getElem?_getD, hk0] using hg3, u4, u7, rfl, I_wrap (by omega) (by omega) (by omega)⟩
    · refine draw_intro [1, 0, 0, 3, 2, 0] _ (by kernel_rfl) (AHeap.le_refl _) ?_
      simp +contextual -dsimp -implicitDefEqProofs (maxSteps := 5000000) only [go_sem, reduceIte, reduceCtorEq, Nat.reduceEqDiff, Nat.reduceBEq, Nat.reduceAdd, Nat.reduceLeDiff, Nat.reduceMul, Nat.reduceLT, Int.reduceEq, Int.reduceLT, Int.reduceLE, t1, t2, t4, t6, t7, t18, t19, t20, r1, r2, n3, n4]
      refine (c_Index _ _ _ _).det ?_
      simp +contextual -dsimp -implicitDefEqProofs (maxSteps := 5000000) only [go_sem, reduceIte, reduceCtorEq, Nat.reduceEqDiff, Nat.reduceBEq, Nat.reduceAdd, Nat.reduceLeDiff, Nat.reduceMul, Nat.reduceLT, Int.reduceEq, Int.reduceLT, Int.reduceLE, t1, t2, t4, t6, t7, t18, t19, t20, r1, r2, n3, n4]
      rw [List.take_of_length_le (by omega)] at hg
      refine retR_less (l := [.agg [x], I (idxF (fun x => decide (f = x)) L)]) (H' := H2) ?_ (fun c k hc => ?_) ⟨x, rfl, hg⟩
      · simp only [resA, ↓aw_skip, ↓aw_ret, ↓aw_exit, ↓aw_region, ↓aw_draw, ↓aw_seq, ↓aw_block, ↓aw_loop, ↓aw_cond, ↓frz_nil, ↓frz_cons, frzV_ptr, frzV_sl, frzK_some, set_none, set_other, AHeap.set_self, set_del, set_set, cnd_t, cnd_f, cnd_b, ↓sq_normal, ↓sq_ret, ↓sq_exit, ↓exB_normal, ↓exB_ret, ↓exB_same, ↓exB_other, ↓retQ_ret, ↓retQ_normal, ↓ret0_ret, ↓ret0_normal, retA_one, retA_two, retA_three, retA_four, retA_nil, ↓ao_nil, ↓go1, ↓g_move, ↓g_assign, ↓g_pick, ↓g_build, ↓g_load, ↓g_binOp, ↓g_unOp, ↓g_convert, ↓g_fieldAddr, ↓g_field, ↓g_indexAddr, ↓g_index, ↓g_extract, ↓g_slice, ↓g_nilCheck, ↓g_len, ↓g_makeFunc, ↓h_call, ↓h_append, ↓h_alloc, ↓h_box, ↓h_buildSlice, ↓h_makeSlice, ↓h_store, gIf_b, mrgV_b, mrgV_wh, mrgV_U, gIf_U, gIf_wh, mrgB_f, mrgB_some, mrgB_if, wh_true, wh_false, keepA_some, keepA_if, ↓gV, gD_zero, gD_succ, gT_some, ↓i_box, ↓i_buildSlice, bxA_t, bxA_f, ↓i_move, ↓i_assign, ↓i_build, ↓i_load, ↓i_binOp, ↓i_unOp, ↓i_convert, ↓i_fieldAddr, ↓i_field, ↓i_indexAddr, ↓i_index, ↓i_extract, ↓i_slice, ↓i_nilCheck, ↓i_makeFunc, ↓i_len, ↓i_max, ↓i_min, ↓i_alloc, ↓i_makeSlice, ↓i_store, ↓i_append, ↓i_call, ↓i_pick, ↓boxI, ↓boxA, ↓buildSliceI, ↓buildSliceA, ↓makeSliceA, ↓allocA, ↓storeA, ↓p_move, ↓p_assign, ↓p_pick, ↓p_build, ↓p_load, ↓p_binOp, ↓p_unOp, ↓p_convert, ↓p_fieldAddr, ↓p_field, ↓p_indexAddr, ↓p_index, ↓p_extract, ↓p_slice, ↓p_nilCheck, ↓p_makeFunc, ↓p_len, ↓p_max, ↓p_min, ↓p_alloc, ↓p_box, ↓p_buildSlice, ↓p_makeSlice, ↓p_store, ↓p_append, ↓p_call, callA_fn, ev_tmp, ev_const, ev_global, ev_func, oc_bool, oc_int, oc_string, oc_nil, oc_nilptr, oc_nilfunc, cl_bool, cl_int, cl_string, cl_nil, updO_some, updO_none, upd_same, upd_other, init_at, pickA_b, pickA_wh, selA_t, selA_f, selA_and, selA_or, selA_orn, selA_orm, selA_bb, selA_ii, beqt, b_add, b_sub, b_mul, b_and, b_or, b_xor, b_eql, b_neq, b_lss, b_leq, b_gtr, b_geq, b_quo, b_rem, b_shr, b_seql, b_sneq, b_sadd, b_beql, b_bneq, b_aeql, b_aneq, u_not, u_neg, isConstOp, eqA, eqCellV, List.getD_cons_zero, List.getD_cons_succ, List.map_cons, List.map_nil, List.nil_append, List.cons_append, List.append_nil, if_true, if_false, Option.map_some, Option.map_none, reduceIte, reduceCtorEq, Nat.reduceEqDiff, ne_eq, not_false_eq_true, Nat.reduceBEq, oneA, ldv, ld1v, ld1s, wr1s, ldRow, stRow, row_lit, row_agg, row_vsl, row_sl, row_ptr, row_fn, one_I, one_B, one_S, one_vsl, one_sl, one_ptr, one_fn, extractA, okA, rI, rS, rU, rClass, rFault, rExit, rStart, rLine, Int.toNat_natCast, List.length_cons, List.length_nil, List.length_map, List.all_cons, List.all_nil, Bool.and_true, Nat.reduceAdd, Nat.zero_add, List.getElem?_cons_zero, List.getElem?_cons_succ, List.take_succ_cons, List.take_zero, List.drop_succ_cons, List.drop_zero, Nat.reduceLeDiff, and_self, true_and, and_true, implies_true, decide_eq_true_eq, decide_eq_false_iff_not, Bool.or_eq_true, Bool.or_eq_false_iff, Bool.and_eq_true, Bool.not_eq_true', Bool.not_eq_false', beq_false, decide_true, decide_false, Int.ofNat_lt, Int.ofNat_le, Int.natCast_nonneg, Bool.or_true, Bool.or_false, Bool.true_or, Bool.false_or, beq_self_eq_true, Nat.reduceMul, List.drop_one, Bool.not_true, Bool.not_false, Bool.not_not, Bool.false_eq_true, Bool.true_eq_false, false_implies, true_implies, Bool.true_and, Bool.false_and, Bool.and_false, if_true, if_false, not_true_eq_false, Nat.reduceLT, Int.natCast_eq_zero, Int.natCast_pos, Int.natCast_zero, false_and, and_false, or_false, false_or, or_true, true_or, Bool.or_self, ↓x_nil, ↓x_go1, ↓x_g0, ↓x_g1, ↓x_g2, ↓x_g3, ↓x_s0, ↓x_s1, ↓x_s2, ↓x_s3, none_le_iff, ↓u_move, ↓u_assign, ↓u_pick, ↓u_build, ↓u_load, ↓u_binOp, ↓u_unOp, ↓u_convert, ↓u_fieldAddr, ↓u_field, ↓u_indexAddr, ↓u_index, ↓u_extract, ↓u_slice, ↓u_nilCheck, ↓u_makeFunc, ↓u_len, List.replicate_zero, Int.toNat_zero, List.replicate_succ, buildRows, List.set_cons_zero, List.set_cons_succ, List.set_nil, List.mapM_nil, maxLen_eq, Nat.zero_le, Nat.mul_one, Nat.one_mul, bldA, fillA, spliceA, List.take_nil, List.drop_nil, List.getElem?_nil, Int.reduceEq, Int.reduceLT, Int.reduceLE, decide_eq_true_eq, ld1o, wr1o, ↓u_buildSlice, bldSliceA, le_same, ti1, ti2, tk2, ti3, te3, ts3, tk3, tz3, ti4, tb4, ti5, tk5, tz5, ti9, te9, ts9, tk9, tz9, ti12, tk12, ti13, tp13, tf13_0, tf13_1, ti20, ti21, tk21, tz21, ti22, te22, tz22, ti23, te23, ti24, tp24, tf24_0, ti25, tp25, tf25_0, ti26, te26, ti27, tq27, tp27, tf27_0, tf27_1, tf27_2, ti28, tq28, tp28, tf28_0, tf28_1, tf28_2, ti30, ti31, te31, ti32, te32, ti33, tp33, tf33_0, ti34, tp34, tf34_0, ti35, tp35, tf35_0, tf35_1, tf35_2, tf35_3, ti36, tp36, tf36_0, tf36_1, tf36_2, tf36_3, ti37, ti38, ti39, ti40, tq40, tp40, tf40_0, tf40_1, tf40_2, ti41, tq41, tp41, tf41_0, tf41_1, tf41_2, ti42, ti43, ti44, ti45, ti47, ti48, ti49, ti50, ti51, ti52, ti53, ti54, ti55, tp55, tf55_0, tf55_1, ti56, tp56, tf56_0, tf56_1, ti57, ti58, ti59, ti60, ti61, ti62, ti63, ti64, ti65, ti66, ti67, tq67, tp67, tf67_0, tf67_1, ti68, tq68, tp68, tf68_0, tf68_1, ti69, tq69, tp69, tf69_0, tf69_1, tf69_2, tf69_3, tf69_4, ti70, tq70, tp70, tf70_0, tf70_1, tf70_2, tf70_3, tf70_4, ti71, ti72, tp72, tf72_0, tf72_1, tf72_2, ti73, tp73, tf73_0, tf73_1, tf73_2, ti74, ti75, ti77, ti78, tq78, tp78, tf78_0, tf78_1, ti79, tq79, tp79, tf79_0, tf79_1, ti80, ti81, ti82, ti83, ti84, ti85, te85, ti86, ti87, te87, ti88, tp88, tf88_0, tf88_1, tf88_2, tf88_3, tf88_4, ti89, tp89, tf89_0, tf89_1, tf89_2, tf89_3, tf89_4, ti90, ti91, ti92, ti93, ti94, ti95, ti96, ti97, ti98, ti99, ti100, ti101, ti102, ti103, ti104, ti105, ti106, ti107, ti108, ti109, ti110, ti111, ti112, ti113, ti114, ti115, ti116, tk116, tz116, ti117, ti118, tk118, ti120, ti121, ti122, ti124, ti125, ti126, tk126, tz126, ti127, ti128, tk128, tz128, ti129, tk129, ti130, ti131, ti132, ti133, ti134, ti135, ti137, ti138, ti144, ti148, ti153, ti154, tq154, tp154, tf154_0, tf154_1, tf154_2, tf154_3, ti155, tq155, tp155, tf155_0, tf155_1, tf155_2, tf155_3, ti157, fp13_0, fv13_0, fp13_1, fv13_1, fp24_0, fv24_0, fp25_0, fv25_0, fp27_0, fv27_0, fp27_1, fv27_1, fp27_2, fv27_2, fp28_0, fv28_0, fp28_1, fv28_1, fp28_2, fv28_2, fp33_0, fv33_0, fp34_0, fv34_0, fp35_0, fv35_0, fp35_1, fv35_1, fp35_2, fv35_2, fp35_3, fv35_3, fp36_0, fv36_0, fp36_1, fv36_1, fp36_2, fv36_2, fp36_3, fv36_3, fp40_0, fv40_0, fp40_1, fv40_1, fp40_2, fv40_2, fp41_0, fv41_0, fp41_1, fv41_1, fp41_2, fv41_2, fp55_0, fv55_0, fp55_1, fv55_1, fp56_0, fv56_0, fp56_1, fv56_1, fp67_0, fv67_0, fp67_1, fv67_1, fp68_0, fv68_0, fp68_1, fv68_1, fp69_0, fv69_0, fp69_1, fv69_1, fp69_2, fv69_2, fp69_3, fv69_3, fp69_4, fv69_4, fp70_0, fv70_0, fp70_1, fv70_1, fp70_2, fv70_2, fp70_3, fv70_3, fp70_4, fv70_4, fp72_0, fv72_0, fp72_1, fv72_1, fp72_2, fv72_2, fp73_0, fv73_0, fp73_1, fv73_1, fp73_2, fv73_2, fp78_0, fv78_0, fp78_1, fv78_1, fp79_0, fv79_0, fp79_1, fv79_1, fp88_0, fv88_0, fp88_1, fv88_1, fp88_2, fv88_2, fp88_3, fv88_3, fp88_4, fv88_4, fp89_0, fv89_0, fp89_1, fv89_1, fp89_2, fv89_2, fp89_3, fv89_3, fp89_4, fv89_4, fp154_0, fv154_0, fp154_1, fv154_1, fp154_2, fv154_2, fp154_3, fv154_3, fp155_0, fv155_0, fp155_1, fv155_1, fp155_2, fv155_2, fp155_3, fv155_3, lv22, ll22, is22, ix22, sh22, so22, sb22, sm22, sp22, lv23, ll23, is23, ix23, sh23, so23, sb23, sm23, sp23, lv26, ll26, is26, ix26, sh26, so26, sb26, sm26, sp26, lv31, ll31, is31, ix31, sh31, so31, sb31, sm31, sp31, lv32, ll32, is32, ix32, sh32, so32, sb32, sm32, sp32, lv85, ll85, is85, ix85, sh85, so85, sb85, sm85, sp85, lv87, ll87, is87, ix87, sh87, so87, sb87, sm87, sp87, xs9, ls9, sx9, sy9, sz9, n3, n4, t4, ld_o, ldO_1]
      · have c1 : c ≠ b4 := fun e => by rw [e, e4] at hc; cases hc
        have c2 : c ≠ b7 := fun e => by rw [e, e7] at hc; cases hc
        rw [set_other c2, set_other c1]; exact hc
theorem c_misolate (h : List Fault) (cl : Bool) (f : Int) (H : AHeap) (hl : h.length ≤ 999999) (h0 : 0 ≤ f) (h1 : f < h.length) (hlk : ∀ k, k < h.length → (h.getD k default).cause < h.length ∧ (h.getD k default).ctx < h.length) (hm : ∀ a ∈ sortI (bfsF h f), 0 ≤ a ∧ a < h.length) (hll : (sortI (bfsF h f)).length ≤ 999999) :
    ACalls Try.prog 50 [aHeap h cl, I f] H fun r H' => (∃ cl', r = .tup [aHeap (isoL h (sortI (bfsF h f))) cl', I (idxF (fun x => decide (f = x)) (sortI (bfsF h f)))]) ∧ H' = H := by
  refine acalls_fz (c_misolate0 h cl f H hl h0 h1 hlk hm hll) ?_
  rintro _ H' ⟨x, rfl, hg⟩
  obtain ⟨cl', hz⟩ := grow_fz hg
  exact ⟨_, H, grow_le hg, fz_tup (.cons (fz_agg (.cons hz .nil)) (.refl _)), ⟨cl', rfl⟩, rfl⟩

theorem rFault_nov (y : Fault) : ∀ c ∈ rFault y, NoV c := by
  intro c hc
  simp only [rFault, List.mem_cons, List.not_mem_nil, or_false] at hc
  rcases hc with rfl | rfl | rfl | rfl | rfl <;> exact .lit _
theorem bfsF_ne (h : List Fault) (f : Int) : bfsF h f ≠ [] := by
  have key : ∀ (n i : Nat) (out : List Int), out ≠ [] → bfsG h n i out ≠ [] := by
    intro n
    induction n with
    | zero => intro i out hne; exact hne
    | succ n ih =>
      intro i out hne
      simp only [bfsG]
      split
      · refine ih _ _ fun e => hne ?_
        have h1 := addF_len out (causeOf h (out.getD i default))
        have h2 := addF_len (addF out (causeOf h (out.getD i default))) (ctxOf h (out.getD i default))
        rw [e] at h2
        exact List.eq_nil_of_length_eq_zero (by simp only [List.length_nil] at h2; omega)
      · exact hne
  exact key _ _ _ (by simp)
theorem sortI_ne {l : List Int} (h : l ≠ []) : sortI l ≠ [] := fun e => h (List.eq_nil_of_length_eq_zero (by rw [← sortI_len, e]; rfl))
theorem bfsF_nums {h : List Fault} (hlk : ∀ k, k < h.length → (h.getD k default).cause < h.length ∧ (h.getD k default).ctx < h.length) {f : Int} (h0 : 0 ≤ f) (h1 : f < h.length) : Nums h.length (bfsF h f) := by
  have key : ∀ (n i : Nat) (out : List Int), Nums h.length out → Nums h.length (bfsG h n i out) := by
    intro n
    induction n with
    | zero => intro i out h; exact h
    | succ n ih =>
      intro i out hn
      simp only [bfsG]
      split
      · rename_i hi
        have hm := hn.mem (out.getD i default) (by rw [List.getD_eq_getElem?_getD, List.getElem?_eq_getElem hi]; exact List.getElem_mem hi)
        have hk := hlk (out.getD i default).toNat (by omega)
        exact ih _ _ ((hn.add hk.1).add hk.2)
      · exact hn
  exact key _ _ _ (Nums.one h0 h1)
theorem sortI_mem {l : List Int} {a : Int} : a ∈ sortI l ↔ a ∈ l := List.mem_mergeSort
theorem heapOk_links {fs : List Fault} (ho : heapOk fs) : ∀ k, k < fs.length → (fs.getD k default).cause < fs.length ∧ (fs.getD k default).ctx < fs.length := fun k hk => by
  have := ho k hk; omega

/-- What is left of a machine. -/
theorem c_ClipX (l : List Int) (x : AV) (H0 H : AHeap) (hg : Grow rI 1 3 H0 H x l) : ∃ x', Grow rI 1 3 H0 H x' l ∧ ∀ K, ACalls Try.prog 49 [x] K fun r K' => r = x' ∧ K' = K := by
  rcases hg with ⟨rfl, rfl, rfl⟩ | ⟨b, cl, hb, rfl, rfl⟩
  · exact ⟨.vsl [] true, .inl ⟨rfl, rfl, rfl⟩, fun K => c_ClipV [] true K⟩
  · refine ⟨.sl b 1 0 l.length true, .inr ⟨b, true, hb, rfl, rfl⟩, fun K => ?_⟩
    refine acalls_of0 Try.func49 rfl (by kernel_rfl) rfl rfl (awp_sound (fz := fun _ => []) (im := fun _ => false) mixed _ _ _ _ (by kernel_rfl) ?_)
    simp +contextual -dsimp -implicitDefEqProofs (maxSteps := 5000000) only [go_sem, reduceIte, reduceCtorEq, Nat.reduceEqDiff, Nat.reduceBEq, Nat.reduceAdd, Nat.reduceLeDiff, Nat.reduceMul, Nat.reduceLT, Int.reduceEq, Int.reduceLT, Int.reduceLE]
    simp
theorem c_misolateG (fs : List Fault) (x : AV) (val : Int) (H0 H : AHeap) (hg : Grow rFault 5 70 H0 H x fs) (K : ABlk) (c : Nat) (ho : heapOk fs) (hl : fs.length ≤ 999999) (h0 : 0 ≤ val) (h1 : val < fs.length) :
    ACalls Try.prog 50 [.agg [x], I val] H fun r H' => ∃ y, r = .tup [.agg [y], I (idxF (fun x => decide (val = x)) (sortI (bfsF fs val)))] ∧ Grow rFault 5 70 H H' y (isoL fs (sortI (bfsF fs val))) := by
  obtain ⟨cl, hz⟩ := grow_froz hg
  have hn := bfsF_nums (heapOk_links ho) h0 h1
  have hm : ∀ a ∈ sortI (bfsF fs val), 0 ≤ a ∧ a < fs.length := fun a ha => hn.mem a (sortI_mem.1 ha)
  have hlen : (sortI (bfsF fs val)).length ≤ 999999 := by rw [sortI_len]; have := hn.free; omega
  refine acalls_borrowX [aHeap fs cl, I val] (.cons (.agg rfl ?_) (.cons (.same _) .nil)) (c_misolate0 fs cl val AHeap.none hl h0 h1 (heapOk_links ho) hm hlen) ?_
  · intro i c c' q1 q2
    cases i with
    | zero => simp at q1 q2; subst q1; subst q2; exact hz
    | succ i => simp at q1
  · rintro _ K ⟨y, rfl, hy⟩
    have hne : isoL fs (sortI (bfsF fs val)) ≠ [] := fun e => sortI_ne (bfsF_ne fs val) (by simpa [isoL] using e)
    obtain ⟨v1, v2⟩ := grow_nov hy hne rFault_nov
    refine ⟨.tup _ ?_, v2, fun hd => ⟨y, rfl, grow_un hy hd⟩⟩
    intro c hc
    simp only [List.mem_cons, List.not_mem_nil, or_false] at hc
    rcases hc with rfl | rfl
    · exact .agg _ fun c hc => by simp at hc; subst hc; exact v1
    · exact .lit _
theorem c_mresult (F H : AHeap) (bm : Nat) (t p : AV) (log : List Int) (fs : List Fault) (first : Int) (ed val : Int) (hM : Mach F H bm t p log fs first) (ho : heapOk fs) (hl : fs.length ≤ 999999) (hv : ed = 2 → 0 ≤ val ∧ val < fs.length) :
    ACalls Try.prog 33 [.ptr bm 5 0 0, .agg [I ed, I val]] H fun r H' => ∃ xl xh G1, r = .agg [xl, I ed, I (if ed = 2 then idxF (fun x => decide (val = x)) (sortI (bfsF fs val)) else val), xh] ∧ Grow rI 1 3 F G1 xl log ∧ Grow rFault 5 70 G1 H' xh (if ed = 2 then isoL fs (sortI (bfsF fs val)) else []) := by
  obtain ⟨xl, xf, H1, H2, hF, hg1, hg2, hb, rfl⟩ := hM
  obtain ⟨xl', hgl, hclip⟩ := c_ClipX log xl F H1 hg1
  obtain ⟨r1, r2⟩ := one_grow hgl
  refine acalls_of1 Try.func33 rfl (by kernel_rfl) rfl rfl (awp_sound (fz := fun _ => []) (im := fun s => s == 3) mixed _ _ _ _ (by kernel_rfl) ?_)
  simp +contextual -dsimp -implicitDefEqProofs (maxSteps := 5000000) only [go_sem, reduceIte, reduceCtorEq, Nat.reduceEqDiff, Nat.reduceBEq, Nat.reduceAdd, Nat.reduceLeDiff, Nat.reduceMul, Nat.reduceLT, Int.reduceEq, Int.reduceLT, Int.reduceLE]
  rintro b4 ⟨n1, n2, hb4⟩
  refine draw_introQ [4] [0, 0, 0, 1, 4, 0, 1, 0, 1, 0, 3, 2] (fun _ => xl') _ (by kernel_rfl) (AHeap.le_refl _) ?_
  simp +contextual -dsimp -implicitDefEqProofs (maxSteps := 5000000) only [go_sem, reduceIte, reduceCtorEq, Nat.reduceEqDiff, Nat.reduceBEq, Nat.reduceAdd, Nat.reduceLeDiff, Nat.reduceMul, Nat.reduceLT, Int.reduceEq, Int.reduceLT, Int.reduceLE, n1, n2]
  refine ⟨fun H' _ => hclip H', ?_⟩
  simp +contextual -dsimp -implicitDefEqProofs (maxSteps := 5000000) only [go_sem, reduceIte, reduceCtorEq, Nat.reduceEqDiff, Nat.reduceBEq, Nat.reduceAdd, Nat.reduceLeDiff, Nat.reduceMul, Nat.reduceLT, Int.reduceEq, Int.reduceLT, Int.reduceLE, n1, n2, r1, r2]
  rintro b5 ⟨m1, m2, m3, m4, hb5⟩
  have hbm5 : (H2.set bm ⟨5, 89, [[t, p, xl, xf, I first]]⟩) b5 = none := by rw [set_other m3]; exact hb5
  have hbm4 : (H2.set bm ⟨5, 89, [[t, p, xl, xf, I first]]⟩) b4 = none := by rw [set_other n1]; exact hb4
  have hle0 : ∀ K L : ABlk, AHeap.le ((H2.set bm ⟨5, 89, [[t, p, xl, xf, I first]]⟩).set b4 K) (((H2.set bm ⟨5, 89, [[t, p, xl, xf, I first]]⟩).set b4 K).set b5 L) := fun K L => le_set (by rw [set_other m1]; exact hbm5)
  by_cases he : ed = 2
  · obtain ⟨v1, v2⟩ := hv he
    simp +contextual -dsimp -implicitDefEqProofs (maxSteps := 5000000) only [go_sem, reduceIte, reduceCtorEq, Nat.reduceEqDiff, Nat.reduceBEq, Nat.reduceAdd, Nat.reduceLeDiff, Nat.reduceMul, Nat.reduceLT, Int.reduceEq, Int.reduceLT, Int.reduceLE, n1, n2, m1, m2, m3, m4, r1, r2, he]
    refine ⟨hle0 _ _, ?_⟩
    refine draw_intro [0, 0, 0, 0, 0, 0, 2, 0, 0, 0, 0, 2, 0, 2] AHeap.none (by kernel_rfl) none_le ?_
    simp +contextual -dsimp -implicitDefEqProofs (maxSteps := 5000000) only [go_sem, reduceIte, reduceCtorEq, Nat.reduceEqDiff, Nat.reduceBEq, Nat.reduceAdd, Nat.reduceLeDiff, Nat.reduceMul, Nat.reduceLT, Int.reduceEq, Int.reduceLT, Int.reduceLE, n1, n2, m1, m2, m3, m4, r1, r2, he]
    refine (c_misolateG fs xf val _ _ (grow_in (grow_in (grow_in hg2 hb) hbm4) (by rw [set_other m1]; exact hbm5)) ⟨0, 0, []⟩ 0 ho hl v1 v2).mono ?_
    rintro _ H' ⟨y, rfl, hy⟩
    obtain ⟨G1, hy1, rfl, u5⟩ := grow_out hy (by rw [set_other m1]; exact hbm5)
    obtain ⟨G2, hy2, rfl, u4⟩ := grow_out hy1 hbm4
    obtain ⟨G3, hy3, rfl, u3⟩ := grow_out hy2 hb
    obtain ⟨G4, hy4, hy5⟩ := grow_swap hg2 hy3
    obtain ⟨r3, r4⟩ := one_grow hy4
    simp +contextual -dsimp -implicitDefEqProofs (maxSteps := 5000000) only [go_sem, reduceIte, reduceCtorEq, Nat.reduceEqDiff, Nat.reduceBEq, Nat.reduceAdd, Nat.reduceLeDiff, Nat.reduceMul, Nat.reduceLT, Int.reduceEq, Int.reduceLT, Int.reduceLE, n1, n2, m1, m2, m3, m4, r1, r2, r3, r4, he]
    refine retR_less (l := [.agg [xl', I 2, I (idxF (fun x => decide (val = x)) (sortI (bfsF fs val))), y]]) (H' := G4) ?_ ?_ ⟨xl', y, H1, rfl, hgl, hy4⟩
    · simp only [resA, go_sem, reduceIte, reduceCtorEq, Nat.reduceEqDiff, Nat.reduceBEq, Nat.reduceAdd, Nat.reduceLeDiff, Nat.reduceMul, Nat.reduceLT, Int.reduceEq, Int.reduceLT, Int.reduceLE, n1, n2, m1, m2, m3, m4]
    · refine AHeap.le_trans (grow_le hy5) (AHeap.le_trans (le_set u3) (AHeap.le_trans (le_set u4) (le_set (by rw [set_other m1] at u5 ⊢; exact u5))))
  · simp +contextual -dsimp -implicitDefEqProofs (maxSteps := 5000000) only [go_sem, reduceIte, reduceCtorEq, Nat.reduceEqDiff, Nat.reduceBEq, Nat.reduceAdd, Nat.reduceLeDiff, Nat.reduceMul, Nat.reduceLT, Int.reduceEq, Int.reduceLT, Int.reduceLE, n1, n2, m1, m2, m3, m4, r1, r2, he]
    refine ⟨hle0 _ _, ?_⟩
    refine retR_less (l := [.agg [xl', I ed, I val, .vsl [] true]]) (H' := H1) ?_ ?_ ⟨xl', .vsl [] true, H1, rfl, hgl, .inl ⟨rfl, rfl, rfl⟩⟩
    · simp only [resA, go_sem, reduceIte, reduceCtorEq, Nat.reduceEqDiff, Nat.reduceBEq, Nat.reduceAdd, Nat.reduceLeDiff, Nat.reduceMul, Nat.reduceLT, Int.reduceEq, Int.reduceLT, Int.reduceLE, n1, n2, m1, m2, m3, m4]
    · exact AHeap.le_trans (grow_le hg2) (AHeap.le_trans (le_set hb) (AHeap.le_trans (le_set hbm4) (hle0 _ _)))
end Go.Proofs.Ytihjbbiajggcoaa
end
section
set_option linter.unusedVariables false
set_option linter.unusedSimpArgs false
namespace Go.Proofs.Ytihjbbiajggcoaa
open Go Go.Sim
set_option maxRecDepth 100000
attribute [local go_sem ↓] aw_skip aw_ret aw_exit aw_region aw_draw aw_seq aw_block aw_loop aw_cond frz_nil frz_cons sq_normal sq_ret sq_exit exB_normal exB_ret exB_same exB_other retQ_ret retQ_normal ret0_ret ret0_normal ao_nil go1 g_move g_assign g_pick g_build g_load g_binOp g_unOp g_convert g_fieldAddr g_field g_indexAddr g_index g_extract g_slice g_nilCheck g_len g_makeFunc h_call h_append h_alloc h_box h_buildSlice h_makeSlice h_store gV i_box i_buildSlice i_move i_assign i_build i_load i_binOp i_unOp i_convert i_fieldAddr i_field i_indexAddr i_index i_extract i_slice i_nilCheck i_makeFunc i_len i_max i_min i_alloc i_makeSlice i_store i_append i_call i_pick boxI boxA buildSliceI buildSliceA makeSliceA allocA storeA p_move p_assign p_pick p_build p_load p_binOp p_unOp p_convert p_fieldAddr p_field p_indexAddr p_index p_extract p_slice p_nilCheck p_makeFunc p_len p_max p_min p_alloc p_box p_buildSlice p_makeSlice p_store p_append p_call x_nil x_go1 x_g0 x_g1 x_g2 x_g3 x_s0 x_s1 x_s2 x_s3 u_move u_assign u_pick u_build u_load u_binOp u_unOp u_convert u_fieldAddr u_field u_indexAddr u_index u_extract u_slice u_nilCheck u_makeFunc u_len u_buildSlice x_s4 x_g4 rq_normal rq_ret rq_exit aw_range
attribute [local go_sem] frzV_sl frzK_some set_none set_other AHeap.set_self set_del set_set cnd_t cnd_f cnd_b retA_one retA_two retA_three retA_four retA_nil gIf_b mrgV_b mrgV_wh mrgV_U gIf_U gIf_wh mrgB_f mrgB_some mrgB_if wh_true wh_false keepA_some keepA_if gD_zero gD_succ gT_some bxA_t bxA_f callA_fn ev_tmp ev_const ev_global ev_func oc_bool oc_int oc_string oc_nil oc_nilptr oc_nilfunc cl_bool cl_int cl_string cl_nil updO_some updO_none upd_same upd_other init_at pickA_b pickA_wh selA_t selA_f selA_and selA_or selA_orn selA_orm selA_bb selA_ii beqt b_add b_sub b_mul b_and b_or b_xor b_eql b_neq b_lss b_leq b_gtr b_geq b_quo b_rem b_shr b_seql b_sneq b_sadd b_beql b_bneq b_aeql b_aneq u_not u_neg isConstOp eqA eqCellV List.getD_cons_zero List.getD_cons_succ List.map_cons List.map_nil List.nil_append List.cons_append List.append_nil if_true if_false Option.map_some Option.map_none ne_eq not_false_eq_true oneA ldv ld1v ld1s wr1s ldRow stRow row_lit row_agg row_vsl row_sl row_ptr row_fn one_I one_B one_S one_vsl one_sl one_ptr one_fn extractA okA rI rS rU rClass rFault rExit rStart rLine Int.toNat_natCast List.length_cons List.length_nil List.length_map List.all_cons List.all_nil Bool.and_true Nat.zero_add List.getElem?_cons_zero List.getElem?_cons_succ List.take_succ_cons List.take_zero List.drop_succ_cons List.drop_zero and_self true_and and_true implies_true decide_eq_true_eq decide_eq_false_iff_not Bool.or_eq_true Bool.or_eq_false_iff Bool.and_eq_true Bool.not_eq_true' Bool.not_eq_false' beq_false decide_true decide_false Int.ofNat_lt Int.ofNat_le Int.natCast_nonneg Bool.or_true Bool.or_false Bool.true_or Bool.false_or beq_self_eq_true List.drop_one Bool.not_true Bool.not_false Bool.not_not Bool.false_eq_true Bool.true_eq_false false_implies true_implies Bool.true_and Bool.false_and Bool.and_false not_true_eq_false Int.natCast_eq_zero Int.natCast_pos Int.natCast_zero false_and and_false or_false false_or or_true true_or Bool.or_self none_le_iff List.replicate_zero Int.toNat_zero List.replicate_succ buildRows List.set_cons_zero List.set_cons_succ List.set_nil List.mapM_nil maxLen_eq Nat.zero_le Nat.mul_one Nat.one_mul bldA fillA spliceA List.take_nil List.drop_nil List.getElem?_nil ld1o wr1o bldSliceA le_same cv_i cvI_t quietT_fn qvd_some ld_o ldO_1 ldO_l wr_o wrO_1 set_2 set_3 set_4 putL_nil putL_cons List.zip_cons_cons List.zip_nil_left List.zip_nil_right List.toList_toArray frzV_set ti1 ti2 tk2 ti3 te3 ts3 tk3 tz3 ti4 tb4 ti5 tk5 tz5 ti9 te9 ts9 tk9 tz9 ti12 tk12 ti13 tp13 tf13_0 tf13_1 ti20 ti21 tk21 tz21 ti22 te22 tz22 ti23 te23 ti24 tp24 tf24_0 ti25 tp25 tf25_0 ti26 te26 ti27 tq27 tp27 tf27_0 tf27_1 tf27_2 ti28 tq28 tp28 tf28_0 tf28_1 tf28_2 ti30 ti31 te31 ti32 te32 ti33 tp33 tf33_0 ti34 tp34 tf34_0 ti35 tp35 tf35_0 tf35_1 tf35_2 tf35_3 ti36 tp36 tf36_0 tf36_1 tf36_2 tf36_3 ti37 ti38 ti39 ti40 tq40 tp40 tf40_0 tf40_1 tf40_2 ti41 tq41 tp41 tf41_0 tf41_1 tf41_2 ti42 ti43 ti44 ti45 ti47 ti48 ti49 ti50 ti51 ti52 ti53 ti54 ti55 tp55 tf55_0 tf55_1 ti56 tp56 tf56_0 tf56_1 ti57 ti58 ti59 ti60 ti61 ti62 ti63 ti64 ti65 ti66 ti67 tq67 tp67 tf67_0 tf67_1 ti68 tq68 tp68 tf68_0 tf68_1 ti69 tq69 tp69 tf69_0 tf69_1 tf69_2 tf69_3 tf69_4 ti70 tq70 tp70 tf70_0 tf70_1 tf70_2 tf70_3 tf70_4 ti71 ti72 tp72 tf72_0 tf72_1 tf72_2 ti73 tp73 tf73_0 tf73_1 tf73_2 ti74 ti75 ti77 ti78 tq78 tp78 tf78_0 tf78_1 ti79 tq79 tp79 tf79_0 tf79_1 ti80 ti81 ti82 ti83 ti84 ti85 te85 ti86 ti87 te87 ti88 tp88 tf88_0 tf88_1 tf88_2 tf88_3 tf88_4 ti89 tp89 tf89_0 tf89_1 tf89_2 tf89_3 tf89_4 ti90 ti91 ti92 ti93 ti94 ti95 ti96 ti97 ti98 ti99 ti100 ti101 ti102 ti103 ti104 ti105 ti106 ti107 ti108 ti109 ti110 ti111 ti112 ti113 ti114 ti115 ti116 tk116 tz116 ti117 ti118 tk118 ti120 ti121 ti122 ti124 ti125 ti126 tk126 tz126 ti127 ti128 tk128 tz128 ti129 tk129 ti130 ti131 ti132 ti133 ti134 ti135 ti137 ti138 ti144 ti148 ti153 ti154 tq154 tp154 tf154_0 tf154_1 tf154_2 tf154_3 ti155 tq155 tp155 tf155_0 tf155_1 tf155_2 tf155_3 ti157 fp13_0 fv13_0 fp13_1 fv13_1 fp24_0 fv24_0 fp25_0 fv25_0 fp27_0 fv27_0 fp27_1 fv27_1 fp27_2 fv27_2 fp28_0 fv28_0 fp28_1 fv28_1 fp28_2 fv28_2 fp33_0 fv33_0 fp34_0 fv34_0 fp35_0 fv35_0 fp35_1 fv35_1 fp35_2 fv35_2 fp35_3 fv35_3 fp36_0 fv36_0 fp36_1 fv36_1 fp36_2 fv36_2 fp36_3 fv36_3 fp40_0 fv40_0 fp40_1 fv40_1 fp40_2 fv40_2 fp41_0 fv41_0 fp41_1 fv41_1 fp41_2 fv41_2 fp55_0 fv55_0 fp55_1 fv55_1 fp56_0 fv56_0 fp56_1 fv56_1 fp67_0 fv67_0 fp67_1 fv67_1 fp68_0 fv68_0 fp68_1 fv68_1 fp69_0 fv69_0 fp69_1 fv69_1 fp69_2 fv69_2 fp69_3 fv69_3 fp69_4 fv69_4 fp70_0 fv70_0 fp70_1 fv70_1 fp70_2 fv70_2 fp70_3 fv70_3 fp70_4 fv70_4 fp72_0 fv72_0 fp72_1 fv72_1 fp72_2 fv72_2 fp73_0 fv73_0 fp73_1 fv73_1 fp73_2 fv73_2 fp78_0 fv78_0 fp78_1 fv78_1 fp79_0 fv79_0 fp79_1 fv79_1 fp88_0 fv88_0 fp88_1 fv88_1 fp88_2 fv88_2 fp88_3 fv88_3 fp88_4 fv88_4 fp89_0 fv89_0 fp89_1 fv89_1 fp89_2 fv89_2 fp89_3 fv89_3 fp89_4 fv89_4 fp154_0 fv154_0 fp154_1 fv154_1 fp154_2 fv154_2 fp154_3 fv154_3 fp155_0 fv155_0 fp155_1 fv155_1 fp155_2 fv155_2 fp155_3 fv155_3 lv22 ll22 is22 ix22 sh22 so22 sb22 sm22 sp22 lv23 ll23 is23 ix23 sh23 so23 sb23 sm23 sp23 lv26 ll26 is26 ix26 sh26 so26 sb26 sm26 sp26 lv31 ll31 is31 ix31 sh31 so31 sb31 sm31 sp31 lv32 ll32 is32 ix32 sh32 so32 sb32 sm32 sp32 lv85 ll85 is85 ix85 sh85 so85 sb85 sm85 sp85 lv87 ll87 is87 ix87 sh87 so87 sb87 sm87 sp87 xs9 ls9 sx9 sy9 sz9

/-- A result of its own blocks. -/
def OwnRes (F H : AHeap) (r : AV) (R : Res) : Prop := ∃ xl xh G1, r = .agg [xl, I R.ed, I R.val, xh] ∧ Grow rI 1 3 F G1 xl R.log ∧ Grow rFault 5 70 G1 H xh R.heap
def res0 : Res := ⟨[], 0, 0, []⟩
theorem own0 (H : AHeap) : OwnRes H H (.agg [.vsl [] true, I 0, I 0, .vsl [] true]) res0 := ⟨_, _, H, rfl, .inl ⟨rfl, rfl, rfl⟩, .inl ⟨rfl, rfl, rfl⟩⟩
theorem own_in {F H : AHeap} {r : AV} {R : Res} {c : Nat} {K : ABlk} (h : OwnRes F H r R) (hc : H c = none) : OwnRes (F.set c K) (H.set c K) r R := by
  obtain ⟨xl, xh, G1, h1, h2, h3⟩ := h
  exact ⟨xl, xh, G1.set c K, h1, grow_in h2 (grow_none h3 hc), grow_in h3 hc⟩
theorem own_out {F H : AHeap} {r : AV} {R : Res} {c : Nat} {K : ABlk} (h : OwnRes (F.set c K) H r R) (hc : F c = none) : ∃ H', H = H'.set c K ∧ OwnRes F H' r R ∧ H' c = none := by
  obtain ⟨xl, xh, G1, h1, h2, h3⟩ := h
  obtain ⟨G2, k1, rfl, k2⟩ := grow_out h2 hc
  obtain ⟨G3, k3, rfl, k4⟩ := grow_out h3 k2
  exact ⟨G3, rfl, ⟨xl, xh, G2, h1, k1, k3⟩, k4⟩
theorem own_row {F H : AHeap} {r : AV} {R : Res} (h : OwnRes F H r R) : ∃ xl xh, r = .agg [xl, I R.ed, I R.val, xh] ∧ xl.one = true ∧ xh.one = true := by
  obtain ⟨xl, xh, G1, h1, h2, h3⟩ := h
  exact ⟨xl, xh, h1, (one_grow h2).2, (one_grow h3).2⟩
abbrev aRes (R : Res) (c1 c2 : Bool) : AV := .agg [.vsl (R.log.map rI) c1, I R.ed, I R.val, .vsl (R.heap.map rFault) c2]
theorem own_frz {P : Program} {f : FuncId} {args : List AV} {H : AHeap} {R : Res} (h : ACalls P f args H fun r H' => OwnRes H H' r R) : ACalls P f args H fun r H' => (∃ c1 c2, r = aRes R c1 c2) ∧ H' = H := by
  refine acalls_fz h ?_
  rintro _ H' ⟨xl, xh, G1, rfl, h2, h3⟩
  have hle := AHeap.le_trans (grow_le h2) (grow_le h3)
  obtain ⟨c2, z2⟩ := grow_fz h3
  have hz1 : ∃ c1, Fz H' H xl (.vsl (R.log.map rI) c1) := by
    rcases h2 with ⟨e1, e2, e3⟩ | ⟨b, cl, hb, rfl, rfl⟩
    · rw [e1, e2]; exact ⟨true, .same _⟩
    · refine ⟨cl, ?_⟩
      have hk : H' b = some ⟨1, 3, R.log.map rI⟩ := grow_le h3 b _ (AHeap.set_self ..)
      have := Fz.sl (H := H') (K := H) (b := b) (sz := 1) (off := 0) (len := R.log.length) (cl := cl) hk rfl (by simp) hb
      simpa [List.take_of_length_le] using this
  have hz2 : ∃ c2, Fz H' H xh (.vsl (R.heap.map rFault) c2) := by
    rcases h3 with ⟨e1, e2, e3⟩ | ⟨b, cl, hb, rfl, rfl⟩
    · rw [e1, e2]; exact ⟨true, .same _⟩
    · refine ⟨cl, ?_⟩
      have hn : H b = none := by
        cases hq : H b with
        | none => rfl
        | some k => rw [grow_le h2 b k hq] at hb; cases hb
      have := Fz.sl (H := G1.set b ⟨5, 70, R.heap.map rFault⟩) (K := H) (b := b) (sz := 5) (off := 0) (len := R.heap.length) (cl := cl) (AHeap.set_self ..) rfl (by simp) hn
      simpa [List.take_of_length_le] using this
  obtain ⟨c1, z1⟩ := hz1
  obtain ⟨c2, z2⟩ := hz2
  exact ⟨_, H, hle, fz_agg (.cons z1 (.cons (.same _) (.cons (.same _) (.cons z2 .nil)))), ⟨c1, c2, rfl⟩, rfl⟩

/-- What the program's exits end with. -/
def resM (s : Clo) : Res :=
  if 0 ≤ s.cur then ⟨s.log, 2, idxF (fun x => decide (s.cur = x)) (sortI (bfsF s.fs s.cur)), isoL s.fs (sortI (bfsF s.fs s.cur))⟩ else ⟨s.log, 0, 0, []⟩
theorem closeX_ok {t : List Class} {l : List Exi} {x : Sta} (hv : validX t l = true) (hs : startOk t x = true) : CloOk t (closeX t l x) l.length := by
  have key : ∀ k, k ≤ l.length → CloOk t ((l.reverse.take k).foldl (stepX t) (startX x)) k := by
    intro k
    induction k with
    | zero => intro _; exact CloOk.start hs
    | succ k ih =>
      intro hk
      rw [rev_take hk, List.foldl_append]
      exact (ih (by omega)).step (validX_at hv (by omega))
  have := key l.length (Nat.le_refl _)
  rw [List.take_of_length_le (by simp)] at this
  exact this
theorem c_mcloseExits (t : List Class) (cl : Bool) (l : List Exi) (cl' : Bool) (x : Sta) (H : AHeap) (hv : validX t l = true) (hs : startOk t x = true) :
    ACalls Try.prog 15 [aTree t cl, .vsl (l.map rExit) cl', .agg (rStart x)] H fun r H' => OwnRes H H' r (resM (closeX t l x)) := by
  have hok := closeX_ok hv hs
  have hl8 := (validX_T hv).2
  refine acalls_of1 Try.func15 rfl (by kernel_rfl) rfl rfl (awp_sound (fz := fun _ => []) (im := fun s => s == 3 || s == 5) mixed _ _ _ _ (by kernel_rfl) ?_)
  simp +contextual -dsimp -implicitDefEqProofs (maxSteps := 5000000) only [go_sem, reduceIte, reduceCtorEq, Nat.reduceEqDiff, Nat.reduceBEq, Nat.reduceAdd, Nat.reduceLeDiff, Nat.reduceMul, Nat.reduceLT, Int.reduceEq, Int.reduceLT, Int.reduceLE]
  intro b6 hb6
  refine (c_machineOf t cl _ [] true).mono ?_
  rintro _ H1 ⟨bm, rfl, hM⟩
  simp +contextual -dsimp -implicitDefEqProofs (maxSteps := 5000000) only [go_sem, reduceIte, reduceCtorEq, Nat.reduceEqDiff, Nat.reduceBEq, Nat.reduceAdd, Nat.reduceLeDiff, Nat.reduceMul, Nat.reduceLT, Int.reduceEq, Int.reduceLT, Int.reduceLE]
  refine (c_mclosed _ H1 bm t cl _ (-1) l cl' x hM hv hs).mono ?_
  rintro _ H2 ⟨rfl, hM2⟩
  generalize closeX t l x = s at hok hM2 ⊢
  have hcur := hok.cur
  have hlen := hok.len
  by_cases hc : s.cur < 0
  · simp +contextual -dsimp -implicitDefEqProofs (maxSteps := 5000000) only [go_sem, reduceIte, reduceCtorEq, Nat.reduceEqDiff, Nat.reduceBEq, Nat.reduceAdd, Nat.reduceLeDiff, Nat.reduceMul, Nat.reduceLT, Int.reduceEq, Int.reduceLT, Int.reduceLE, hc]
    refine (c_mresult _ H2 bm _ _ s.log s.fs (-1) 0 0 hM2 hok.ho (by omega) (by simp)).mono ?_
    rintro r H3 hr
    have hr' : OwnRes (H.set b6 ⟨4, 36, [[.vsl [] true, I 0, I 0, .vsl [] true]]⟩) H3 r (resM s) := by
      obtain ⟨xl, xh, G1, h1, h2, h3⟩ := hr
      refine ⟨xl, xh, G1, ?_, ?_, ?_⟩
      · rw [h1]; simp [resM, show ¬ 0 ≤ s.cur by omega]
      · simpa [resM, show ¬ 0 ≤ s.cur by omega] using h2
      · simpa [resM, show ¬ 0 ≤ s.cur by omega] using h3
    obtain ⟨H4, rfl, hown, hn⟩ := own_out hr' hb6
    obtain ⟨xl, xh, rfl, o1, o2⟩ := own_row hown
    simp +contextual -dsimp -implicitDefEqProofs (maxSteps := 5000000) only [go_sem, reduceIte, reduceCtorEq, Nat.reduceEqDiff, Nat.reduceBEq, Nat.reduceAdd, Nat.reduceLeDiff, Nat.reduceMul, Nat.reduceLT, Int.reduceEq, Int.reduceLT, Int.reduceLE, hc, o1, o2]
    refine retR_less (l := [.agg [xl, I (resM s).ed, I (resM s).val, xh]]) (H' := H4) ?_ (le_set hn) hown
    simp only [resA, go_sem, reduceIte, reduceCtorEq, Nat.reduceEqDiff, Nat.reduceBEq, Nat.reduceAdd, Nat.reduceLeDiff, Nat.reduceMul, Nat.reduceLT, Int.reduceEq, Int.reduceLT, Int.reduceLE]
  · have h0 : 0 ≤ s.cur := by omega
    simp +contextual -dsimp -implicitDefEqProofs (maxSteps := 5000000) only [go_sem, reduceIte, reduceCtorEq, Nat.reduceEqDiff, Nat.reduceBEq, Nat.reduceAdd, Nat.reduceLeDiff, Nat.reduceMul, Nat.reduceLT, Int.reduceEq, Int.reduceLT, Int.reduceLE, hc]
    refine (c_mresult _ H2 bm _ _ s.log s.fs (-1) 2 s.cur hM2 hok.ho (by omega) (fun _ => ⟨h0, hcur⟩)).mono ?_
    rintro r H3 hr
    have hr' : OwnRes (H.set b6 ⟨4, 36, [[.vsl [] true, I 0, I 0, .vsl [] true]]⟩) H3 r (resM s) := by
      obtain ⟨xl, xh, G1, h1, h2, h3⟩ := hr
      refine ⟨xl, xh, G1, ?_, ?_, ?_⟩
      · rw [h1]; simp [resM, h0]
      · simpa [resM, h0] using h2
      · simpa [resM, h0] using h3
    obtain ⟨H4, rfl, hown, hn⟩ := own_out hr' hb6
    obtain ⟨xl, xh, rfl, o1, o2⟩ := own_row hown
    simp +contextual -dsimp -implicitDefEqProofs (maxSteps := 5000000) only [go_sem, reduceIte, reduceCtorEq, Nat.reduceEqDiff, Nat.reduceBEq, Nat.reduceAdd, Nat.reduceLeDiff, Nat.reduceMul, Nat.reduceLT, Int.reduceEq, Int.reduceLT, Int.reduceLE, hc, o1, o2]
    refine retR_less (l := [.agg [xl, I (resM s).ed, I (resM s).val, xh]]) (H' := H4) ?_ (le_set hn) hown
    simp only [resA, go_sem, reduceIte, reduceCtorEq, Nat.reduceEqDiff, Nat.reduceBEq, Nat.reduceAdd, Nat.reduceLeDiff, Nat.reduceMul, Nat.reduceLT, Int.reduceEq, Int.reduceLT, Int.reduceLE]
theorem c_mCloseExits (t : List Class) (cl : Bool) (l : List Exi) (cl' : Bool) (x : Sta) (H : AHeap) (hn : namesOk t) :
    ACalls Try.prog 6 [aTree t cl, .vsl (l.map rExit) cl', .agg (rStart x)] H fun r H' => OwnRes H H' r (if (validX t l && startOk t x) = true then resM (closeX t l x) else res0) := by
  refine acalls_of1 Try.func6 rfl (by kernel_rfl) rfl rfl (awp_sound (fz := fun _ => []) (im := fun s => s == 3 || s == 5) mixed _ _ _ _ (by kernel_rfl) ?_)
  simp +contextual -dsimp -implicitDefEqProofs (maxSteps := 5000000) only [go_sem, reduceIte, reduceCtorEq, Nat.reduceEqDiff, Nat.reduceBEq, Nat.reduceAdd, Nat.reduceLeDiff, Nat.reduceMul, Nat.reduceLT, Int.reduceEq, Int.reduceLT, Int.reduceLE]
  intro b6 hb6
  refine (c_ValidExits t cl l cl' _ hn).det ?_
  cases hv : validX t l
  · simp +contextual -dsimp -implicitDefEqProofs (maxSteps := 5000000) only [go_sem, reduceIte, reduceCtorEq, Nat.reduceEqDiff, Nat.reduceBEq, Nat.reduceAdd, Nat.reduceLeDiff, Nat.reduceMul, Nat.reduceLT, Int.reduceEq, Int.reduceLT, Int.reduceLE]
    refine retR_less (l := [.agg [.vsl [] true, I 0, I 0, .vsl [] true]]) (H' := H) ?_ (le_set hb6) (own0 H)
    simp only [resA, go_sem, reduceIte, reduceCtorEq, Nat.reduceEqDiff, Nat.reduceBEq, Nat.reduceAdd, Nat.reduceLeDiff, Nat.reduceMul, Nat.reduceLT, Int.reduceEq, Int.reduceLT, Int.reduceLE]
  · simp +contextual -dsimp -implicitDefEqProofs (maxSteps := 5000000) only [go_sem, reduceIte, reduceCtorEq, Nat.reduceEqDiff, Nat.reduceBEq, Nat.reduceAdd, Nat.reduceLeDiff, Nat.reduceMul, Nat.reduceLT, Int.reduceEq, Int.reduceLT, Int.reduceLE]
    refine (c_startValid t cl x _).det ?_
    cases hs : startOk t x
    · simp +contextual -dsimp -implicitDefEqProofs (maxSteps := 5000000) only [go_sem, reduceIte, reduceCtorEq, Nat.reduceEqDiff, Nat.reduceBEq, Nat.reduceAdd, Nat.reduceLeDiff, Nat.reduceMul, Nat.reduceLT, Int.reduceEq, Int.reduceLT, Int.reduceLE]
      refine retR_less (l := [.agg [.vsl [] true, I 0, I 0, .vsl [] true]]) (H' := H) ?_ (le_set hb6) (own0 H)
      simp only [resA, go_sem, reduceIte, reduceCtorEq, Nat.reduceEqDiff, Nat.reduceBEq, Nat.reduceAdd, Nat.reduceLeDiff, Nat.reduceMul, Nat.reduceLT, Int.reduceEq, Int.reduceLT, Int.reduceLE]
    · simp +contextual -dsimp -implicitDefEqProofs (maxSteps := 5000000) only [go_sem, reduceIte, reduceCtorEq, Nat.reduceEqDiff, Nat.reduceBEq, Nat.reduceAdd, Nat.reduceLeDiff, Nat.reduceMul, Nat.reduceLT, Int.reduceEq, Int.reduceLT, Int.reduceLE]
      refine (c_mcloseExits t cl l cl' x _ hv hs).mono ?_
      rintro r H3 hr
      obtain ⟨H4, rfl, hown, hn⟩ := own_out hr hb6
      obtain ⟨xl, xh, rfl, o1, o2⟩ := own_row hown
      simp +contextual -dsimp -implicitDefEqProofs (maxSteps := 5000000) only [go_sem, reduceIte, reduceCtorEq, Nat.reduceEqDiff, Nat.reduceBEq, Nat.reduceAdd, Nat.reduceLeDiff, Nat.reduceMul, Nat.reduceLT, Int.reduceEq, Int.reduceLT, Int.reduceLE, o1, o2]
      refine retR_less (l := [.agg [xl, I (resM (closeX t l x)).ed, I (resM (closeX t l x)).val, xh]]) (H' := H4) ?_ (le_set hn) hown
      simp only [resA, go_sem, reduceIte, reduceCtorEq, Nat.reduceEqDiff, Nat.reduceBEq, Nat.reduceAdd, Nat.reduceLeDiff, Nat.reduceMul, Nat.reduceLT, Int.reduceEq, Int.reduceLT, Int.reduceLE]
theorem c_closed (t : List Class) (cl : Bool) (l : List Exi) (cl' : Bool) (x : Sta) (H : AHeap) (hv : validX t l = true) (hs : startOk t x = true) :
    ACalls Try.prog 19 [aTree t cl, .vsl (l.map rExit) cl', .agg (rStart x)] H fun r H' => (∃ c1 c2, r = aRes (resX (closeX t l x)) c1 c2) ∧ H' = H := by
  refine acalls_fz (c_closed0 t cl l cl' x H hv hs) ?_
  rintro _ H' ⟨xl, c2, rfl, hg⟩
  obtain ⟨c1, hz⟩ := grow_fz hg
  have e : (resX (closeX t l x)).log = (closeX t l x).log := by unfold resX; split <;> rfl
  exact ⟨_, H, grow_le hg, fz_agg (.cons hz (.refl _)), ⟨c1, c2, by simp only [aRes, e]⟩, rfl⟩
theorem c_sCloseExits (t : List Class) (cl : Bool) (l : List Exi) (cl' : Bool) (x : Sta) (H : AHeap) (hn : namesOk t) :
    ACalls Try.prog 8 [aTree t cl, .vsl (l.map rExit) cl', .agg (rStart x)] H fun r H' => (∃ c1 c2, r = aRes (if (validX t l && startOk t x) = true then resX (closeX t l x) else res0) c1 c2) ∧ H' = H := by
  refine acalls_of1 Try.func8 rfl (by kernel_rfl) rfl rfl (awp_sound (fz := fun _ => []) (im := fun s => s == 3 || s == 5) mixed _ _ _ _ (by kernel_rfl) ?_)
  simp +contextual -dsimp -implicitDefEqProofs (maxSteps := 5000000) only [go_sem, reduceIte, reduceCtorEq, Nat.reduceEqDiff, Nat.reduceBEq, Nat.reduceAdd, Nat.reduceLeDiff, Nat.reduceMul, Nat.reduceLT, Int.reduceEq, Int.reduceLT, Int.reduceLE]
  intro b6 hb6
  refine (c_goodClose t cl l cl' x _ hn).det ?_
  cases hv : validX t l && startOk t x
  · simp +contextual -dsimp -implicitDefEqProofs (maxSteps := 5000000) only [go_sem, reduceIte, reduceCtorEq, Nat.reduceEqDiff, Nat.reduceBEq, Nat.reduceAdd, Nat.reduceLeDiff, Nat.reduceMul, Nat.reduceLT, Int.reduceEq, Int.reduceLT, Int.reduceLE]
    refine retR_less (l := [.agg [.vsl [] true, I 0, I 0, .vsl [] true]]) (H' := H) ?_ (le_set hb6) ⟨⟨true, true, rfl⟩, rfl⟩
    simp only [resA, go_sem, reduceIte, reduceCtorEq, Nat.reduceEqDiff, Nat.reduceBEq, Nat.reduceAdd, Nat.reduceLeDiff, Nat.reduceMul, Nat.reduceLT, Int.reduceEq, Int.reduceLT, Int.reduceLE]
  · simp +contextual -dsimp -implicitDefEqProofs (maxSteps := 5000000) only [go_sem, reduceIte, reduceCtorEq, Nat.reduceEqDiff, Nat.reduceBEq, Nat.reduceAdd, Nat.reduceLeDiff, Nat.reduceMul, Nat.reduceLT, Int.reduceEq, Int.reduceLT, Int.reduceLE]
    simp only [Bool.and_eq_true] at hv
    refine (c_closed t cl l cl' x _ hv.1 hv.2).mono ?_
    rintro _ _ ⟨⟨c1, c2, rfl⟩, rfl⟩
    simp +contextual -dsimp -implicitDefEqProofs (maxSteps := 5000000) only [go_sem, reduceIte, reduceCtorEq, Nat.reduceEqDiff, Nat.reduceBEq, Nat.reduceAdd, Nat.reduceLeDiff, Nat.reduceMul, Nat.reduceLT, Int.reduceEq, Int.reduceLT, Int.reduceLE]
    refine retR_less (l := [aRes (resX (closeX t l x)) c1 c2]) (H' := H) ?_ (le_set hb6) ⟨⟨c1, c2, rfl⟩, rfl⟩
    simp only [resA, go_sem, reduceIte, reduceCtorEq, Nat.reduceEqDiff, Nat.reduceBEq, Nat.reduceAdd, Nat.reduceLeDiff, Nat.reduceMul, Nat.reduceLT, Int.reduceEq, Int.reduceLT, Int.reduceLE]
end Go.Proofs.Ytihjbbiajggcoaa
end
