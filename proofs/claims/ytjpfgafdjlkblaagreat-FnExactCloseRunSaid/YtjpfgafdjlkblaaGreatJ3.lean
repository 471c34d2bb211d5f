/- Walks and plain laws that the claims of this seat lean on. No condition. -/
import Derived.Test.YtjpfgafdjlkblaaGreatJ2
set_option linter.unusedVariables false
set_option linter.unusedSimpArgs false
namespace Go.Proofs.YtjpfgafdjlkblaaGreat
open Go Go.Sim
section
set_option maxRecDepth 100000
attribute [local go_sem ↓] aw_skip aw_ret aw_exit aw_region aw_draw aw_seq aw_block aw_loop aw_cond frz_nil frz_cons sq_normal sq_ret sq_exit exB_normal exB_ret exB_same exB_other retQ_ret retQ_normal ret0_ret ret0_normal ao_nil go1 g_move g_assign g_pick g_build g_load g_binOp g_unOp g_convert g_fieldAddr g_field g_indexAddr g_index g_extract g_lookup g_slice g_nilCheck g_len g_makeFunc h_call h_append h_alloc h_box h_buildSlice h_makeSlice h_store gV i_box i_buildSlice i_move i_assign i_build i_load i_binOp i_unOp i_convert i_fieldAddr i_field i_indexAddr i_index i_extract i_lookup i_makeMap i_mapUpdate i_slice i_nilCheck i_makeFunc i_len i_max i_min i_alloc i_makeSlice i_store i_append i_call i_pick boxI boxA buildSliceI buildSliceA makeSliceA makeMapA allocA storeA p_move p_assign p_pick p_build p_load p_binOp p_unOp p_convert p_fieldAddr p_field p_indexAddr p_index p_extract p_lookup p_makeMap p_mapUpdate p_slice p_nilCheck p_makeFunc p_len p_max p_min p_alloc p_box p_buildSlice p_makeSlice p_store p_append p_call x_nil x_go1 x_g0 x_g1 x_g2 x_g3 x_s0 x_s1 x_s2 x_s3 u_move u_assign u_pick u_build u_load u_binOp u_unOp u_convert u_fieldAddr u_field u_indexAddr u_index u_extract u_lookup u_slice u_nilCheck u_makeFunc u_len u_buildSlice x_s4 x_g4 rq_normal rq_ret rq_exit aw_range
attribute [local go_sem] frzV_sl frzK_some set_none set_other AHeap.set_self set_del set_set cnd_t cnd_f cnd_b retA_one retA_two retA_three retA_four retA_nil gIf_b mrgV_b mrgV_wh mrgV_U gIf_U gIf_wh mrgB_f mrgB_some mrgB_if wh_true wh_false keepA_some keepA_if gD_zero gD_succ gT_some bxA_t bxA_f callA_fn ev_tmp ev_const ev_global ev_func oc_bool oc_int oc_string oc_nil oc_nilptr oc_nilfunc cl_bool cl_int cl_string cl_nil updO_some updO_none upd_same upd_other init_at pickA_b pickA_wh selA_t selA_f selA_and selA_or selA_orn selA_orm selA_bb selA_ii beqt b_add b_sub b_mul b_and b_or b_xor b_eql b_neq b_lss b_leq b_gtr b_geq b_quo b_rem b_shr b_seql b_sneq b_sadd b_beql b_bneq b_aeql b_aneq u_not u_neg isConstOp eqA eqCellV List.getD_cons_zero List.getD_cons_succ List.map_cons List.map_nil List.nil_append List.cons_append List.append_nil if_true if_false Option.map_some Option.map_none ne_eq not_false_eq_true oneA ldv ld1v ld1s wr1s ldRow stRow row_lit row_agg row_vsl row_sl row_ptr row_fn one_I one_B one_S one_vsl one_sl one_ptr one_fn extractA okA rI rS rU rClass rFault rExit rStart rLine Int.toNat_natCast List.length_cons List.length_nil List.length_map List.all_cons List.all_nil Bool.and_true Nat.zero_add List.getElem?_cons_zero List.getElem?_cons_succ List.take_succ_cons List.take_zero List.drop_succ_cons List.drop_zero and_self true_and and_true implies_true decide_eq_true_eq decide_eq_false_iff_not Bool.or_eq_true Bool.or_eq_false_iff Bool.and_eq_true Bool.not_eq_true' Bool.not_eq_false' beq_false decide_true decide_false Int.ofNat_lt Int.ofNat_le Int.natCast_nonneg Bool.or_true Bool.or_false Bool.true_or Bool.false_or beq_self_eq_true List.drop_one Bool.not_true Bool.not_false Bool.not_not Bool.false_eq_true Bool.true_eq_false false_implies true_implies Bool.true_and Bool.false_and Bool.and_false not_true_eq_false Int.natCast_eq_zero Int.natCast_pos Int.natCast_zero false_and and_false or_false false_or or_true true_or Bool.or_self none_le_iff List.replicate_zero Int.toNat_zero List.replicate_succ buildRows List.set_cons_zero List.set_cons_succ List.set_nil List.mapM_nil maxLen_eq Nat.zero_le Nat.mul_one Nat.one_mul bldA fillA spliceA List.take_nil List.drop_nil List.getElem?_nil ld1o wr1o bldSliceA le_same cv_i cvI_t quietT_fn qvd_some ld_o ldO_1 ldO_l wr_o wrO_1 set_2 set_3 set_4 putL_nil putL_cons List.zip_cons_cons List.zip_nil_left List.zip_nil_right List.toList_toArray frzV_set ti1 ti2 tk2 ti3 te3 ts3 tk3 tz3 ti4 tb4 ti5 tk5 tz5 ti9 te9 ts9 tk9 tz9 ti20 ti22 te22 tz22 ti23 te23 ti25 tp25 tf25_0 ti26 te26 ti29 te29 ti30 te30 ti32 tp32 tf32_0 ti34 tp34 tf34_0 tf34_1 tf34_2 tf34_3 ti41 tq41 tp41 tf41_0 tf41_1 tf41_2 tf41_3 ti44 tq44 tp44 tf44_0 tf44_1 tf44_2 ti45 te45 ti47 tq47 tp47 tf47_0 tf47_1 tf47_2 ti56 te56 ti58 tp58 tf58_0 ti59 te59 ti71 te71 ti84 ti88 tq88 tp88 tf88_0 tf88_1 ti103 tq103 tp103 tf103_0 tf103_1 tf103_2 tf103_3 tf103_4 ti106 ti109 ti113 tq113 tp113 tf113_0 tf113_1 tf113_2 tf113_3 ti120 tq120 tp120 tf120_0 tf120_1 tf120_2 ti124 ti129 tp129 tf129_0 tf129_1 tf129_2 tf129_3 tf129_4 ti136 ti138 tp138 tf138_0 tf138_1 tf138_2 tf138_3 ti140 tq140 tp140 tf140_0 tf140_1 ti144 tq144 tp144 tf144_0 tf144_1 ti151 te151 ti159 tp159 tf159_0 tf159_1 tf159_2 ti164 ti165 ti167 ti169 tq169 tp169 tf169_0 tf169_1 ti186 ti202 ti205 tk205 tz205 ti209 tk209 ti217 tk217 tz217 ti219 tk219 tz219 ti220 tk220 ti224 ti226 fp13_0 fv13_0 fp13_1 fv13_1 fp24_0 fv24_0 fp25_0 fv25_0 fp31_0 fv31_0 fp32_0 fv32_0 fp33_0 fv33_0 fp33_1 fv33_1 fp33_2 fv33_2 fp33_3 fv33_3 fp34_0 fv34_0 fp34_1 fv34_1 fp34_2 fv34_2 fp34_3 fv34_3 fp40_0 fv40_0 fp40_1 fv40_1 fp40_2 fv40_2 fp40_3 fv40_3 fp41_0 fv41_0 fp41_1 fv41_1 fp41_2 fv41_2 fp41_3 fv41_3 fp43_0 fv43_0 fp43_1 fv43_1 fp43_2 fv43_2 fp44_0 fv44_0 fp44_1 fv44_1 fp44_2 fv44_2 fp46_0 fv46_0 fp46_1 fv46_1 fp46_2 fv46_2 fp47_0 fv47_0 fp47_1 fv47_1 fp47_2 fv47_2 fp57_0 fv57_0 fp58_0 fv58_0 fp72_0 fv72_0 fp72_1 fv72_1 fp72_2 fv72_2 fp87_0 fv87_0 fp87_1 fv87_1 fp88_0 fv88_0 fp88_1 fv88_1 fp102_0 fv102_0 fp102_1 fv102_1 fp102_2 fv102_2 fp102_3 fv102_3 fp102_4 fv102_4 fp103_0 fv103_0 fp103_1 fv103_1 fp103_2 fv103_2 fp103_3 fv103_3 fp103_4 fv103_4 fp113_0 fv113_0 fp113_1 fv113_1 fp113_2 fv113_2 fp113_3 fv113_3 fp120_0 fv120_0 fp120_1 fv120_1 fp120_2 fv120_2 fp126_0 fv126_0 fp126_1 fv126_1 fp127_0 fv127_0 fp127_1 fv127_1 fp128_0 fv128_0 fp128_1 fv128_1 fp128_2 fv128_2 fp128_3 fv128_3 fp128_4 fv128_4 fp129_0 fv129_0 fp129_1 fv129_1 fp129_2 fv129_2 fp129_3 fv129_3 fp129_4 fv129_4 fp137_0 fv137_0 fp137_1 fv137_1 fp137_2 fv137_2 fp137_3 fv137_3 fp138_0 fv138_0 fp138_1 fv138_1 fp138_2 fv138_2 fp138_3 fv138_3 fp139_0 fv139_0 fp139_1 fv139_1 fp140_0 fv140_0 fp140_1 fv140_1 fp143_0 fv143_0 fp143_1 fv143_1 fp144_0 fv144_0 fp144_1 fv144_1 fp158_0 fv158_0 fp158_1 fv158_1 fp158_2 fv158_2 fp159_0 fv159_0 fp159_1 fv159_1 fp159_2 fv159_2 fp169_0 fv169_0 fp169_1 fv169_1 lv22 ll22 is22 ix22 sh22 so22 sb22 sm22 sp22 lv23 ll23 is23 ix23 sh23 so23 sb23 sm23 sp23 lv26 ll26 is26 ix26 sh26 so26 sb26 sm26 sp26 lv29 ll29 is29 ix29 sh29 so29 sb29 sm29 sp29 lv30 ll30 is30 ix30 sh30 so30 sb30 sm30 sp30 lv45 ll45 is45 ix45 sh45 so45 sb45 sm45 sp45 lv56 ll56 is56 sp56 lv59 ll59 is59 sp59 lv71 ll71 is71 sp71 lv149 ll149 is149 sp149 lv151 ll151 is151 sp151 lv177 ll177 is177 ix177 sh177 so177 sb177 sm177 sp177 xs9 ls9 sx9 sy9 sz9
section
open Go Go.Sim
set_option maxRecDepth 100000

abbrev aProg (p : List Line) (cl : Bool) : AV := .vsl (p.map rLine) cl
def toI (l : List Nat) : List Int := l.map fun (n : Nat) => (n : Int)
theorem c_endOf (p : List Line) (cl : Bool) (i : Nat) (H : AHeap) (hi : i < p.length) : ACalls Tryz.prog 94 [aProg p cl, I i] H fun r H' => r = I (endP p i) ∧ H' = H := by
 refine acalls_len (by kernel_rfl) (List.mem_cons_self ..) fun hl => ?_
 rw [List.length_map] at hl
 refine acalls_of0 Tryz.func94 rfl (by kernel_rfl) rfl rfl (awp_sound (fz := fun _ => []) (im := fun _ => false) mixed _ _ _ _ (by kernel_rfl) ?_)
 simp +contextual -dsimp -implicitDefEqProofs (maxSteps:=5000000) only [go_sem,reduceIte,reduceCtorEq,Nat.reduceEqDiff,Nat.reduceBEq,Nat.reduceAdd,Nat.reduceLeDiff,Nat.reduceMul,Nat.reduceLT,Int.reduceEq,Int.reduceLT,Int.reduceLE]
 refine aloop mixed (fz := fun _ => []) (im := fun _ => false) (by kernel_rfl) (fun m tm H' => ∃ k : Nat, m = p.length - k ∧ i < k ∧ k ≤ p.length ∧ H' = H ∧ tm 0 = aProg p cl ∧ tm 1 = I i ∧ tm 5 = I k ∧ ∀ j, i < j → j < k → (p.getD i default).depth < (p.getD j default).depth) (p.length - (i + 1)) ⟨i + 1, rfl, by omega, by omega, rfl, ?_⟩ ?_
 ·simp +contextual -dsimp -implicitDefEqProofs (maxSteps:=5000000) only [go_sem,reduceIte,reduceCtorEq,Nat.reduceEqDiff,Nat.reduceBEq,Nat.reduceAdd,Nat.reduceLeDiff,Nat.reduceMul,Nat.reduceLT,Int.reduceEq,Int.reduceLT,Int.reduceLE]
  exact ⟨I_wrap (by omega) (by omega) (by omega), fun j h1 h2 => by omega⟩
 ·rintro m tm _ ⟨k, rfl, h1, h2, rfl, t0, t1, t5, hd⟩
  simp +contextual -dsimp -implicitDefEqProofs (maxSteps:=5000000) only [go_sem,reduceIte,reduceCtorEq,Nat.reduceEqDiff,Nat.reduceBEq,Nat.reduceAdd,Nat.reduceLeDiff,Nat.reduceMul,Nat.reduceLT,Int.reduceEq,Int.reduceLT,Int.reduceLE,t0,t1,t5,hi]
  refine draw_intro [0, 0, 0, 0, 0, 0, 0, 0, 0, 0, 0, 0, 0, 0, 0, 0, 0] AHeap.none (by kernel_rfl) none_le ?_
  simp +contextual -dsimp -implicitDefEqProofs (maxSteps:=5000000) only [go_sem,reduceIte,reduceCtorEq,Nat.reduceEqDiff,Nat.reduceBEq,Nat.reduceAdd,Nat.reduceLeDiff,Nat.reduceMul,Nat.reduceLT,Int.reduceEq,Int.reduceLT,Int.reduceLE,t0,t1,t5,hi]
  refine ⟨fun q => ⟨_, by omega, k + 1, rfl, by omega, by omega, I_wrap (by omega) (by omega) (by omega), fun j g1 g2 => ?_⟩, fun q => ?_⟩
  ·rcases Nat.lt_or_ge j k with g3 | g3
   ·exact hd j g1 g3
   ·rw [show j = k by omega]; exact q.2
  ·rw [endP_is h1 h2 hd]
   intro g1 g2
   rw [decide_eq_true g1, decide_eq_true g2] at q
   cases q
theorem c_blockEnd (p : List Line) (cl : Bool) (i : Nat) (H : AHeap) (hi : i < p.length) : ACalls Tryz.prog 175 [aProg p cl, I i] H fun r H' => r = I (endP p i) ∧ H' = H := by
 refine acalls_len (by kernel_rfl) (List.mem_cons_self ..) fun hl => ?_
 rw [List.length_map] at hl
 refine acalls_of0 Tryz.func175 rfl (by kernel_rfl) rfl rfl (awp_sound (fz := fun _ => []) (im := fun _ => false) mixed _ _ _ _ (by kernel_rfl) ?_)
 simp +contextual -dsimp -implicitDefEqProofs (maxSteps:=5000000) only [go_sem,reduceIte,reduceCtorEq,Nat.reduceEqDiff,Nat.reduceBEq,Nat.reduceAdd,Nat.reduceLeDiff,Nat.reduceMul,Nat.reduceLT,Int.reduceEq,Int.reduceLT,Int.reduceLE]
 refine aloop mixed (fz := fun _ => []) (im := fun _ => false) (by kernel_rfl) (fun m tm H' => ∃ k : Nat, m = p.length - k ∧ i < k ∧ k ≤ p.length ∧ H' = H ∧ tm 0 = aProg p cl ∧ tm 1 = I i ∧ tm 5 = I k ∧ ∀ j, i < j → j < k → (p.getD i default).depth < (p.getD j default).depth) (p.length - (i + 1)) ⟨i + 1, rfl, by omega, by omega, rfl, ?_⟩ ?_
 ·simp +contextual -dsimp -implicitDefEqProofs (maxSteps:=5000000) only [go_sem,reduceIte,reduceCtorEq,Nat.reduceEqDiff,Nat.reduceBEq,Nat.reduceAdd,Nat.reduceLeDiff,Nat.reduceMul,Nat.reduceLT,Int.reduceEq,Int.reduceLT,Int.reduceLE]
  exact ⟨I_wrap (by omega) (by omega) (by omega), fun j h1 h2 => by omega⟩
 ·rintro m tm _ ⟨k, rfl, h1, h2, rfl, t0, t1, t5, hd⟩
  simp +contextual -dsimp -implicitDefEqProofs (maxSteps:=5000000) only [go_sem,reduceIte,reduceCtorEq,Nat.reduceEqDiff,Nat.reduceBEq,Nat.reduceAdd,Nat.reduceLeDiff,Nat.reduceMul,Nat.reduceLT,Int.reduceEq,Int.reduceLT,Int.reduceLE,t0,t1,t5,hi]
  refine draw_intro [0, 0, 0, 0, 0, 0, 0, 0, 0, 0, 0, 0, 0, 0, 0, 0, 0] AHeap.none (by kernel_rfl) none_le ?_
  simp +contextual -dsimp -implicitDefEqProofs (maxSteps:=5000000) only [go_sem,reduceIte,reduceCtorEq,Nat.reduceEqDiff,Nat.reduceBEq,Nat.reduceAdd,Nat.reduceLeDiff,Nat.reduceMul,Nat.reduceLT,Int.reduceEq,Int.reduceLT,Int.reduceLE,t0,t1,t5,hi]
  refine ⟨fun q => ⟨_, by omega, k + 1, rfl, by omega, by omega, I_wrap (by omega) (by omega) (by omega), fun j g1 g2 => ?_⟩, fun q => ?_⟩
  ·rcases Nat.lt_or_ge j k with g3 | g3
   ·exact hd j g1 g3
   ·rw [show j = k by omega]; exact q.2
  ·rw [endP_is h1 h2 hd]
   intro g1 g2
   rw [decide_eq_true g1, decide_eq_true g2] at q
   cases q
theorem c_lineOpens (x : Line) (H : AHeap) : ACalls Tryz.prog 56 [.agg (rLine x)] H fun r H' => r = B (opensK x.kind) ∧ H' = H := by
 refine acalls_of0 Tryz.func56 rfl (by kernel_rfl) rfl rfl (awp_sound (fz := fun _ => []) (im := fun s => s == 1) mixed _ _ _ _ (by kernel_rfl) ?_)
 simp +contextual -dsimp -implicitDefEqProofs (maxSteps:=5000000) only [go_sem,reduceIte,reduceCtorEq,Nat.reduceEqDiff,Nat.reduceBEq,Nat.reduceAdd,Nat.reduceLeDiff,Nat.reduceMul,Nat.reduceLT,Int.reduceEq,Int.reduceLT,Int.reduceLE]
 exact (c_within _ _ _ _).det (by simp +contextual -dsimp -implicitDefEqProofs (maxSteps:=5000000) only [go_sem,reduceIte,reduceCtorEq,Nat.reduceEqDiff,Nat.reduceBEq,Nat.reduceAdd,Nat.reduceLeDiff,Nat.reduceMul,Nat.reduceLT,Int.reduceEq,Int.reduceLT,Int.reduceLE,opensK])
theorem c_lineJumps (x : Line) (H : AHeap) : ACalls Tryz.prog 139 [.agg (rLine x)] H fun r H' => r = B (jumpsK x.kind) ∧ H' = H := by
 refine acalls_of0 Tryz.func139 rfl (by kernel_rfl) rfl rfl (awp_sound (fz := fun _ => []) (im := fun s => s == 1) mixed _ _ _ _ (by kernel_rfl) ?_)
 simp +contextual -dsimp -implicitDefEqProofs (maxSteps:=5000000) only [go_sem,reduceIte,reduceCtorEq,Nat.reduceEqDiff,Nat.reduceBEq,Nat.reduceAdd,Nat.reduceLeDiff,Nat.reduceMul,Nat.reduceLT,Int.reduceEq,Int.reduceLT,Int.reduceLE]
 exact (c_within _ _ _ _).det (by simp +contextual -dsimp -implicitDefEqProofs (maxSteps:=5000000) only [go_sem,reduceIte,reduceCtorEq,Nat.reduceEqDiff,Nat.reduceBEq,Nat.reduceAdd,Nat.reduceLeDiff,Nat.reduceMul,Nat.reduceLT,Int.reduceEq,Int.reduceLT,Int.reduceLE,jumpsK])
theorem c_opens (k : Int) (H : AHeap) : ACalls Tryz.prog 142 [I k] H fun r H' => r = B (opensK k) ∧ H' = H := by
 refine acalls_of0 Tryz.func142 rfl (by kernel_rfl) rfl rfl (awp_sound (fz := fun _ => []) (im := fun _ => false) mixed _ _ _ _ (by kernel_rfl) ?_)
 simp +contextual -dsimp -implicitDefEqProofs (maxSteps:=5000000) only [go_sem,reduceIte,reduceCtorEq,Nat.reduceEqDiff,Nat.reduceBEq,Nat.reduceAdd,Nat.reduceLeDiff,Nat.reduceMul,Nat.reduceLT,Int.reduceEq,Int.reduceLT,Int.reduceLE]
 exact (c_inRange _ _ _ _).det (by simp +contextual -dsimp -implicitDefEqProofs (maxSteps:=5000000) only [go_sem,reduceIte,reduceCtorEq,Nat.reduceEqDiff,Nat.reduceBEq,Nat.reduceAdd,Nat.reduceLeDiff,Nat.reduceMul,Nat.reduceLT,Int.reduceEq,Int.reduceLT,Int.reduceLE,opensK])
theorem c_follows (k : Int) (H : AHeap) : ACalls Tryz.prog 145 [I k] H fun r H' => r = B (followsK k) ∧ H' = H := by
 refine acalls_of0 Tryz.func145 rfl (by kernel_rfl) rfl rfl (awp_sound (fz := fun _ => []) (im := fun _ => false) mixed _ _ _ _ (by kernel_rfl) ?_)
 simp +contextual -dsimp -implicitDefEqProofs (maxSteps:=5000000) only [go_sem,reduceIte,reduceCtorEq,Nat.reduceEqDiff,Nat.reduceBEq,Nat.reduceAdd,Nat.reduceLeDiff,Nat.reduceMul,Nat.reduceLT,Int.reduceEq,Int.reduceLT,Int.reduceLE]
 exact (c_inRange _ _ _ _).det (by simp +contextual -dsimp -implicitDefEqProofs (maxSteps:=5000000) only [go_sem,reduceIte,reduceCtorEq,Nat.reduceEqDiff,Nat.reduceBEq,Nat.reduceAdd,Nat.reduceLeDiff,Nat.reduceMul,Nat.reduceLT,Int.reduceEq,Int.reduceLT,Int.reduceLE,followsK])
theorem c_argued (t : List Class) (cl : Bool) (x : Line) (H : AHeap) : ACalls Tryz.prog 54 [.agg (rLine x), aTree t cl] H fun r H' => r = B (numOk t x.kind x.a x.b) ∧ H' = H := by
 refine acalls_of0 Tryz.func54 rfl (by kernel_rfl) rfl rfl (awp_sound (fz := fun _ => []) (im := fun s => s == 2 || s == 3) mixed _ _ _ _ (by kernel_rfl) ?_)
 have fin0 : ∀ (a b c d : Bool), (a && (b && c)) = ((a && b) && c) := fun a b c d => by cases a <;> rfl
 by_cases k1 : x.kind = 1
 ·simp +contextual -dsimp -implicitDefEqProofs (maxSteps:=5000000) only [go_sem,reduceIte,reduceCtorEq,Nat.reduceEqDiff,Nat.reduceBEq,Nat.reduceAdd,Nat.reduceLeDiff,Nat.reduceMul,Nat.reduceLT,Int.reduceEq,Int.reduceLT,Int.reduceLE,k1]
  refine (c_codeOk _ _).det ?_
  cases e1 : inR x.a 0 99 <;> simp +contextual -dsimp -implicitDefEqProofs (maxSteps:=5000000) only [go_sem,reduceIte,reduceCtorEq,Nat.reduceEqDiff,Nat.reduceBEq,Nat.reduceAdd,Nat.reduceLeDiff,Nat.reduceMul,Nat.reduceLT,Int.reduceEq,Int.reduceLT,Int.reduceLE,k1,e1,numOk]
 by_cases k4 : x.kind = 4
 ·simp +contextual -dsimp -implicitDefEqProofs (maxSteps:=5000000) only [go_sem,reduceIte,reduceCtorEq,Nat.reduceEqDiff,Nat.reduceBEq,Nat.reduceAdd,Nat.reduceLeDiff,Nat.reduceMul,Nat.reduceLT,Int.reduceEq,Int.reduceLT,Int.reduceLE,k4]
  refine (c_codeOk _ _).det ?_
  cases e1 : inR x.a 0 99 <;> simp +contextual -dsimp -implicitDefEqProofs (maxSteps:=5000000) only [go_sem,reduceIte,reduceCtorEq,Nat.reduceEqDiff,Nat.reduceBEq,Nat.reduceAdd,Nat.reduceLeDiff,Nat.reduceMul,Nat.reduceLT,Int.reduceEq,Int.reduceLT,Int.reduceLE,k4,e1,numOk]
 by_cases k2 : x.kind = 2
 ·simp +contextual -dsimp -implicitDefEqProofs (maxSteps:=5000000) only [go_sem,reduceIte,reduceCtorEq,Nat.reduceEqDiff,Nat.reduceBEq,Nat.reduceAdd,Nat.reduceLeDiff,Nat.reduceMul,Nat.reduceLT,Int.reduceEq,Int.reduceLT,Int.reduceLE,k2]
  refine (c_has t cl _ _).det ?_
  cases e1 : hasF t x.a
  ·simp +contextual -dsimp -implicitDefEqProofs (maxSteps:=5000000) only [go_sem,reduceIte,reduceCtorEq,Nat.reduceEqDiff,Nat.reduceBEq,Nat.reduceAdd,Nat.reduceLeDiff,Nat.reduceMul,Nat.reduceLT,Int.reduceEq,Int.reduceLT,Int.reduceLE,k2,e1,numOk]
  ·simp +contextual -dsimp -implicitDefEqProofs (maxSteps:=5000000) only [go_sem,reduceIte,reduceCtorEq,Nat.reduceEqDiff,Nat.reduceBEq,Nat.reduceAdd,Nat.reduceLeDiff,Nat.reduceMul,Nat.reduceLT,Int.reduceEq,Int.reduceLT,Int.reduceLE,k2,e1]
   refine (c_codeOk _ _).det ?_
   simp +contextual -dsimp -implicitDefEqProofs (maxSteps:=5000000) only [go_sem,reduceIte,reduceCtorEq,Nat.reduceEqDiff,Nat.reduceBEq,Nat.reduceAdd,Nat.reduceLeDiff,Nat.reduceMul,Nat.reduceLT,Int.reduceEq,Int.reduceLT,Int.reduceLE,k2,e1,numOk]
 by_cases k8 : x.kind = 8
 ·simp +contextual -dsimp -implicitDefEqProofs (maxSteps:=5000000) only [go_sem,reduceIte,reduceCtorEq,Nat.reduceEqDiff,Nat.reduceBEq,Nat.reduceAdd,Nat.reduceLeDiff,Nat.reduceMul,Nat.reduceLT,Int.reduceEq,Int.reduceLT,Int.reduceLE,k8]
  refine (c_has t cl _ _).det ?_
  cases e1 : hasF t x.a <;> simp +contextual -dsimp -implicitDefEqProofs (maxSteps:=5000000) only [go_sem,reduceIte,reduceCtorEq,Nat.reduceEqDiff,Nat.reduceBEq,Nat.reduceAdd,Nat.reduceLeDiff,Nat.reduceMul,Nat.reduceLT,Int.reduceEq,Int.reduceLT,Int.reduceLE,k8,e1,numOk]
 by_cases k11 : x.kind = 11
 ·simp +contextual -dsimp -implicitDefEqProofs (maxSteps:=5000000) only [go_sem,reduceIte,reduceCtorEq,Nat.reduceEqDiff,Nat.reduceBEq,Nat.reduceAdd,Nat.reduceLeDiff,Nat.reduceMul,Nat.reduceLT,Int.reduceEq,Int.reduceLT,Int.reduceLE,k11]
  refine (c_within _ _ _ _).det ?_
  cases e1 : inR x.a 0 9
  ·simp +contextual -dsimp -implicitDefEqProofs (maxSteps:=5000000) only [go_sem,reduceIte,reduceCtorEq,Nat.reduceEqDiff,Nat.reduceBEq,Nat.reduceAdd,Nat.reduceLeDiff,Nat.reduceMul,Nat.reduceLT,Int.reduceEq,Int.reduceLT,Int.reduceLE,k11,e1,numOk]
  ·simp +contextual -dsimp -implicitDefEqProofs (maxSteps:=5000000) only [go_sem,reduceIte,reduceCtorEq,Nat.reduceEqDiff,Nat.reduceBEq,Nat.reduceAdd,Nat.reduceLeDiff,Nat.reduceMul,Nat.reduceLT,Int.reduceEq,Int.reduceLT,Int.reduceLE,k11,e1]
   refine (c_within _ _ _ _).det ?_
   simp +contextual -dsimp -implicitDefEqProofs (maxSteps:=5000000) only [go_sem,reduceIte,reduceCtorEq,Nat.reduceEqDiff,Nat.reduceBEq,Nat.reduceAdd,Nat.reduceLeDiff,Nat.reduceMul,Nat.reduceLT,Int.reduceEq,Int.reduceLT,Int.reduceLE,k11,e1,numOk]
 by_cases k12 : x.kind = 12
 ·simp +contextual -dsimp -implicitDefEqProofs (maxSteps:=5000000) only [go_sem,reduceIte,reduceCtorEq,Nat.reduceEqDiff,Nat.reduceBEq,Nat.reduceAdd,Nat.reduceLeDiff,Nat.reduceMul,Nat.reduceLT,Int.reduceEq,Int.reduceLT,Int.reduceLE,k12]
  refine (c_within _ _ _ _).det ?_
  cases e1 : inR x.a 0 3 <;> simp +contextual -dsimp -implicitDefEqProofs (maxSteps:=5000000) only [go_sem,reduceIte,reduceCtorEq,Nat.reduceEqDiff,Nat.reduceBEq,Nat.reduceAdd,Nat.reduceLeDiff,Nat.reduceMul,Nat.reduceLT,Int.reduceEq,Int.reduceLT,Int.reduceLE,k12,e1,numOk]
 simp +contextual -dsimp -implicitDefEqProofs (maxSteps:=5000000) only [go_sem,reduceIte,reduceCtorEq,Nat.reduceEqDiff,Nat.reduceBEq,Nat.reduceAdd,Nat.reduceLeDiff,Nat.reduceMul,Nat.reduceLT,Int.reduceEq,Int.reduceLT,Int.reduceLE,k1,k2,k4,k8,k11,k12]
 refine (c_within _ _ _ _).det ?_
 cases e1 : inR x.kind 0 12 <;> simp +contextual -dsimp -implicitDefEqProofs (maxSteps:=5000000) only [go_sem,reduceIte,reduceCtorEq,Nat.reduceEqDiff,Nat.reduceBEq,Nat.reduceAdd,Nat.reduceLeDiff,Nat.reduceMul,Nat.reduceLT,Int.reduceEq,Int.reduceLT,Int.reduceLE,k1,k2,k4,k8,k11,k12,e1,numOk,or_self]
theorem c_validNumbers (t : List Class) (cl : Bool) (x : Line) (H : AHeap) : ACalls Tryz.prog 140 [aTree t cl, .agg (rLine x)] H fun r H' => r = B (numOk t x.kind x.a x.b) ∧ H' = H := by
 refine acalls_of0 Tryz.func140 rfl (by kernel_rfl) rfl rfl (awp_sound (fz := fun _ => []) (im := fun s => s == 2 || s == 3) mixed _ _ _ _ (by kernel_rfl) ?_)
 have fin0 : ∀ (a b c d : Bool), (a && (b && c)) = ((a && b) && c) := fun a b c d => by cases a <;> rfl
 by_cases k1 : x.kind = 1
 ·simp +contextual -dsimp -implicitDefEqProofs (maxSteps:=5000000) only [go_sem,reduceIte,reduceCtorEq,Nat.reduceEqDiff,Nat.reduceBEq,Nat.reduceAdd,Nat.reduceLeDiff,Nat.reduceMul,Nat.reduceLT,Int.reduceEq,Int.reduceLT,Int.reduceLE,k1]
  refine (c_inRange _ _ _ _).det ?_
  cases e1 : inR x.a 0 99 <;> simp +contextual -dsimp -implicitDefEqProofs (maxSteps:=5000000) only [go_sem,reduceIte,reduceCtorEq,Nat.reduceEqDiff,Nat.reduceBEq,Nat.reduceAdd,Nat.reduceLeDiff,Nat.reduceMul,Nat.reduceLT,Int.reduceEq,Int.reduceLT,Int.reduceLE,k1,e1,numOk]
 by_cases k4 : x.kind = 4
 ·simp +contextual -dsimp -implicitDefEqProofs (maxSteps:=5000000) only [go_sem,reduceIte,reduceCtorEq,Nat.reduceEqDiff,Nat.reduceBEq,Nat.reduceAdd,Nat.reduceLeDiff,Nat.reduceMul,Nat.reduceLT,Int.reduceEq,Int.reduceLT,Int.reduceLE,k4]
  refine (c_inRange _ _ _ _).det ?_
  cases e1 : inR x.a 0 99 <;> simp +contextual -dsimp -implicitDefEqProofs (maxSteps:=5000000) only [go_sem,reduceIte,reduceCtorEq,Nat.reduceEqDiff,Nat.reduceBEq,Nat.reduceAdd,Nat.reduceLeDiff,Nat.reduceMul,Nat.reduceLT,Int.reduceEq,Int.reduceLT,Int.reduceLE,k4,e1,numOk]
 by_cases k2 : x.kind = 2
 ·simp +contextual -dsimp -implicitDefEqProofs (maxSteps:=5000000) only [go_sem,reduceIte,reduceCtorEq,Nat.reduceEqDiff,Nat.reduceBEq,Nat.reduceAdd,Nat.reduceLeDiff,Nat.reduceMul,Nat.reduceLT,Int.reduceEq,Int.reduceLT,Int.reduceLE,k2]
  refine (c_hasClass t cl _ _).det ?_
  cases e1 : hasF t x.a
  ·simp +contextual -dsimp -implicitDefEqProofs (maxSteps:=5000000) only [go_sem,reduceIte,reduceCtorEq,Nat.reduceEqDiff,Nat.reduceBEq,Nat.reduceAdd,Nat.reduceLeDiff,Nat.reduceMul,Nat.reduceLT,Int.reduceEq,Int.reduceLT,Int.reduceLE,k2,e1,numOk]
  ·simp +contextual -dsimp -implicitDefEqProofs (maxSteps:=5000000) only [go_sem,reduceIte,reduceCtorEq,Nat.reduceEqDiff,Nat.reduceBEq,Nat.reduceAdd,Nat.reduceLeDiff,Nat.reduceMul,Nat.reduceLT,Int.reduceEq,Int.reduceLT,Int.reduceLE,k2,e1]
   refine (c_inRange _ _ _ _).det ?_
   simp +contextual -dsimp -implicitDefEqProofs (maxSteps:=5000000) only [go_sem,reduceIte,reduceCtorEq,Nat.reduceEqDiff,Nat.reduceBEq,Nat.reduceAdd,Nat.reduceLeDiff,Nat.reduceMul,Nat.reduceLT,Int.reduceEq,Int.reduceLT,Int.reduceLE,k2,e1,numOk]
 by_cases k8 : x.kind = 8
 ·simp +contextual -dsimp -implicitDefEqProofs (maxSteps:=5000000) only [go_sem,reduceIte,reduceCtorEq,Nat.reduceEqDiff,Nat.reduceBEq,Nat.reduceAdd,Nat.reduceLeDiff,Nat.reduceMul,Nat.reduceLT,Int.reduceEq,Int.reduceLT,Int.reduceLE,k8]
  refine (c_hasClass t cl _ _).det ?_
  cases e1 : hasF t x.a <;> simp +contextual -dsimp -implicitDefEqProofs (maxSteps:=5000000) only [go_sem,reduceIte,reduceCtorEq,Nat.reduceEqDiff,Nat.reduceBEq,Nat.reduceAdd,Nat.reduceLeDiff,Nat.reduceMul,Nat.reduceLT,Int.reduceEq,Int.reduceLT,Int.reduceLE,k8,e1,numOk]
 by_cases k11 : x.kind = 11
 ·simp +contextual -dsimp -implicitDefEqProofs (maxSteps:=5000000) only [go_sem,reduceIte,reduceCtorEq,Nat.reduceEqDiff,Nat.reduceBEq,Nat.reduceAdd,Nat.reduceLeDiff,Nat.reduceMul,Nat.reduceLT,Int.reduceEq,Int.reduceLT,Int.reduceLE,k11]
  refine (c_inRange _ _ _ _).det ?_
  cases e1 : inR x.a 0 9
  ·simp +contextual -dsimp -implicitDefEqProofs (maxSteps:=5000000) only [go_sem,reduceIte,reduceCtorEq,Nat.reduceEqDiff,Nat.reduceBEq,Nat.reduceAdd,Nat.reduceLeDiff,Nat.reduceMul,Nat.reduceLT,Int.reduceEq,Int.reduceLT,Int.reduceLE,k11,e1,numOk]
  ·simp +contextual -dsimp -implicitDefEqProofs (maxSteps:=5000000) only [go_sem,reduceIte,reduceCtorEq,Nat.reduceEqDiff,Nat.reduceBEq,Nat.reduceAdd,Nat.reduceLeDiff,Nat.reduceMul,Nat.reduceLT,Int.reduceEq,Int.reduceLT,Int.reduceLE,k11,e1]
   refine (c_inRange _ _ _ _).det ?_
   simp +contextual -dsimp -implicitDefEqProofs (maxSteps:=5000000) only [go_sem,reduceIte,reduceCtorEq,Nat.reduceEqDiff,Nat.reduceBEq,Nat.reduceAdd,Nat.reduceLeDiff,Nat.reduceMul,Nat.reduceLT,Int.reduceEq,Int.reduceLT,Int.reduceLE,k11,e1,numOk]
 by_cases k12 : x.kind = 12
 ·simp +contextual -dsimp -implicitDefEqProofs (maxSteps:=5000000) only [go_sem,reduceIte,reduceCtorEq,Nat.reduceEqDiff,Nat.reduceBEq,Nat.reduceAdd,Nat.reduceLeDiff,Nat.reduceMul,Nat.reduceLT,Int.reduceEq,Int.reduceLT,Int.reduceLE,k12]
  refine (c_inRange _ _ _ _).det ?_
  cases e1 : inR x.a 0 3 <;> simp +contextual -dsimp -implicitDefEqProofs (maxSteps:=5000000) only [go_sem,reduceIte,reduceCtorEq,Nat.reduceEqDiff,Nat.reduceBEq,Nat.reduceAdd,Nat.reduceLeDiff,Nat.reduceMul,Nat.reduceLT,Int.reduceEq,Int.reduceLT,Int.reduceLE,k12,e1,numOk]
 simp +contextual -dsimp -implicitDefEqProofs (maxSteps:=5000000) only [go_sem,reduceIte,reduceCtorEq,Nat.reduceEqDiff,Nat.reduceBEq,Nat.reduceAdd,Nat.reduceLeDiff,Nat.reduceMul,Nat.reduceLT,Int.reduceEq,Int.reduceLT,Int.reduceLE,k1,k2,k4,k8,k11,k12]
 refine (c_inRange _ _ _ _).det ?_
 have e : inR x.kind 0 10 = inR x.kind 0 12 := by
  unfold inR
  rw [Bool.eq_iff_iff]
  simp only [Bool.and_eq_true,decide_eq_true_eq]
  omega
 rw [e]
 cases e1 : inR x.kind 0 12 <;> simp +contextual -dsimp -implicitDefEqProofs (maxSteps:=5000000) only [go_sem,reduceIte,reduceCtorEq,Nat.reduceEqDiff,Nat.reduceBEq,Nat.reduceAdd,Nat.reduceLeDiff,Nat.reduceMul,Nat.reduceLT,Int.reduceEq,Int.reduceLT,Int.reduceLE,k1,k2,k4,k8,k11,k12,e1,numOk,or_self]
end
section
open Go Go.Sim
set_option maxRecDepth 100000

theorem toI_len (l : List Nat) : (toI l).length = l.length := by simp [toI]
theorem toI_at (l : List Nat) (j : Nat) : (toI l).getD j default = ((l.getD j default : Nat) : Int) := by
 simp only [toI,List.getD_eq_getElem?_getD,List.getElem?_map]
 cases l[j]? <;> rfl
theorem toI_snoc (l : List Nat) (k : Nat) : toI l ++ [(k : Int)] = toI (l ++ [k]) := by simp [toI]
theorem toI_drop (l : List Nat) (k : Nat) : (toI l).drop k = toI (l.drop k) := by simp [toI, List.map_drop]
theorem tailP_eq {p : List Line} {d : Int} : ∀ (n m k : Nat), p.length ≤ n + k → p.length ≤ m + k → tailP p d n k = tailP p d m k
 | 0, 0, k, _, _ => rfl
 | 0, m + 1, k, h, _ => by simp only [tailP]; rw [if_neg (fun q => by omega)]
 | n + 1, 0, k, _, h => by simp only [tailP]; rw [if_neg (fun q => by omega)]
 | n + 1, m + 1, k, h1, h2 => by
  simp only [tailP]
  split
  ·have := endP_gt p k
   rw [tailP_eq n m (endP p k) (by omega) (by omega)]
  ·rfl
def tailQ (p : List Line) (d : Int) (k : Nat) : List Nat := tailP p d p.length k
theorem tailQ_step (p : List Line) (d : Int) (k : Nat) : tailQ p d k = if k < p.length ∧ (p.getD k default).depth = d ∧ followsK (p.getD k default).kind = true then k :: tailQ p d (endP p k) else [] := by
 unfold tailQ
 rw [tailP_eq p.length (p.length + 1) k (by omega) (by omega)]
 rfl
theorem chainP_tail (p : List Line) (i : Nat) : chainP p i = i :: tailQ p (p.getD i default).depth (endP p i) := rfl
theorem tailP_mem {p : List Line} {d : Int} : ∀ (n k : Nat), ∀ j ∈ tailP p d n k, j < p.length ∧ followsK (p.getD j default).kind = true
 | 0, k, j, h => by cases h
 | n + 1, k, j, h => by
  simp only [tailP] at h
  split at h
  ·rename_i c
   rcases List.mem_cons.1 h with rfl | h
   ·exact ⟨c.1, c.2.2⟩
   ·exact tailP_mem n _ j h
  ·cases h
theorem tailP_len {p : List Line} {d : Int} : ∀ (n k : Nat), (tailP p d n k).length + k ≤ p.length ∨ tailP p d n k = []
 | 0, k => .inr rfl
 | n + 1, k => by
  simp only [tailP]
  split
  ·rename_i c
   left
   have := endP_gt p k
   rcases tailP_len (p := p) (d := d) n (endP p k) with h | h
   ·simp; omega
   ·rw [h]; simp; omega
  ·exact .inr rfl
theorem chainP_mem {p : List Line} {i : Nat} (hi : i < p.length) : ∀ j ∈ chainP p i, j < p.length := by
 intro j h
 rcases List.mem_cons.1 h with rfl | h
 ·exact hi
 ·exact (tailP_mem _ _ j h).1
theorem endP_len {p : List Line} {i : Nat} (hi : i < p.length) : (chainP p i).length ≤ p.length := by
 unfold chainP
 rcases tailP_len (p := p) (d := (p.getD i default).depth) p.length (endP p i) with h | h
 ·have := endP_gt p i; simp only [List.length_cons]; omega
 ·rw [h]; simp; omega
theorem toI_app {H0 H : AHeap} {x : AV} {out : List Nat} {n : Nat} {cl : Bool} {K : AV → AHeap → Prop} {g : Tag (H, K)} (hg : Grow rI 1 3 H0 H x (toI out)) (hb : out.length ≤ 4398046511104) (k : ∀ x' H', Grow rI 1 3 H0 H' x' (toI (out ++ [n])) → K x' H') : appT Tryz.prog H 29 x (.vsl [[.lit (.int .i64 (n : Int))]] cl) K g :=
 grow_append (m := [(n : Int)]) te29 ti3 rI_len (by decide) hg (by rw [toI_len]; show (out.length + 1) * 8 ≤ _; omega) (by rw [toI_len]; show out.length + 1 ≤ _; omega) rfl fun x' H'' hg' => k x' H'' (by rw [toI_snoc] at hg'; exact hg')
theorem c_tryFrom (p : List Line) (cl : Bool) (i : Nat) (H : AHeap) (hi : i < p.length) (hp : p.length ≤ 4398046511104) : ACalls Tryz.prog 95 [aProg p cl, I i] H fun r H' => Grow rI 1 3 H H' r (toI (chainP p i)) := by
 refine acalls_len (by kernel_rfl) (List.mem_cons_self ..) fun hl => ?_
 rw [List.length_map] at hl
 refine acalls_of0 Tryz.func95 rfl (by kernel_rfl) rfl rfl (awp_sound (fz := fun _ => []) (im := fun s => s == 42) mixed _ _ _ _ (by kernel_rfl) ?_)
 simp +contextual -dsimp -implicitDefEqProofs (maxSteps:=5000000) only [go_sem,reduceIte,reduceCtorEq,Nat.reduceEqDiff,Nat.reduceBEq,Nat.reduceAdd,Nat.reduceLeDiff,Nat.reduceMul,Nat.reduceLT,Int.reduceEq,Int.reduceLT,Int.reduceLE]
 intro b5 hb5
 refine (c_endOf p cl i _ hi).det ?_
 simp +contextual -dsimp -implicitDefEqProofs (maxSteps:=5000000) only [go_sem,reduceIte,reduceCtorEq,Nat.reduceEqDiff,Nat.reduceBEq,Nat.reduceAdd,Nat.reduceLeDiff,Nat.reduceMul,Nat.reduceLT,Int.reduceEq,Int.reduceLT,Int.reduceLE]
 refine aloop mixed (fz := fun _ => []) (im := fun s => s == 8 || s == 42) (by kernel_rfl) (fun m tm H' => ∃ (k : Nat) (out : List Nat) (x : AV), m = p.length - k ∧ k ≤ p.length ∧ out.length ≤ k ∧ Grow rI 1 3 H H' x (toI out) ∧ tm 0 = aProg p cl ∧ tm 1 = I i ∧ tm 5 = x ∧ tm 6 = I k ∧ out ++ tailQ p (p.getD i default).depth k = chainP p i) (p.length - endP p i) ⟨endP p i, [i], .sl b5 1 0 1 true, rfl, endP_le hi, by have := endP_gt p i; simp; omega, .inr ⟨b5, true, hb5, rfl, rfl⟩, ?_⟩ ?_
 ·simp +contextual -dsimp -implicitDefEqProofs (maxSteps:=5000000) only [go_sem,reduceIte,reduceCtorEq,Nat.reduceEqDiff,Nat.reduceBEq,Nat.reduceAdd,Nat.reduceLeDiff,Nat.reduceMul,Nat.reduceLT,Int.reduceEq,Int.reduceLT,Int.reduceLE]
  rfl
 ·rintro m tm H' ⟨k, out, x, rfl, hk, hol, hg, t0, t1, t5, t6, he⟩
  simp +contextual -dsimp -implicitDefEqProofs (maxSteps:=5000000) only [go_sem,reduceIte,reduceCtorEq,Nat.reduceEqDiff,Nat.reduceBEq,Nat.reduceAdd,Nat.reduceLeDiff,Nat.reduceMul,Nat.reduceLT,Int.reduceEq,Int.reduceLT,Int.reduceLE,t0,t1,t5,t6,hi]
  refine draw_intro [0, 0, 0, 0, 0, 0, 0, 0, 0, 0, 0, 0, 0, 0, 0, 0, 0, 0, 0, 0, 0, 0, 0, 2, 0] AHeap.none (by kernel_rfl) none_le ?_
  simp +contextual -dsimp -implicitDefEqProofs (maxSteps:=5000000) only [go_sem,reduceIte,reduceCtorEq,Nat.reduceEqDiff,Nat.reduceBEq,Nat.reduceAdd,Nat.reduceLeDiff,Nat.reduceMul,Nat.reduceLT,Int.reduceEq,Int.reduceLT,Int.reduceLE,t0,t1,t5,t6,hi]
  rw [tailQ_step] at he
  have stop : ¬ (k < p.length ∧ (p.getD k default).depth = (p.getD i default).depth ∧ followsK (p.getD k default).kind = true) → out = chainP p i := fun q => by rw [if_neg q] at he; simpa using he
  by_cases h1 : k < p.length
  ·by_cases h2 : (p.getD k default).depth = (p.getD i default).depth
   ·simp +contextual -dsimp -implicitDefEqProofs (maxSteps:=5000000) only [go_sem,reduceIte,reduceCtorEq,Nat.reduceEqDiff,Nat.reduceBEq,Nat.reduceAdd,Nat.reduceLeDiff,Nat.reduceMul,Nat.reduceLT,Int.reduceEq,Int.reduceLT,Int.reduceLE,t0,t1,t5,t6,hi,h1,h2]
    refine (c_within _ _ _ _).det ?_
    by_cases h3 : followsK (p.getD k default).kind = true
    ·have h3' : inR (p.getD k default).kind 8 10 = true := h3
     rw [if_pos ⟨h1, h2, h3⟩] at he
     simp +contextual -dsimp -implicitDefEqProofs (maxSteps:=5000000) only [go_sem,reduceIte,reduceCtorEq,Nat.reduceEqDiff,Nat.reduceBEq,Nat.reduceAdd,Nat.reduceLeDiff,Nat.reduceMul,Nat.reduceLT,Int.reduceEq,Int.reduceLT,Int.reduceLE,t0,t1,t5,t6,hi,h1,h2,h3']
     refine toI_app hg (by omega) fun x' H'' hg' => ?_
     simp +contextual -dsimp -implicitDefEqProofs (maxSteps:=5000000) only [go_sem,reduceIte,reduceCtorEq,Nat.reduceEqDiff,Nat.reduceBEq,Nat.reduceAdd,Nat.reduceLeDiff,Nat.reduceMul,Nat.reduceLT,Int.reduceEq,Int.reduceLT,Int.reduceLE,t0,t1,t5,t6,hi,h1,h2,h3']
     refine (c_endOf p cl k _ h1).det ?_
     simp +contextual -dsimp -implicitDefEqProofs (maxSteps:=5000000) only [go_sem,reduceIte,reduceCtorEq,Nat.reduceEqDiff,Nat.reduceBEq,Nat.reduceAdd,Nat.reduceLeDiff,Nat.reduceMul,Nat.reduceLT,Int.reduceEq,Int.reduceLT,Int.reduceLE,t0,t1,t5,t6,hi,h1,h2,h3']
     have g1 := endP_gt p k
     have g2 := endP_le h1
     exact ⟨_, by omega, endP p k, out ++ [k], x', rfl, g2, by simp; omega, hg', by rw [← he]; simp⟩
    ·have h3' : inR (p.getD k default).kind 8 10 = false := by simpa [followsK] using h3
     simp +contextual -dsimp -implicitDefEqProofs (maxSteps:=5000000) only [go_sem,reduceIte,reduceCtorEq,Nat.reduceEqDiff,Nat.reduceBEq,Nat.reduceAdd,Nat.reduceLeDiff,Nat.reduceMul,Nat.reduceLT,Int.reduceEq,Int.reduceLT,Int.reduceLE,t0,t1,t5,t6,hi,h1,h2,h3']
     rw [← stop (fun q => h3 q.2.2)]; exact hg
   ·simp +contextual -dsimp -implicitDefEqProofs (maxSteps:=5000000) only [go_sem,reduceIte,reduceCtorEq,Nat.reduceEqDiff,Nat.reduceBEq,Nat.reduceAdd,Nat.reduceLeDiff,Nat.reduceMul,Nat.reduceLT,Int.reduceEq,Int.reduceLT,Int.reduceLE,t0,t1,t5,t6,hi,h1,h2]
    rw [← stop (fun q => h2 q.2.1)]; exact hg
  ·simp +contextual -dsimp -implicitDefEqProofs (maxSteps:=5000000) only [go_sem,reduceIte,reduceCtorEq,Nat.reduceEqDiff,Nat.reduceBEq,Nat.reduceAdd,Nat.reduceLeDiff,Nat.reduceMul,Nat.reduceLT,Int.reduceEq,Int.reduceLT,Int.reduceLE,t0,t1,t5,t6,hi,h1]
   rw [← stop (fun q => h1 q.1)]; exact hg
def sameP (p : List Line) (i : Nat) : Nat := if endP p i < p.length ∧ (p.getD (endP p i) default).depth = (p.getD i default).depth then endP p i else p.length
theorem c_sameNext (p : List Line) (cl : Bool) (i : Nat) (H : AHeap) (hi : i < p.length) : ACalls Tryz.prog 188 [aProg p cl, I i] H fun r H' => r = I (sameP p i) ∧ H' = H := by
 refine acalls_len (by kernel_rfl) (List.mem_cons_self ..) fun hl => ?_
 rw [List.length_map] at hl
 refine acalls_of0 Tryz.func188 rfl (by kernel_rfl) rfl rfl (awp_sound (fz := fun _ => []) (im := fun _ => false) mixed _ _ _ _ (by kernel_rfl) ?_)
 simp +contextual -dsimp -implicitDefEqProofs (maxSteps:=5000000) only [go_sem,reduceIte,reduceCtorEq,Nat.reduceEqDiff,Nat.reduceBEq,Nat.reduceAdd,Nat.reduceLeDiff,Nat.reduceMul,Nat.reduceLT,Int.reduceEq,Int.reduceLT,Int.reduceLE]
 refine (c_blockEnd p cl i _ hi).det ?_
 simp +contextual -dsimp -implicitDefEqProofs (maxSteps:=5000000) only [go_sem,reduceIte,reduceCtorEq,Nat.reduceEqDiff,Nat.reduceBEq,Nat.reduceAdd,Nat.reduceLeDiff,Nat.reduceMul,Nat.reduceLT,Int.reduceEq,Int.reduceLT,Int.reduceLE]
 refine draw_intro [0, 0, 0, 0, 0, 0, 0, 0, 0, 0, 0, 0, 0, 0, 0, 0, 0] AHeap.none (by kernel_rfl) none_le ?_
 by_cases h1 : endP p i < p.length
 ·by_cases h2 : (p.getD (endP p i) default).depth = (p.getD i default).depth
  ·simp +contextual -dsimp -implicitDefEqProofs (maxSteps:=5000000) only [go_sem,reduceIte,reduceCtorEq,Nat.reduceEqDiff,Nat.reduceBEq,Nat.reduceAdd,Nat.reduceLeDiff,Nat.reduceMul,Nat.reduceLT,Int.reduceEq,Int.reduceLT,Int.reduceLE,hi,h1,h2,sameP,and_self,if_true]
  ·simp +contextual -dsimp -implicitDefEqProofs (maxSteps:=5000000) only [go_sem,reduceIte,reduceCtorEq,Nat.reduceEqDiff,Nat.reduceBEq,Nat.reduceAdd,Nat.reduceLeDiff,Nat.reduceMul,Nat.reduceLT,Int.reduceEq,Int.reduceLT,Int.reduceLE,hi,h1,h2,sameP,and_false,if_false]
 ·simp +contextual -dsimp -implicitDefEqProofs (maxSteps:=5000000) only [go_sem,reduceIte,reduceCtorEq,Nat.reduceEqDiff,Nat.reduceBEq,Nat.reduceAdd,Nat.reduceLeDiff,Nat.reduceMul,Nat.reduceLT,Int.reduceEq,Int.reduceLT,Int.reduceLE,hi,h1,sameP,false_and,if_false]
def tailS (p : List Line) (k : Nat) : List Nat := if k < p.length ∧ followsK (p.getD k default).kind = true then tailQ p (p.getD k default).depth k else []
theorem tailS_same (p : List Line) (i : Nat) : tailS p (sameP p i) = tailQ p (p.getD i default).depth (endP p i) := by
 rw [tailQ_step]
 unfold sameP
 by_cases h : endP p i < p.length ∧ (p.getD (endP p i) default).depth = (p.getD i default).depth
 ·rw [if_pos h]
  unfold tailS
  by_cases h3 : followsK (p.getD (endP p i) default).kind = true
  ·rw [if_pos ⟨h.1, h3⟩, if_pos ⟨h.1, h.2, h3⟩, tailQ_step, if_pos ⟨h.1, rfl, h3⟩, h.2]
  ·rw [if_neg (fun q => h3 q.2), if_neg (fun q => h3 q.2.2)]
 ·rw [if_neg h, if_neg (fun q => h ⟨q.1, q.2.1⟩)]
  unfold tailS
  rw [if_neg (fun q => by omega)]
theorem tailS_step {p : List Line} {k : Nat} (h1 : k < p.length) (h2 : followsK (p.getD k default).kind = true) : tailS p k = k :: tailS p (sameP p k) := by
 rw [tailS_same]
 unfold tailS
 rw [if_pos ⟨h1, h2⟩, tailQ_step, if_pos ⟨h1, rfl, h2⟩]
theorem sameP_gt {p : List Line} {i : Nat} (h : i < p.length) : i < sameP p i ∧ sameP p i ≤ p.length := by
 have := endP_gt p i
 unfold sameP; split <;> omega
theorem c_chainOf (p : List Line) (cl : Bool) (i : Nat) (H : AHeap) (hi : i < p.length) (hp : p.length ≤ 4398046511104) : ACalls Tryz.prog 174 [aProg p cl, I i] H fun r H' => Grow rI 1 3 H H' r (toI (chainP p i)) := by
 refine acalls_len (by kernel_rfl) (List.mem_cons_self ..) fun hl => ?_
 rw [List.length_map] at hl
 refine acalls_of0 Tryz.func174 rfl (by kernel_rfl) rfl rfl (awp_sound (fz := fun _ => []) (im := fun s => s == 29) mixed _ _ _ _ (by kernel_rfl) ?_)
 simp +contextual -dsimp -implicitDefEqProofs (maxSteps:=5000000) only [go_sem,reduceIte,reduceCtorEq,Nat.reduceEqDiff,Nat.reduceBEq,Nat.reduceAdd,Nat.reduceLeDiff,Nat.reduceMul,Nat.reduceLT,Int.reduceEq,Int.reduceLT,Int.reduceLE]
 intro b5 hb5
 refine (c_sameNext p cl i _ hi).det ?_
 simp +contextual -dsimp -implicitDefEqProofs (maxSteps:=5000000) only [go_sem,reduceIte,reduceCtorEq,Nat.reduceEqDiff,Nat.reduceBEq,Nat.reduceAdd,Nat.reduceLeDiff,Nat.reduceMul,Nat.reduceLT,Int.reduceEq,Int.reduceLT,Int.reduceLE]
 refine aloop mixed (fz := fun _ => []) (im := fun s => s == 8 || s == 29) (by kernel_rfl) (fun m tm H' => ∃ (k : Nat) (out : List Nat) (x : AV), m = p.length - k ∧ k ≤ p.length ∧ out.length ≤ k ∧ Grow rI 1 3 H H' x (toI out) ∧ tm 0 = aProg p cl ∧ tm 5 = x ∧ tm 6 = I k ∧ out ++ tailS p k = chainP p i) (p.length - sameP p i) ⟨sameP p i, [i], .sl b5 1 0 1 true, rfl, (sameP_gt hi).2, by have := (sameP_gt hi).1; simp; omega, .inr ⟨b5, true, hb5, rfl, rfl⟩, ?_⟩ ?_
 ·simp +contextual -dsimp -implicitDefEqProofs (maxSteps:=5000000) only [go_sem,reduceIte,reduceCtorEq,Nat.reduceEqDiff,Nat.reduceBEq,Nat.reduceAdd,Nat.reduceLeDiff,Nat.reduceMul,Nat.reduceLT,Int.reduceEq,Int.reduceLT,Int.reduceLE,tailS_same,chainP_tail]
 ·rintro m tm H' ⟨k, out, x, rfl, hk, hol, hg, t0, t5, t6, he⟩
  simp +contextual -dsimp -implicitDefEqProofs (maxSteps:=5000000) only [go_sem,reduceIte,reduceCtorEq,Nat.reduceEqDiff,Nat.reduceBEq,Nat.reduceAdd,Nat.reduceLeDiff,Nat.reduceMul,Nat.reduceLT,Int.reduceEq,Int.reduceLT,Int.reduceLE,t0,t5,t6,hi]
  have stop : ¬ (k < p.length ∧ followsK (p.getD k default).kind = true) → out = chainP p i := fun q => by unfold tailS at he; rw [if_neg q] at he; simpa using he
  by_cases h1 : k < p.length
  ·simp +contextual -dsimp -implicitDefEqProofs (maxSteps:=5000000) only [go_sem,reduceIte,reduceCtorEq,Nat.reduceEqDiff,Nat.reduceBEq,Nat.reduceAdd,Nat.reduceLeDiff,Nat.reduceMul,Nat.reduceLT,Int.reduceEq,Int.reduceLT,Int.reduceLE,t0,t5,t6,hi,h1]
   refine (c_follows _ _).det ?_
   by_cases h3 : followsK (p.getD k default).kind = true
   ·rw [tailS_step h1 h3] at he
    simp +contextual -dsimp -implicitDefEqProofs (maxSteps:=5000000) only [go_sem,reduceIte,reduceCtorEq,Nat.reduceEqDiff,Nat.reduceBEq,Nat.reduceAdd,Nat.reduceLeDiff,Nat.reduceMul,Nat.reduceLT,Int.reduceEq,Int.reduceLT,Int.reduceLE,t0,t5,t6,hi,h1,h3]
    refine toI_app hg (by omega) fun x' H'' hg' => ?_
    simp +contextual -dsimp -implicitDefEqProofs (maxSteps:=5000000) only [go_sem,reduceIte,reduceCtorEq,Nat.reduceEqDiff,Nat.reduceBEq,Nat.reduceAdd,Nat.reduceLeDiff,Nat.reduceMul,Nat.reduceLT,Int.reduceEq,Int.reduceLT,Int.reduceLE,t0,t5,t6,hi,h1,h3]
    refine (c_sameNext p cl k _ h1).det ?_
    simp +contextual -dsimp -implicitDefEqProofs (maxSteps:=5000000) only [go_sem,reduceIte,reduceCtorEq,Nat.reduceEqDiff,Nat.reduceBEq,Nat.reduceAdd,Nat.reduceLeDiff,Nat.reduceMul,Nat.reduceLT,Int.reduceEq,Int.reduceLT,Int.reduceLE,t0,t5,t6,hi,h1,h3]
    have g1 := sameP_gt h1
    exact ⟨_, by omega, sameP p k, out ++ [k], x', rfl, g1.2, by simp; omega, hg', by rw [← he]; simp⟩
   ·have h3' : followsK (p.getD k default).kind = false := by simpa using h3
    simp +contextual -dsimp -implicitDefEqProofs (maxSteps:=5000000) only [go_sem,reduceIte,reduceCtorEq,Nat.reduceEqDiff,Nat.reduceBEq,Nat.reduceAdd,Nat.reduceLeDiff,Nat.reduceMul,Nat.reduceLT,Int.reduceEq,Int.reduceLT,Int.reduceLE,t0,t5,t6,hi,h1,h3']
    rw [← stop (fun q => h3 q.2)]; exact hg
  ·simp +contextual -dsimp -implicitDefEqProofs (maxSteps:=5000000) only [go_sem,reduceIte,reduceCtorEq,Nat.reduceEqDiff,Nat.reduceBEq,Nat.reduceAdd,Nat.reduceLeDiff,Nat.reduceMul,Nat.reduceLT,Int.reduceEq,Int.reduceLT,Int.reduceLE,t0,t5,t6,hi,h1]
   rw [← stop (fun q => h1 q.1)]; exact hg
theorem sibN_len : ∀ (f : Fo) (i : Nat), (sibN f i).length ≤ f.size
 | .nil, i => Nat.le_refl _
 | .node k a b kids rest, i => by have := sibN_len rest (i + 1 + kids.size); simp only [sibN,Fo.size,List.length_cons]; omega
theorem c_siblings (p : List Line) (cl : Bool) (f : Fo) (d : Int) (i : Nat) (H : AHeap) (ha : At p i d f) (hp : p.length ≤ 4398046511104) : ACalls Tryz.prog 106 [aProg p cl, I i, I (i + f.size : Nat)] H fun r H' => Grow rI 1 3 H H' r (toI (sibN f i)) := by
 have hlen := ha.len
 refine acalls_len (by kernel_rfl) (List.mem_cons_self ..) fun hl => ?_
 rw [List.length_map] at hl
 refine acalls_of0 Tryz.func106 rfl (by kernel_rfl) rfl rfl (awp_sound (fz := fun _ => []) (im := fun s => s == 9 || s == 19) mixed _ _ _ _ (by kernel_rfl) ?_)
 simp +contextual -dsimp -implicitDefEqProofs (maxSteps:=5000000) only [go_sem,reduceIte,reduceCtorEq,Nat.reduceEqDiff,Nat.reduceBEq,Nat.reduceAdd,Nat.reduceLeDiff,Nat.reduceMul,Nat.reduceLT,Int.reduceEq,Int.reduceLT,Int.reduceLE]
 refine aloop mixed (fz := fun _ => []) (im := fun s => s == 9 || s == 19) (by kernel_rfl) (fun m tm H' => ∃ (k : Nat) (g : Fo) (out : List Nat) (x : AV), m = g.size ∧ At p k d g ∧ k + g.size = i + f.size ∧ out.length ≤ k ∧ Grow rI 1 3 H H' x (toI out) ∧ tm 0 = aProg p cl ∧ tm 2 = I (i + f.size : Nat) ∧ tm 7 = x ∧ tm 8 = I k ∧ out ++ sibN g k = sibN f i) f.size ⟨i, f, [], _, rfl, ha, rfl, by simp, grow_nil, ?_⟩ ?_
 ·simp +contextual -dsimp -implicitDefEqProofs (maxSteps:=5000000) only [go_sem,reduceIte,reduceCtorEq,Nat.reduceEqDiff,Nat.reduceBEq,Nat.reduceAdd,Nat.reduceLeDiff,Nat.reduceMul,Nat.reduceLT,Int.reduceEq,Int.reduceLT,Int.reduceLE]
 ·rintro m tm H' ⟨k, g, out, x, rfl, hk, hkg, hol, hg, t0, t2, t7, t8, he⟩
  cases g with
  | nil =>
   have h1 : ¬ k < i + f.size := by simp only [Fo.size] at hkg; omega
   simp +contextual -dsimp -implicitDefEqProofs (maxSteps:=5000000) only [go_sem,reduceIte,reduceCtorEq,Nat.reduceEqDiff,Nat.reduceBEq,Nat.reduceAdd,Nat.reduceLeDiff,Nat.reduceMul,Nat.reduceLT,Int.reduceEq,Int.reduceLT,Int.reduceLE,t0,t2,t7,t8,h1]
   simp only [sibN,List.append_nil] at he
   rw [← he]
   exact hg
  | node ki a b kids rest =>
   have hh := hk.head.1
   have hr := hk.rest
   have hb : k + 1 + kids.size + rest.size = i + f.size := by simp only [Fo.size] at hkg; omega
   have h1 : k < i + f.size := by omega
   simp +contextual -dsimp -implicitDefEqProofs (maxSteps:=5000000) only [go_sem,reduceIte,reduceCtorEq,Nat.reduceEqDiff,Nat.reduceBEq,Nat.reduceAdd,Nat.reduceLeDiff,Nat.reduceMul,Nat.reduceLT,Int.reduceEq,Int.reduceLT,Int.reduceLE,t0,t2,t7,t8,h1]
   refine toI_app hg (by omega) fun x' H'' hg' => ?_
   simp +contextual -dsimp -implicitDefEqProofs (maxSteps:=5000000) only [go_sem,reduceIte,reduceCtorEq,Nat.reduceEqDiff,Nat.reduceBEq,Nat.reduceAdd,Nat.reduceLeDiff,Nat.reduceMul,Nat.reduceLT,Int.reduceEq,Int.reduceLT,Int.reduceLE,t0,t2,t7,t8,h1]
   refine (c_endOf p cl k _ hh).det ?_
   rw [hk.endP]
   simp +contextual -dsimp -implicitDefEqProofs (maxSteps:=5000000) only [go_sem,reduceIte,reduceCtorEq,Nat.reduceEqDiff,Nat.reduceBEq,Nat.reduceAdd,Nat.reduceLeDiff,Nat.reduceMul,Nat.reduceLT,Int.reduceEq,Int.reduceLT,Int.reduceLE,t0,t2,t7,t8,h1]
   exact ⟨_, by simp only [Fo.size]; omega,k + 1 + kids.size,rest,out ++ [k],x',rfl,hr,hb,by simp; omega,hg',by rw [← he]; simp [sibN]⟩
end
section
open Go Go.Sim
set_option maxRecDepth 100000

def kindsP (p : List Line) (l : List Nat) : List Int := l.map fun k => (p.getD k default).kind
theorem kindsP_len (p : List Line) (l : List Nat) : (kindsP p l).length = l.length := by simp [kindsP]
theorem kindsP_drop {p : List Line} {l : List Nat} {k : Nat} (h : k < l.length) : (kindsP p l).drop k = (p.getD (l.getD k default) default).kind :: (kindsP p l).drop (k + 1) := by
 rw [List.drop_eq_getElem_cons (by rw [kindsP_len]; exact h)]
 congr 1
 simp [kindsP, List.getD_eq_getElem?_getD, List.getElem?_eq_getElem h]
theorem take_next {l : List Int} {k : Nat} (h : k < l.length) : l.take (k + 1) = l.take k ++ [l.getD k default] := by
 rw [List.take_succ_eq_append_getElem h, List.getD_eq_getElem?_getD, List.getElem?_eq_getElem h]; rfl
theorem kindsP_at {p : List Line} {l : List Nat} {k : Nat} (h : k < l.length) : (kindsP p l).getD k default = (p.getD (l.getD k default) default).kind := by
 simp [kindsP, List.getD_eq_getElem?_getD, List.getElem?_eq_getElem h]
def n8 (l : List Int) : Nat := (l.filter fun k => decide (k = 8)).length
theorem n8_next {l : List Int} {k : Nat} (h : k < l.length) : n8 (l.take (k + 1)) = n8 (l.take k) + if l.getD k default = 8 then 1 else 0 := by
 rw [take_next h]
 unfold n8
 rw [List.filter_append, List.length_append]
 congr 1
 by_cases q : l.getD k default = 8
 ·rw [if_pos q, List.filter_cons_of_pos (by simpa using q)]; rfl
 ·rw [if_neg q, List.filter_cons_of_neg (by simpa using q)]; rfl
theorem n8_le (l : List Int) (k : Nat) : n8 (l.take k) ≤ k := by
 unfold n8
 exact Nat.le_trans (List.length_filter_le _ _) (by rw [List.length_take]; omega)
theorem c_tryOk (p : List Line) (cl : Bool) (i : Nat) (l : List Nat) (cl' : Bool) (H : AHeap) (hm : ∀ j ∈ l, j < p.length) : ACalls Tryz.prog 107 [aProg p cl, .vsl ((toI (i :: l)).map rI) cl'] H fun r H' => r = B (tryOkF (kindsP p l)) ∧ H' = H := by
 refine acalls_len (by kernel_rfl) (List.mem_cons_of_mem _ (List.mem_cons_self ..)) fun hl => ?_
 rw [List.length_map, toI_len] at hl
 simp only [List.length_cons] at hl
 have ed : ∀ k : Nat, (toI (i :: l)).drop k = toI ((i :: l).drop k) := fun k => toI_drop _ _
 refine acalls_of0 Tryz.func107 rfl (by kernel_rfl) rfl rfl (awp_sound (fz := fun _ => []) (im := fun _ => false) mixed _ _ _ _ (by kernel_rfl) ?_)
 simp +contextual -dsimp -implicitDefEqProofs (maxSteps:=5000000) only [go_sem,reduceIte,reduceCtorEq,Nat.reduceEqDiff,Nat.reduceBEq,Nat.reduceAdd,Nat.reduceLeDiff,Nat.reduceMul,Nat.reduceLT,Int.reduceEq,Int.reduceLT,Int.reduceLE,toI_len,List.length_cons]
 refine ⟨by omega, ?_⟩
 refine aloop mixed (fz := fun _ => []) (im := fun _ => false) (by kernel_rfl) (fun m tm H' => ∃ (k : Nat) (last : Int), m = l.length - k ∧ k ≤ l.length ∧ H' = H ∧ tm 0 = aProg p cl ∧ tm 1 = .vsl ((toI (i :: l)).map rI) cl' ∧ tm 5 = I (n8 ((kindsP p l).take k)) ∧ tm 6 = I last ∧ tm 11 = .vsl ((toI l).map rI) cl' ∧ tm 12 = I l.length ∧ tm 13 = I k ∧ tryG 7 (kindsP p l) = tryG last ((kindsP p l).drop k)) l.length ⟨0, 7, ?_⟩ ?_
 ·simp +contextual -dsimp -implicitDefEqProofs (maxSteps:=5000000) only [go_sem,reduceIte,reduceCtorEq,Nat.reduceEqDiff,Nat.reduceBEq,Nat.reduceAdd,Nat.reduceLeDiff,Nat.reduceMul,Nat.reduceLT,Int.reduceEq,Int.reduceLT,Int.reduceLE]
  refine ⟨by omega, rfl, ?_, ?_⟩
  ·rw [ed]; rfl
  ·rw [ed]; simp [toI_len]
 ·rintro m tm _ ⟨k, last, rfl, hk, rfl, t0, t1, t5, t6, t11, t12, t13, he⟩
  by_cases hlt : k < l.length
  ·have hj := hm (l.getD k default) (by rw [List.getD_eq_getElem?_getD, List.getElem?_eq_getElem hlt]; exact List.getElem_mem hlt)
   rw [kindsP_drop hlt] at he
   have hn := n8_next (l := kindsP p l) (k := k) (by rw [kindsP_len]; exact hlt)
   have hn2 := n8_le (kindsP p l) k
   rw [kindsP_at hlt] at hn
   generalize hkd : (p.getD (l.getD k default) default).kind = kd at he hn
   simp +contextual -dsimp -implicitDefEqProofs (maxSteps:=5000000) only [go_sem,reduceIte,reduceCtorEq,Nat.reduceEqDiff,Nat.reduceBEq,Nat.reduceAdd,Nat.reduceLeDiff,Nat.reduceMul,Nat.reduceLT,Int.reduceEq,Int.reduceLT,Int.reduceLE,t0,t1,t5,t6,t11,t12,t13,hlt,toI_len,toI_at,hj,hkd]
   have bad : ((decide (kd = 8) && decide (last ≤ 8)) = false) → ((decide (kd = 9) && decide (last = 8)) = false) → ((decide (kd = 10) && decide (last < 10)) = false) → tryOkF (kindsP p l) = false := by
    intro q1 q2 q3
    unfold tryOkF
    rw [he]
    simp only [tryG,q1,q2,q3,Bool.or_self,Bool.false_and]
   have good : ((decide (kd = 8) && decide (last ≤ 8)) = true ∨ (decide (kd = 9) && decide (last = 8)) = true ∨ (decide (kd = 10) && decide (last < 10)) = true) → tryG 7 (kindsP p l) = tryG kd ((kindsP p l).drop (k + 1)) := by
    intro q
    rw [he]
    simp only [tryG]
    rcases q with q | q | q <;> simp only [q,Bool.true_or,Bool.or_true,Bool.true_and]
   refine ⟨fun q => ?_, fun q1 => ⟨fun q => ?_, fun q2 => ⟨fun q => ?_, fun q3 => by rw [bad q1 q2 q3]⟩⟩⟩
   ·rw [if_pos q.1] at hn
    exact ⟨_, by omega, k + 1, 8, rfl, hlt, I_wrap (by omega) (by omega) (by rw [hn]; omega), rfl, I_wrap (by omega) (by omega) (by omega), by rw [good (.inl (by simp [q]))]; rw [q.1]⟩
   ·rw [if_neg (by omega)] at hn
    exact ⟨_, by omega, k + 1, 9, rfl, hlt, by rw [hn]; rfl, rfl, I_wrap (by omega) (by omega) (by omega), by rw [good (.inr (.inl (by simp [q])))]; rw [q.1]⟩
   ·rw [if_neg (by omega)] at hn
    exact ⟨_, by omega, k + 1, 10, rfl, hlt, by rw [hn]; rfl, rfl, I_wrap (by omega) (by omega) (by omega), by rw [good (.inr (.inr (by simp [q])))]; rw [q.1]⟩
  ·simp +contextual -dsimp -implicitDefEqProofs (maxSteps:=5000000) only [go_sem,reduceIte,reduceCtorEq,Nat.reduceEqDiff,Nat.reduceBEq,Nat.reduceAdd,Nat.reduceLeDiff,Nat.reduceMul,Nat.reduceLT,Int.reduceEq,Int.reduceLT,Int.reduceLE,t0,t1,t5,t6,t11,t12,t13,hlt,toI_len]
   have hk2 : k = l.length := by omega
   rw [hk2, ← kindsP_len p l, List.drop_length] at he
   rw [hk2, ← kindsP_len p l, List.take_length]
   unfold tryOkF
   rw [he]
   simp only [tryG,Bool.true_and]
   congr 2
   ·exact decide_eq_decide.2 (by omega)
   ·exact decide_eq_decide.2 (by unfold n8; omega)
def chG : Bool → Int → Nat → List Int → Bool
 | _, _, _, [] => true
 | fst, prev, ex, k :: ks => !((!fst && (decide (k < prev) || (decide (k = prev) && !decide (k = 8)))) || (decide (k = 9) && decide ((if k = 8 then ex + 1 else ex) = 0))) && chG false k (if k = 8 then ex + 1 else ex) ks
theorem chG_tryG : ∀ (ks : List Int) (fst : Bool) (prev : Int) (ex : Nat) (last : Int), (∀ k ∈ ks, followsK k = true) → (fst = true → last = 7 ∧ ex = 0) → (fst = false → last = prev ∧ 8 ≤ prev ∧ prev ≤ 10 ∧ (prev = 8 → 1 ≤ ex)) → chG fst prev ex ks = tryG last ks
 | [], _, _, _, _, _, _, _ => rfl
 | k :: ks, fst, prev, ex, last, hf, h1, h2 => by
  have hk := hf k (by simp)
  simp only [followsK,inR,Bool.and_eq_true,decide_eq_true_eq] at hk
  simp only [chG,tryG]
  have hrest : ∀ j ∈ ks, followsK j = true := fun j hj => hf j (by simp [hj])
  have hh : (!((!fst && (decide (k < prev) || (decide (k = prev) && !decide (k = 8)))) || (decide (k = 9) && decide ((if k = 8 then ex + 1 else ex) = 0)))) = ((decide (k = 8) && decide (last ≤ 8)) || ((decide (k = 9) && decide (last = 8)) || (decide (k = 10) && decide (last < 10)))) := by
   rw [Bool.eq_iff_iff]
   cases fst
   ·obtain ⟨rfl, a1, a2, a3⟩ := h2 rfl
    by_cases e8 : k = 8
    ·simp [e8]
    ·simp [e8]
     omega
   ·obtain ⟨rfl, rfl⟩ := h1 rfl
    by_cases e8 : k = 8
    ·simp [e8]
    ·simp [e8]
     omega
  rw [hh]
  cases hc : ((decide (k = 8) && decide (last ≤ 8)) || ((decide (k = 9) && decide (last = 8)) || (decide (k = 10) && decide (last < 10))))
  ·simp only [Bool.false_and]
  ·simp only [Bool.true_and]
   exact chG_tryG ks false k _ k hrest (fun q => by cases q) (fun _ => ⟨rfl, hk.1, hk.2, fun q => by rw [if_pos q]; omega⟩)
theorem c_validChain (p : List Line) (cl : Bool) (i : Nat) (H : AHeap) (hi : i < p.length) (hp : p.length ≤ 4398046511104) : ACalls Tryz.prog 143 [aProg p cl, I i] H fun r H' => r = B (tryOkF (kindsP p (tailQ p (p.getD i default).depth (endP p i)))) ∧ H' = H := by
 have hall := chainP_mem hi
 have hcl := endP_len hi
 have hfol : ∀ k ∈ kindsP p (tailQ p (p.getD i default).depth (endP p i)), followsK k = true := by
  intro k hk
  simp only [kindsP,List.mem_map] at hk
  obtain ⟨j, hj, rfl⟩ := hk
  exact (tailP_mem _ _ j hj).2
 rw [chainP_tail] at hall hcl
 refine acalls_of0 Tryz.func143 rfl (by kernel_rfl) rfl rfl (awp_sound (fz := fun _ => []) (im := fun _ => false) mixed _ _ _ _ (by kernel_rfl) ?_)
 simp +contextual -dsimp -implicitDefEqProofs (maxSteps:=5000000) only [go_sem,reduceIte,reduceCtorEq,Nat.reduceEqDiff,Nat.reduceBEq,Nat.reduceAdd,Nat.reduceLeDiff,Nat.reduceMul,Nat.reduceLT,Int.reduceEq,Int.reduceLT,Int.reduceLE]
 refine acalls_frz (c_chainOf p cl i _ hi hp) fun cl1 => ?_
 rw [chainP_tail]
 generalize tailQ p (p.getD i default).depth (endP p i) = l at hall hcl hfol ⊢
 simp only [List.length_cons] at hcl
 have key := chG_tryG (kindsP p l) true 0 0 7 hfol (fun _ => ⟨rfl, rfl⟩) (fun q => by cases q)
 simp +contextual -dsimp -implicitDefEqProofs (maxSteps:=5000000) only [go_sem,reduceIte,reduceCtorEq,Nat.reduceEqDiff,Nat.reduceBEq,Nat.reduceAdd,Nat.reduceLeDiff,Nat.reduceMul,Nat.reduceLT,Int.reduceEq,Int.reduceLT,Int.reduceLE]
 refine aloop mixed (fz := fun _ => []) (im := fun _ => false) (by kernel_rfl) (fun m tm H' => ∃ (k : Nat) (prev : Int), m = l.length - k ∧ k ≤ l.length ∧ H' = H ∧ tm 0 = aProg p cl ∧ tm 5 = .vsl ((toI (i :: l)).map rI) cl1 ∧ tm 6 = I (n8 ((kindsP p l).take k)) ∧ tm 7 = I (k + 1 : Nat) ∧ (k ≠ 0 → prev = (p.getD (l.getD (k - 1) default) default).kind) ∧ chG true 0 0 (kindsP p l) = chG (decide (k = 0)) prev (n8 ((kindsP p l).take k)) ((kindsP p l).drop k)) l.length ⟨0, 0, ?_⟩ ?_
 ·simp +contextual -dsimp -implicitDefEqProofs (maxSteps:=5000000) only [go_sem,reduceIte,reduceCtorEq,Nat.reduceEqDiff,Nat.reduceBEq,Nat.reduceAdd,Nat.reduceLeDiff,Nat.reduceMul,Nat.reduceLT,Int.reduceEq,Int.reduceLT,Int.reduceLE]
  exact ⟨by omega, rfl, rfl, rfl⟩
 ·rintro m tm _ ⟨k, prev, rfl, hk, rfl, t0, t5, t6, t7, hprev, he⟩
  by_cases hlt : k < l.length
  ·have hj := hall (l.getD k default) (by rw [List.getD_eq_getElem?_getD, List.getElem?_eq_getElem hlt]; simp)
   rw [kindsP_drop hlt] at he
   have hn := n8_next (l := kindsP p l) (k := k) (by rw [kindsP_len]; exact hlt)
   have hn2 := n8_le (kindsP p l) k
   rw [kindsP_at hlt] at hn
   have eat : (i :: l).getD (k + 1) default = l.getD k default := by simp [List.getD_eq_getElem?_getD]
   have hlt1 : k + 1 < l.length + 1 := by omega
   generalize hkd : (p.getD (l.getD k default) default).kind = kd at he hn
   have nx : ∀ e : Nat, n8 ((kindsP p l).take k) = e → ∃ e', n8 ((kindsP p l).take (k + 1)) = e' ∧ e' = if kd = 8 then e + 1 else e := fun e he => ⟨_, rfl, by rw [hn, he]; split <;> rfl⟩
   generalize hex : n8 ((kindsP p l).take k) = ex at he hn2 t6
   obtain ⟨ex', hex', hexv⟩ := nx ex hex
   simp only [chG] at he
   rw [← hexv] at he
   have fin : ∀ m' : Nat, (!decide (k = 0) && (decide (kd < prev) || (decide (kd = prev) && !decide (kd = 8)))) = false → (decide (kd = 9) && decide (ex' = 0)) = false → ∃ m', m' < l.length - k ∧ ∃ (k_1 : Nat) (prev : Int), m' = l.length - k_1 ∧ k_1 ≤ l.length ∧ I ex' = I (n8 ((kindsP p l).take k_1)) ∧ AV.lit (.int .i64 (IntKind.i64.wrap (((k + 1 : Nat) : Int) + 1))) = I (k_1 + 1 : Nat) ∧ (¬ k_1 = 0 → prev = (p.getD (l.getD (k_1 - 1) default) default).kind) ∧ chG true 0 0 (kindsP p l) = chG (decide (k_1 = 0)) prev (n8 ((kindsP p l).take k_1)) ((kindsP p l).drop k_1) := by
    intro _ q1 q2
    refine ⟨_, by omega, k + 1, kd, rfl, hlt, by rw [hex'], I_wrap (by omega) (by omega) (by omega), fun _ => by rw [Nat.add_sub_cancel, hkd], ?_⟩
    rw [he, q1, q2, hex']
    simp
   have bad : (!decide (k = 0) && (decide (kd < prev) || (decide (kd = prev) && !decide (kd = 8)))) = true ∨ (decide (kd = 9) && decide (ex' = 0)) = true → B false = B (tryOkF (kindsP p l)) := by
    intro q
    unfold tryOkF
    rw [← key, he]
    rcases q with q | q <;> simp only [q,Bool.true_or,Bool.or_true,Bool.not_true,Bool.false_and]
   have hw8 : kd = 8 → IntKind.i64.wrap ((ex : Int) + 1) = (ex' : Int) := fun q => by rw [w64 (by omega) (by omega), hexv, if_pos q]; rfl
   by_cases k0 : k = 0
   ·have c1 : ¬ (1 : Int) < ((k + 1 : Nat) : Int) := by omega
    by_cases h8 : kd = 8
    ·have hw := hw8 h8
     simp +contextual -dsimp -implicitDefEqProofs (maxSteps:=5000000) only [go_sem,reduceIte,reduceCtorEq,Nat.reduceEqDiff,Nat.reduceBEq,Nat.reduceAdd,Nat.reduceLeDiff,Nat.reduceMul,Nat.reduceLT,Int.reduceEq,Int.reduceLT,Int.reduceLE,t0,t5,t6,t7,hlt1,toI_len,toI_at,hj,List.length_cons,eat,hkd,h8,c1,hw]
     exact fin 0 (by simp [k0]) (by simp [h8])
    ·have hw : ex' = ex := by rw [hexv, if_neg h8]
     rw [hw] at fin bad
     simp +contextual -dsimp -implicitDefEqProofs (maxSteps:=5000000) only [go_sem,reduceIte,reduceCtorEq,Nat.reduceEqDiff,Nat.reduceBEq,Nat.reduceAdd,Nat.reduceLeDiff,Nat.reduceMul,Nat.reduceLT,Int.reduceEq,Int.reduceLT,Int.reduceLE,t0,t5,t6,t7,hlt1,toI_len,toI_at,hj,List.length_cons,eat,hkd,h8,c1]
     exact ⟨fun q => bad (.inr (by simp [q.1, q.2])), fun q => fin 0 (by simp [k0]) q⟩
   ·have c1 : (1 : Int) < ((k + 1 : Nat) : Int) := by omega
    have hw0 : IntKind.i64.wrap (((k + 1 : Nat) : Int) - 1) = (k : Int) := by rw [w64 (by omega) (by omega)]; omega
    have c2 : (k : Int) < ((l.length + 1 : Nat) : Int) := by omega
    have c3 : k < l.length + 1 := by omega
    have c4 : (i :: l).getD k default = l.getD (k - 1) default := by
     obtain ⟨k', rfl⟩ : ∃ k', k = k' + 1 := ⟨k - 1, by omega⟩
     simp [List.getD_eq_getElem?_getD]
    have hj2 := hall (l.getD (k - 1) default) (by rw [List.getD_eq_getElem?_getD, List.getElem?_eq_getElem (by omega)]; simp)
    have c5 := hprev k0
    by_cases h8 : kd = 8
    ·have hw := hw8 h8
     simp +contextual -dsimp -implicitDefEqProofs (maxSteps:=5000000) only [go_sem,reduceIte,reduceCtorEq,Nat.reduceEqDiff,Nat.reduceBEq,Nat.reduceAdd,Nat.reduceLeDiff,Nat.reduceMul,Nat.reduceLT,Int.reduceEq,Int.reduceLT,Int.reduceLE,t0,t5,t6,t7,hlt1,toI_len,toI_at,hj,List.length_cons,eat,hkd,h8,c1,hw,hw0,c2,c3,c4,hj2,← c5]
     exact ⟨fun q => bad (.inl (by simp [k0, h8, q])), fun q => fin 0 (by simp [k0, h8]; simpa using q) (by simp [h8])⟩
    ·have hw : ex' = ex := by rw [hexv, if_neg h8]
     rw [hw] at fin bad
     simp +contextual -dsimp -implicitDefEqProofs (maxSteps:=5000000) only [go_sem,reduceIte,reduceCtorEq,Nat.reduceEqDiff,Nat.reduceBEq,Nat.reduceAdd,Nat.reduceLeDiff,Nat.reduceMul,Nat.reduceLT,Int.reduceEq,Int.reduceLT,Int.reduceLE,t0,t5,t6,t7,hlt1,toI_len,toI_at,hj,List.length_cons,eat,hkd,h8,c1,hw0,c2,c3,c4,hj2,← c5]
     refine ⟨fun q => ?_, fun q => fin 0 ?_ q.2⟩
     ·rcases q with q | q
      ·exact bad (.inl (by simp [k0, h8]; omega))
      ·exact bad (.inr (by simp [q.1, q.2]))
     ·simp [k0, h8]; simpa using q.1
  ·have hlt1 : ¬ k + 1 < l.length + 1 := by omega
   simp +contextual -dsimp -implicitDefEqProofs (maxSteps:=5000000) only [go_sem,reduceIte,reduceCtorEq,Nat.reduceEqDiff,Nat.reduceBEq,Nat.reduceAdd,Nat.reduceLeDiff,Nat.reduceMul,Nat.reduceLT,Int.reduceEq,Int.reduceLT,Int.reduceLE,t0,t5,t6,t7,hlt1,toI_len,List.length_cons]
   have hk2 : k = l.length := by omega
   rw [hk2, ← kindsP_len p l, List.drop_length] at he
   rw [hk2, ← kindsP_len p l, List.take_length]
   unfold tryOkF
   rw [← key, he]
   simp only [chG,Bool.true_and]
   congr 2
   ·exact decide_eq_decide.2 (by omega)
   ·exact decide_eq_decide.2 (by unfold n8; omega)
end
section
open Go Go.Sim
set_option maxRecDepth 100000
set_option maxHeartbeats 4000000

def chainB : Fo → Nat → List (Nat × Fo)
 | .nil, _ => []
 | .node k _ _ kids rest, i => if followsK k = true then (i, kids) :: chainB rest (i + 1 + kids.size) else []
theorem chainB_fst : ∀ (f : Fo) (i : Nat), (chainB f i).map (·.1) = chainN f i
 | .nil, i => rfl
 | .node k a b kids rest, i => by
  simp only [chainB,chainN]
  split
  ·rw [List.map_cons, chainB_fst rest]
  ·rfl
theorem sibN_chain : ∀ (f : Fo) (i : Nat), sibN f i = chainN f i ++ sibN (skipF f) (skipN f i)
 | .nil, i => rfl
 | .node k a b kids rest, i => by
  simp only [chainN,skipF,skipN]
  split
  ·rw [sibN, sibN_chain rest]; rfl
  ·rfl
theorem okF_true (lp : Bool) : ∀ (f : Fo) (i : Nat), okF f lp true = ((chainB f i).all (fun q => okF q.2 lp false) && okF (skipF f) lp false)
 | .nil, i => rfl
 | .node k a b kids rest, i => by
  simp only [okF,chainB,skipF]
  by_cases h : followsK k = true
  ·rw [if_pos h, if_pos h, if_pos h, okF_true lp rest (i + 1 + kids.size), List.all_cons, Bool.true_and, Bool.and_assoc]
  ·rw [if_neg h, if_neg h, if_neg h]
   simp only [List.all_nil,Bool.true_and,okF]
   rw [if_neg h]
structure BlkAt (p : List Line) (d : Int) (n : Nat) (q : Nat × Fo) : Prop where
 lt : q.1 < p.length
 en : endP p q.1 = q.1 + 1 + q.2.size
 kids : At p (q.1 + 1) (d + 1) q.2
 small : q.2.size < n
theorem blkAt_node {p : List Line} {i n : Nat} {d k a b : Int} {kids rest : Fo} (h : At p i d (.node k a b kids rest)) (hn : (Fo.node k a b kids rest).size ≤ n) : BlkAt p d n (i, kids) :=
 ⟨h.head.1, h.endP, h.kids, by simp only [Fo.size] at hn; show kids.size < n; omega⟩
theorem chainB_at {p : List Line} {d : Int} {n : Nat} : ∀ (f : Fo) (i : Nat), At p i d f → f.size ≤ n → ∀ q ∈ chainB f i, BlkAt p d n q
 | .nil, i, h, hn, q, hq => by cases hq
 | .node k a b kids rest, i, h, hn, q, hq => by
  simp only [chainB] at hq
  split at hq
  ·rcases List.mem_cons.1 hq with rfl | hq
   ·exact blkAt_node h hn
   ·exact chainB_at rest _ h.rest (by simp only [Fo.size] at hn; omega) q hq
  ·cases hq
theorem kindsP_chain {p : List Line} {d : Int} : ∀ (f : Fo) (i : Nat), At p i d f → kindsP p (chainN f i) = headsK f
 | .nil, i, h => rfl
 | .node k a b kids rest, i, h => by
  simp only [chainN,headsK]
  split
  ·have := kindsP_chain rest _ h.rest
   simp only [kindsP,List.map_cons] at this ⊢
   rw [this, h.head.2]
  ·rfl
theorem drop_cons {l : List Nat} {n i : Nat} {r : List Nat} (h : l.drop n = i :: r) : n < l.length ∧ l.getD n default = i ∧ l.drop (n + 1) = r := by
 have hn : n < l.length := by
  rcases Nat.lt_or_ge n l.length with q | q
  ·exact q
  ·rw [List.drop_eq_nil_of_le q] at h; cases h
 rw [List.drop_eq_getElem_cons hn] at h
 injection h with h1 h2
 exact ⟨hn, by rw [List.getD_eq_getElem?_getD, List.getElem?_eq_getElem hn]; exact h1, h2⟩
theorem drop_nil {l : List Nat} {n : Nat} (h : l.drop n = []) : ¬ n < l.length := by
 intro q
 rw [List.drop_eq_getElem_cons q] at h
 cases h
theorem all_take_next {α : Type} [Inhabited α] {l : List α} {f : α → Bool} {k : Nat} (h : k < l.length) (e : (l.take k).all f = true) (e' : f (l.getD k default) = true) : (l.take (k + 1)).all f = true := by
 rw [List.take_succ_eq_append_getElem h, List.all_append, e]
 have : l.getD k default = l[k] := by rw [List.getD_eq_getElem?_getD, List.getElem?_eq_getElem h]; rfl
 rw [this] at e'
 simp [e']
theorem all_take_bad {α : Type} [Inhabited α] {l : List α} {f : α → Bool} {k : Nat} (h : k < l.length) (e' : f (l.getD k default) = false) : l.all f = false := by
 rw [List.all_eq_false]
 refine ⟨l.getD k default, ?_, by rw [e']; exact Bool.noConfusion⟩
 rw [List.getD_eq_getElem?_getD, List.getElem?_eq_getElem h]; exact List.getElem_mem h
theorem chain_len : ∀ (f : Fo) (i : Nat), (chainN f i).length + (skipF f).size ≤ f.size
 | .nil, i => Nat.le_refl _
 | .node k a b kids rest, i => by
  simp only [chainN,skipF]
  split
  ·have := chain_len rest (i + 1 + kids.size)
   simp only [Fo.size,List.length_cons]; omega
  ·simp
theorem c_blockOk (p : List Line) (cl : Bool) (hp : p.length ≤ 4398046511104) : ∀ (n : Nat) (f : Fo) (d : Int) (i : Nat) (lp : Bool) (H : AHeap), f.size < n → At p i d f →
  ACalls Tryz.prog 57 [aProg p cl, I i, I (i + f.size : Nat), B lp] H fun r H' => r = B (okF f lp false) ∧ H' = H := by
 intro n
 induction n with
 | zero => intro f d i lp H h; omega
 | succ n ih =>
  intro f d i lp H hfn hat
  have hfl := hat.len
  have sl := sibN_len f i
  have blk : ∀ (q : Nat × Fo) (lp : Bool) (H : AHeap), BlkAt p d n q → ACalls Tryz.prog 57 [aProg p cl, I (q.1 + 1 : Nat), I (q.1 + 1 + q.2.size : Nat), B lp] H fun r H' => r = B (okF q.2 lp false) ∧ H' = H :=
   fun q lp H h => ih q.2 (d + 1) (q.1 + 1) lp H h.small h.kids
  refine acalls_of0 Tryz.func57 rfl (by kernel_rfl) rfl rfl (awp_sound (fz := fun _ => []) (im := fun _ => false) mixed _ _ _ _ (by kernel_rfl) ?_)
  simp +contextual -dsimp -implicitDefEqProofs (maxSteps:=5000000) only [go_sem,reduceIte,reduceCtorEq,Nat.reduceEqDiff,Nat.reduceBEq,Nat.reduceAdd,Nat.reduceLeDiff,Nat.reduceMul,Nat.reduceLT,Int.reduceEq,Int.reduceLT,Int.reduceLE]
  refine acalls_frz (c_siblings p cl f d i _ hat hp) fun cl1 => ?_
  simp +contextual -dsimp -implicitDefEqProofs (maxSteps:=5000000) only [go_sem,reduceIte,reduceCtorEq,Nat.reduceEqDiff,Nat.reduceBEq,Nat.reduceAdd,Nat.reduceLeDiff,Nat.reduceMul,Nat.reduceLT,Int.reduceEq,Int.reduceLT,Int.reduceLE]
  refine aloop mixed (fz := fun _ => []) (im := fun _ => false) (by kernel_rfl) (fun m tm H' => ∃ (k j : Nat) (g : Fo), m = g.size ∧ H' = H ∧ At p j d g ∧ g.size ≤ f.size ∧ (sibN f i).drop k = sibN g j ∧ okF f lp false = okF g lp false ∧ k ≤ (sibN f i).length ∧ tm 0 = aProg p cl ∧ tm 3 = B lp ∧ tm 9 = .vsl ((toI (sibN f i)).map rI) cl1 ∧ tm 10 = I k) f.size ⟨0, i, f, rfl, rfl, hat, Nat.le_refl _, rfl, rfl, Nat.zero_le _, ?_⟩ ?_
  ·simp +contextual -dsimp -implicitDefEqProofs (maxSteps:=5000000) only [go_sem,reduceIte,reduceCtorEq,Nat.reduceEqDiff,Nat.reduceBEq,Nat.reduceAdd,Nat.reduceLeDiff,Nat.reduceMul,Nat.reduceLT,Int.reduceEq,Int.reduceLT,Int.reduceLE]
  ·rintro m tm H ⟨k, j, g, rfl, rfl, hg, hgs, hd, ho, hkl, t0, t3, t9, t10⟩
   cases g with
   | nil =>
    have h1 := drop_nil hd
    simp +contextual -dsimp -implicitDefEqProofs (maxSteps:=5000000) only [go_sem,reduceIte,reduceCtorEq,Nat.reduceEqDiff,Nat.reduceBEq,Nat.reduceAdd,Nat.reduceLeDiff,Nat.reduceMul,Nat.reduceLT,Int.reduceEq,Int.reduceLT,Int.reduceLE,t0,t3,t9,t10,toI_len,h1,ho]
    rfl
   | node ki a b kids rest =>
    obtain ⟨h1, h2, h3⟩ := drop_cons hd
    have hh := hg.head
    have hq := blkAt_node hg (n := n) (by omega)
    have hrl := hg.rest.len
    have hsz : (Fo.node ki a b kids rest).size = 1 + kids.size + rest.size := rfl
    have adv : okF f lp false = okF rest lp false → ∃ m', m' < (Fo.node ki a b kids rest).size ∧ ∃ (k_1 j : Nat) (g : Fo), m' = g.size ∧ At p j d g ∧ g.size ≤ f.size ∧ (sibN f i).drop k_1 = sibN g j ∧ okF f lp false = okF g lp false ∧ k_1 ≤ (sibN f i).length ∧ AV.lit (.int .i64 (IntKind.i64.wrap ((k : Int) + 1))) = I k_1 :=
     fun e => ⟨_, by rw [hsz]; omega, k + 1, j + 1 + kids.size, rest, rfl, hg.rest, by omega, h3, e, h1, I_wrap (by omega) (by omega) (by omega)⟩
    have on := ho
    simp only [okF] at on
    by_cases k56 : ki = 5 ∨ ki = 6
    ·rw [if_neg (by rcases k56 with q | q <;> subst q <;> decide), if_pos k56] at on
     have fin : (lp = false → B false = B (okF f lp false)) := fun q => by rw [on, q]; rfl
     have fin2 : lp = true → okF f lp false = okF rest lp false := fun q => by rw [on, q]; rfl
     by_cases k5 : ki = 5
     ·simp +contextual -dsimp -implicitDefEqProofs (maxSteps:=5000000) only [go_sem,reduceIte,reduceCtorEq,Nat.reduceEqDiff,Nat.reduceBEq,Nat.reduceAdd,Nat.reduceLeDiff,Nat.reduceMul,Nat.reduceLT,Int.reduceEq,Int.reduceLT,Int.reduceLE,t0,t3,t9,t10,toI_len,toI_at,h1,h2,hh.1,hh.2,k5]
      subst k5
      exact ⟨fun q => by subst q; exact fin rfl, fun q => by subst q; exact adv (fin2 rfl)⟩
     ·have k6 : ki = 6 := by omega
      simp +contextual -dsimp -implicitDefEqProofs (maxSteps:=5000000) only [go_sem,reduceIte,reduceCtorEq,Nat.reduceEqDiff,Nat.reduceBEq,Nat.reduceAdd,Nat.reduceLeDiff,Nat.reduceMul,Nat.reduceLT,Int.reduceEq,Int.reduceLT,Int.reduceLE,t0,t3,t9,t10,toI_len,toI_at,h1,h2,hh.1,hh.2,k6]
      subst k6
      exact ⟨fun q => by subst q; exact fin rfl, fun q => by subst q; exact adv (fin2 rfl)⟩
    ·by_cases kf : followsK ki = true
     ·rw [if_pos kf, Bool.false_and] at on
      rw [on]
      have kf' := kf
      simp only [followsK,inR,Bool.and_eq_true,decide_eq_true_eq] at kf'
      have n5 : ¬ ki = 5 := by omega
      have n6 : ¬ ki = 6 := by omega
      by_cases k8 : ki = 8
      ·simp +contextual -dsimp -implicitDefEqProofs (maxSteps:=5000000) only [go_sem,reduceIte,reduceCtorEq,Nat.reduceEqDiff,Nat.reduceBEq,Nat.reduceAdd,Nat.reduceLeDiff,Nat.reduceMul,Nat.reduceLT,Int.reduceEq,Int.reduceLT,Int.reduceLE,t0,t3,t9,t10,toI_len,toI_at,h1,h2,hh.1,hh.2,k8]
      ·by_cases k9 : ki = 9
       ·simp +contextual -dsimp -implicitDefEqProofs (maxSteps:=5000000) only [go_sem,reduceIte,reduceCtorEq,Nat.reduceEqDiff,Nat.reduceBEq,Nat.reduceAdd,Nat.reduceLeDiff,Nat.reduceMul,Nat.reduceLT,Int.reduceEq,Int.reduceLT,Int.reduceLE,t0,t3,t9,t10,toI_len,toI_at,h1,h2,hh.1,hh.2,k9]
       ·have k10 : ki = 10 := by omega
        simp +contextual -dsimp -implicitDefEqProofs (maxSteps:=5000000) only [go_sem,reduceIte,reduceCtorEq,Nat.reduceEqDiff,Nat.reduceBEq,Nat.reduceAdd,Nat.reduceLeDiff,Nat.reduceMul,Nat.reduceLT,Int.reduceEq,Int.reduceLT,Int.reduceLE,t0,t3,t9,t10,toI_len,toI_at,h1,h2,hh.1,hh.2,k10]
     ·rw [if_neg kf, if_neg k56] at on
      have n5 : ¬ ki = 5 := by omega
      have n6 : ¬ ki = 6 := by omega
      have nf : ¬ (8 ≤ ki ∧ ki ≤ 10) := fun q => kf (by simp only [followsK,inR,Bool.and_eq_true,decide_eq_true_eq]; exact q)
      have n8' : ¬ ki = 8 := by omega
      have n9 : ¬ ki = 9 := by omega
      have n10 : ¬ ki = 10 := by omega
      by_cases k7 : ki = 7
      ·rw [if_pos k7, okF_true lp rest (j + 1 + kids.size)] at on
       simp +contextual -dsimp -implicitDefEqProofs (maxSteps:=5000000) only [go_sem,reduceIte,reduceCtorEq,Nat.reduceEqDiff,Nat.reduceBEq,Nat.reduceAdd,Nat.reduceLeDiff,Nat.reduceMul,Nat.reduceLT,Int.reduceEq,Int.reduceLT,Int.reduceLE,t0,t3,t9,t10,toI_len,toI_at,h1,h2,hh.1,hh.2,k7]
       refine acalls_frz (c_tryFrom p cl j _ hh.1 hp) fun cl2 => ?_
       rw [chainP_at hg]
       simp +contextual -dsimp -implicitDefEqProofs (maxSteps:=5000000) only [go_sem,reduceIte,reduceCtorEq,Nat.reduceEqDiff,Nat.reduceBEq,Nat.reduceAdd,Nat.reduceLeDiff,Nat.reduceMul,Nat.reduceLT,Int.reduceEq,Int.reduceLT,Int.reduceLE,t0,t3,t9,t10,toI_len,toI_at,h1,h2,hh.1,hh.2,k7]
       refine (c_tryOk p cl j _ cl2 _ (fun q hq => by rw [← chainB_fst] at hq; obtain ⟨q', hq', rfl⟩ := List.mem_map.1 hq; exact (chainB_at rest _ hg.rest (Nat.le_refl _) q' hq').lt)).det ?_
       rw [kindsP_chain rest _ hg.rest]
       cases hto : tryOkF (headsK rest)
       ·rw [hto, Bool.false_and] at on
        rw [on]
        simp +contextual -dsimp -implicitDefEqProofs (maxSteps:=5000000) only [go_sem,reduceIte,reduceCtorEq,Nat.reduceEqDiff,Nat.reduceBEq,Nat.reduceAdd,Nat.reduceLeDiff,Nat.reduceMul,Nat.reduceLT,Int.reduceEq,Int.reduceLT,Int.reduceLE]
       ·rw [hto, Bool.true_and] at on
        simp +contextual -dsimp -implicitDefEqProofs (maxSteps:=5000000) only [go_sem,reduceIte,reduceCtorEq,Nat.reduceEqDiff,Nat.reduceBEq,Nat.reduceAdd,Nat.reduceLeDiff,Nat.reduceMul,Nat.reduceLT,Int.reduceEq,Int.reduceLT,Int.reduceLE,t0,t3,t9,t10,toI_len]
        have hall : ∀ q ∈ (j, kids) :: chainB rest (j + 1 + kids.size), BlkAt p d n q := by
         intro q hq'
         rcases List.mem_cons.1 hq' with rfl | hq'
         ·exact hq
         ·exact chainB_at rest _ hg.rest (by omega) q hq'
        have hmap : j :: chainN rest (j + 1 + kids.size) = ((j, kids) :: chainB rest (j + 1 + kids.size)).map (·.1) := by rw [List.map_cons, chainB_fst]
        have on2 : okF f lp false = (((j, kids) :: chainB rest (j + 1 + kids.size)).all (fun q => okF q.2 lp false) && okF (skipF rest) lp false) := by rw [on, List.all_cons, Bool.and_assoc]
        have hnext : (sibN f i).drop (k + 1 + (chainN rest (j + 1 + kids.size)).length) = sibN (skipF rest) (skipN rest (j + 1 + kids.size)) := by
         rw [← List.drop_drop, h3, sibN_chain rest, List.drop_left]
        have hnl : k + 1 + (chainN rest (j + 1 + kids.size)).length ≤ (sibN f i).length := by
         have := congrArg List.length h3
         rw [List.length_drop, sibN_chain rest, List.length_append] at this
         omega
        have hsk := hg.rest.skip
        have hss := skipF_size rest
        rw [hmap]
        generalize hB : (j, kids) :: chainB rest (j + 1 + kids.size) = bl at hall hmap on2
        have hbl : bl.length = (chainN rest (j + 1 + kids.size)).length + 1 := by rw [← hB, List.length_cons, ← chainB_fst, List.length_map]
        refine aloop mixed (fz := fun _ => []) (im := fun _ => false) (by kernel_rfl) (fun m tm H' => ∃ x : Nat, m = bl.length - x ∧ x ≤ bl.length ∧ H' = H ∧ tm 0 = aProg p cl ∧ tm 3 = B lp ∧ tm 9 = .vsl ((toI (sibN f i)).map rI) cl1 ∧ tm 10 = I k ∧ tm 13 = .vsl ((toI (bl.map (·.1))).map rI) cl2 ∧ tm 54 = .vsl ((toI (bl.map (·.1))).map rI) cl2 ∧ tm 55 = I bl.length ∧ tm 56 = I x ∧ (bl.take x).all (fun q => okF q.2 lp false) = true) bl.length ⟨0, ?_⟩ ?_
        ·simp +contextual -dsimp -implicitDefEqProofs (maxSteps:=5000000) only [go_sem,reduceIte,reduceCtorEq,Nat.reduceEqDiff,Nat.reduceBEq,Nat.reduceAdd,Nat.reduceLeDiff,Nat.reduceMul,Nat.reduceLT,Int.reduceEq,Int.reduceLT,Int.reduceLE,t0,t3,t9,t10,toI_len,List.length_map]
         exact ⟨by omega, by congr 2; omega⟩
        ·rintro m tm H ⟨x, rfl, hx, rfl, t0, t3, t9, t10, t13, t54, t55, t56, hok⟩
         by_cases hlt : x < bl.length
         ·have hqx := hall (bl.getD x default) (by rw [List.getD_eq_getElem?_getD, List.getElem?_eq_getElem hlt]; exact List.getElem_mem hlt)
          have hgx : (bl.map (·.1)).getD x default = (bl.getD x default).1 := by
           simp only [List.getD_eq_getElem?_getD,List.getElem?_map,List.getElem?_eq_getElem hlt,Option.map_some,Option.getD_some]
          have hw : IntKind.i64.wrap (((bl.getD x default).1 : Int) + 1) = (((bl.getD x default).1 + 1 : Nat) : Int) := by
           have := hqx.lt
           rw [w64 (by omega) (by omega)]; rfl
          simp +contextual -dsimp -implicitDefEqProofs (maxSteps:=5000000) only [go_sem,reduceIte,reduceCtorEq,Nat.reduceEqDiff,Nat.reduceBEq,Nat.reduceAdd,Nat.reduceLeDiff,Nat.reduceMul,Nat.reduceLT,Int.reduceEq,Int.reduceLT,Int.reduceLE,t0,t3,t9,t10,t13,t54,t55,t56,toI_len,toI_at,List.length_map,hlt,hgx,hw]
          refine (c_endOf p cl _ _ hqx.lt).det ?_
          rw [hqx.en]
          simp +contextual -dsimp -implicitDefEqProofs (maxSteps:=5000000) only [go_sem,reduceIte,reduceCtorEq,Nat.reduceEqDiff,Nat.reduceBEq,Nat.reduceAdd,Nat.reduceLeDiff,Nat.reduceMul,Nat.reduceLT,Int.reduceEq,Int.reduceLT,Int.reduceLE,t0,t3,t9,t10,t13,t54,t55,t56]
          refine (blk _ lp _ hqx).det ?_
          cases hk : okF (bl.getD x default).2 lp false
          ·rw [all_take_bad (f := fun q => okF q.2 lp false) hlt hk, Bool.false_and] at on2
           rw [on2]
           simp +contextual -dsimp -implicitDefEqProofs (maxSteps:=5000000) only [go_sem,reduceIte,reduceCtorEq,Nat.reduceEqDiff,Nat.reduceBEq,Nat.reduceAdd,Nat.reduceLeDiff,Nat.reduceMul,Nat.reduceLT,Int.reduceEq,Int.reduceLT,Int.reduceLE,t0,t3,t9,t10,t13,t54,t55,t56]
          ·simp +contextual -dsimp -implicitDefEqProofs (maxSteps:=5000000) only [go_sem,reduceIte,reduceCtorEq,Nat.reduceEqDiff,Nat.reduceBEq,Nat.reduceAdd,Nat.reduceLeDiff,Nat.reduceMul,Nat.reduceLT,Int.reduceEq,Int.reduceLT,Int.reduceLE,t0,t3,t9,t10,t13,t54,t55,t56]
           exact ⟨_, by omega, x + 1, rfl, hlt, I_wrap (by omega) (by omega) (by omega), all_take_next (f := fun q => okF q.2 lp false) hlt hok hk⟩
         ·have hxe : x = bl.length := by omega
          rw [hxe, List.take_length] at hok
          rw [hok, Bool.true_and] at on2
          simp +contextual -dsimp -implicitDefEqProofs (maxSteps:=5000000) only [go_sem,reduceIte,reduceCtorEq,Nat.reduceEqDiff,Nat.reduceBEq,Nat.reduceAdd,Nat.reduceLeDiff,Nat.reduceMul,Nat.reduceLT,Int.reduceEq,Int.reduceLT,Int.reduceLE,t0,t3,t9,t10,t13,t54,t55,t56,toI_len,List.length_map,hlt]
          refine ⟨_, ?_, k + 1 + (chainN rest (j + 1 + kids.size)).length, skipN rest (j + 1 + kids.size), skipF rest, rfl, hsk, by omega, hnext, on2, hnl, ?_⟩
          ·rw [hsz]; omega
          ·rw [w64 (a := (bl.length : Int) - 1) (by omega) (by omega), w64 (a := (k : Int) + ((bl.length : Int) - 1)) (by omega) (by omega)]
           exact I_wrap (by omega) (by omega) (by omega)
      ·rw [if_neg k7] at on
       by_cases k11 : ki = 11
       ·rw [if_pos k11] at on
        simp +contextual -dsimp -implicitDefEqProofs (maxSteps:=5000000) only [go_sem,reduceIte,reduceCtorEq,Nat.reduceEqDiff,Nat.reduceBEq,Nat.reduceAdd,Nat.reduceLeDiff,Nat.reduceMul,Nat.reduceLT,Int.reduceEq,Int.reduceLT,Int.reduceLE,t0,t3,t9,t10,toI_len,toI_at,h1,h2,hh.1,hh.2,k11]
        refine (c_endOf p cl j _ hh.1).det ?_
        rw [hg.endP]
        have hw : IntKind.i64.wrap ((j : Int) + 1) = ((j + 1 : Nat) : Int) := by rw [w64 (by omega) (by omega)]; rfl
        cases lp
        ·simp +contextual -dsimp -implicitDefEqProofs (maxSteps:=5000000) only [go_sem,reduceIte,reduceCtorEq,Nat.reduceEqDiff,Nat.reduceBEq,Nat.reduceAdd,Nat.reduceLeDiff,Nat.reduceMul,Nat.reduceLT,Int.reduceEq,Int.reduceLT,Int.reduceLE,t0,t3,t9,t10,toI_len,hw]
         refine (blk (j, kids) false _ hq).det ?_
         cases hk : okF kids false false
         ·rw [hk, Bool.false_and] at on
          rw [on]
          simp +contextual -dsimp -implicitDefEqProofs (maxSteps:=5000000) only [go_sem,reduceIte,reduceCtorEq,Nat.reduceEqDiff,Nat.reduceBEq,Nat.reduceAdd,Nat.reduceLeDiff,Nat.reduceMul,Nat.reduceLT,Int.reduceEq,Int.reduceLT,Int.reduceLE,hk]
         ·rw [hk, Bool.true_and] at on
          simp +contextual -dsimp -implicitDefEqProofs (maxSteps:=5000000) only [go_sem,reduceIte,reduceCtorEq,Nat.reduceEqDiff,Nat.reduceBEq,Nat.reduceAdd,Nat.reduceLeDiff,Nat.reduceMul,Nat.reduceLT,Int.reduceEq,Int.reduceLT,Int.reduceLE,t0,t3,t9,t10,toI_len,hk]
          exact adv on
        ·simp +contextual -dsimp -implicitDefEqProofs (maxSteps:=5000000) only [go_sem,reduceIte,reduceCtorEq,Nat.reduceEqDiff,Nat.reduceBEq,Nat.reduceAdd,Nat.reduceLeDiff,Nat.reduceMul,Nat.reduceLT,Int.reduceEq,Int.reduceLT,Int.reduceLE,t0,t3,t9,t10,toI_len,hw]
         refine (blk (j, kids) true _ hq).det ?_
         cases hk : okF kids true false
         ·rw [hk, Bool.false_and] at on
          rw [on]
          simp +contextual -dsimp -implicitDefEqProofs (maxSteps:=5000000) only [go_sem,reduceIte,reduceCtorEq,Nat.reduceEqDiff,Nat.reduceBEq,Nat.reduceAdd,Nat.reduceLeDiff,Nat.reduceMul,Nat.reduceLT,Int.reduceEq,Int.reduceLT,Int.reduceLE,hk]
         ·rw [hk, Bool.true_and] at on
          simp +contextual -dsimp -implicitDefEqProofs (maxSteps:=5000000) only [go_sem,reduceIte,reduceCtorEq,Nat.reduceEqDiff,Nat.reduceBEq,Nat.reduceAdd,Nat.reduceLeDiff,Nat.reduceMul,Nat.reduceLT,Int.reduceEq,Int.reduceLT,Int.reduceLE,t0,t3,t9,t10,toI_len,hk]
          exact adv on
       ·rw [if_neg k11] at on
        by_cases k12 : ki = 12
        ·rw [if_pos k12] at on
         simp +contextual -dsimp -implicitDefEqProofs (maxSteps:=5000000) only [go_sem,reduceIte,reduceCtorEq,Nat.reduceEqDiff,Nat.reduceBEq,Nat.reduceAdd,Nat.reduceLeDiff,Nat.reduceMul,Nat.reduceLT,Int.reduceEq,Int.reduceLT,Int.reduceLE,t0,t3,t9,t10,toI_len,toI_at,h1,h2,hh.1,hh.2,k12]
         refine (c_endOf p cl j _ hh.1).det ?_
         rw [hg.endP]
         have hw : IntKind.i64.wrap ((j : Int) + 1) = ((j + 1 : Nat) : Int) := by rw [w64 (by omega) (by omega)]; rfl
         have hlp : (lp || true) = true := by cases lp <;> rfl
         simp +contextual -dsimp -implicitDefEqProofs (maxSteps:=5000000) only [go_sem,reduceIte,reduceCtorEq,Nat.reduceEqDiff,Nat.reduceBEq,Nat.reduceAdd,Nat.reduceLeDiff,Nat.reduceMul,Nat.reduceLT,Int.reduceEq,Int.reduceLT,Int.reduceLE,t0,t3,t9,t10,toI_len,hw,hlp]
         refine (blk (j, kids) true _ hq).det ?_
         cases hk : okF kids true false
         ·rw [hk, Bool.false_and] at on
          rw [on]
          simp +contextual -dsimp -implicitDefEqProofs (maxSteps:=5000000) only [go_sem,reduceIte,reduceCtorEq,Nat.reduceEqDiff,Nat.reduceBEq,Nat.reduceAdd,Nat.reduceLeDiff,Nat.reduceMul,Nat.reduceLT,Int.reduceEq,Int.reduceLT,Int.reduceLE,hk]
         ·rw [hk, Bool.true_and] at on
          simp +contextual -dsimp -implicitDefEqProofs (maxSteps:=5000000) only [go_sem,reduceIte,reduceCtorEq,Nat.reduceEqDiff,Nat.reduceBEq,Nat.reduceAdd,Nat.reduceLeDiff,Nat.reduceMul,Nat.reduceLT,Int.reduceEq,Int.reduceLT,Int.reduceLE,t0,t3,t9,t10,toI_len,hk]
          exact adv on
        ·rw [if_neg k12] at on
         simp +contextual -dsimp -implicitDefEqProofs (maxSteps:=5000000) only [go_sem,reduceIte,reduceCtorEq,Nat.reduceEqDiff,Nat.reduceBEq,Nat.reduceAdd,Nat.reduceLeDiff,Nat.reduceMul,Nat.reduceLT,Int.reduceEq,Int.reduceLT,Int.reduceLE,t0,t3,t9,t10,toI_len,toI_at,h1,h2,hh.1,hh.2,n5,n6,n8',n9,n10,k7,k11,k12]
         exact adv on
end
section
open Go Go.Sim
set_option maxRecDepth 100000

def stepOk (l m : Line) : Bool := if opensK l.kind = true then decide (m.depth = l.depth + 1) else decide (m.depth ≤ l.depth)
def oneOk (t : List Class) (l : Line) : Bool := numOk t l.kind l.a l.b && inR l.depth 0 5
def depT (t : List Class) : List Line → Bool
 | [] => true
 | l :: r => oneOk t l && ((match r with | [] => !opensK l.kind | m :: _ => stepOk l m) && depT t r)
theorem depT_iff (t : List Class) : ∀ p : List Line, depT t p = true ↔ (∀ i, i < p.length → oneOk t (p.getD i default) = true) ∧ (∀ i, i + 1 < p.length → stepOk (p.getD i default) (p.getD (i + 1) default) = true) ∧ (p ≠ [] → opensK (p.getD (p.length - 1) default).kind = false)
 | [] => by simp [depT]
 | [l] => by
  simp only [depT,Bool.and_eq_true,Bool.not_eq_true']
  constructor
  ·rintro ⟨h1, h2, _⟩
   refine ⟨fun i hi => ?_, fun i hi => by simp at hi, fun _ => by simpa using h2⟩
   have : i = 0 := by simp at hi; omega
   subst this; simpa using h1
  ·rintro ⟨h1, _, h3⟩
   exact ⟨by simpa using h1 0 (by simp), by simpa using h3 (by simp), trivial⟩
 | l :: m :: r => by
  have ih := depT_iff t (m :: r)
  rw [depT, Bool.and_eq_true, Bool.and_eq_true, ih]
  constructor
  ·rintro ⟨h1, h2, h3, h4, h5⟩
   refine ⟨fun i hi => ?_, fun i hi => ?_, fun _ => ?_⟩
   ·cases i with
    | zero => simpa using h1
    | succ i => simpa using h3 i (by simpa using hi)
   ·cases i with
    | zero => simpa using h2
    | succ i => simpa using h4 i (by simpa using hi)
   ·simpa using h5 (by simp)
  ·rintro ⟨h1, h2, h3⟩
   refine ⟨by simpa using h1 0 (by simp), by simpa using h2 0 (by simp), fun i hi => by simpa using h1 (i + 1) (by simpa using hi), fun i hi => by simpa using h2 (i + 1) (by simpa using hi), fun _ => by simpa using h3 (by simp)⟩
theorem oneOk_num {t : List Class} {l : Line} (h : oneOk t l = true) : numOk t l.kind l.a l.b = true ∧ inR l.depth 0 5 = true := by
 simpa [oneOk] using h
theorem depT_cons (t : List Class) (l : Line) (r : List Line) : depT t (l :: r) = (oneOk t l && ((match r with | [] => !opensK l.kind | m :: _ => stepOk l m) && depT t r)) := by rw [depT.eq_def]
theorem forest_of (t : List Class) : ∀ (n : Nat) (l : Line) (r : List Line), r.length < n → depT t (l :: r) = true → ∃ (f : Fo) (post : List Line), l :: r = f.flat l.depth ++ post ∧ f.isNil = false ∧ numsF t f l.depth = true ∧ Low l.depth post ∧ depT t post = true := by
 intro n
 induction n with
 | zero => intro l r h; omega
 | succ n ih =>
  intro l r hl h
  rw [depT_cons, Bool.and_eq_true, Bool.and_eq_true] at h
  obtain ⟨h1, h2, h3⟩ := h
  have ⟨a1, a2⟩ := oneOk_num h1
  have el : (⟨l.depth, l.kind, l.a, l.b⟩ : Line) = l := rfl
  cases r with
  | nil =>
   refine ⟨.node l.kind l.a l.b .nil .nil, [], by simp [Fo.flat], rfl, ?_, low_nil _, rfl⟩
   simp only [Bool.not_eq_true'] at h2
   simp [numsF, a1, a2, h2, Fo.isNil]
  | cons m r =>
   have hl' : r.length < n := by simp at hl; omega
   by_cases ho : opensK l.kind = true
   ·simp only [stepOk,ho,if_true,decide_eq_true_eq] at h2
    obtain ⟨ks, p1, e1, n1, u1, w1, d1⟩ := ih m r hl' h3
    rw [h2] at e1 u1 w1
    have hlen : p1.length ≤ r.length := by
     have := congrArg List.length e1
     rw [List.length_append, flat_len] at this
     have hs : ks.size ≠ 0 := by
      cases ks with
      | nil => simp [Fo.isNil] at n1
      | node => simp [Fo.size]
     simp at this
     omega
    cases p1 with
    | nil =>
     refine ⟨.node l.kind l.a l.b ks .nil, [], by rw [e1]; simp [Fo.flat], rfl, ?_, low_nil _, rfl⟩
     simp [numsF, a1, a2, ho, n1, u1]
    | cons x y =>
     have hx := w1 x y rfl
     by_cases hx2 : x.depth = l.depth
     ·obtain ⟨rs, p2, e2, n2, u2, w2, d2⟩ := ih x y (by simp at hlen; omega) d1
      rw [hx2] at e2 u2 w2
      refine ⟨.node l.kind l.a l.b ks rs, p2, by rw [e1, e2]; simp [Fo.flat], rfl, ?_, w2, d2⟩
      simp [numsF, a1, a2, ho, n1, u1, u2]
     ·refine ⟨.node l.kind l.a l.b ks .nil, x :: y, by rw [e1]; simp [Fo.flat], rfl, ?_, fun l' r' e => ?_, d1⟩
      ·simp [numsF, a1, a2, ho, n1, u1]
      ·injection e with e3 e4
       rw [← e3]; omega
   ·have ho' : opensK l.kind = false := by simpa using ho
    simp only [stepOk,ho',Bool.false_eq_true,if_false,decide_eq_true_eq] at h2
    by_cases hx2 : m.depth = l.depth
    ·obtain ⟨rs, p2, e2, n2, u2, w2, d2⟩ := ih m r hl' h3
     rw [hx2] at e2 u2 w2
     refine ⟨.node l.kind l.a l.b .nil rs, p2, by rw [e2]; simp [Fo.flat], rfl, ?_, w2, d2⟩
     simp [numsF, a1, a2, ho', Fo.isNil, u2]
    ·refine ⟨.node l.kind l.a l.b .nil .nil, m :: r, by simp [Fo.flat], rfl, ?_, fun l' r' e => ?_, h3⟩
     ·simp [numsF, a1, a2, ho', Fo.isNil]
     ·injection e with e3 e4
      rw [← e3]; omega
theorem forest_top {t : List Class} {p : List Line} (h : depT t p = true) (h0 : p ≠ [] → (p.getD 0 default).depth = 0) : ∃ f : Fo, p = f.flat 0 ∧ numsF t f 0 = true := by
 cases p with
 | nil => exact ⟨.nil, rfl, rfl⟩
 | cons l r =>
  have hd : l.depth = 0 := by simpa using h0 (by simp)
  obtain ⟨f, post, e1, _, u1, w1, d1⟩ := forest_of t (r.length + 1) l r (by omega) h
  rw [hd] at e1 u1 w1
  cases post with
  | nil => exact ⟨f, by simpa using e1, u1⟩
  | cons x y =>
   have := w1 x y rfl
   rw [depT_cons, Bool.and_eq_true] at d1
   have := (oneOk_num d1.1).2
   simp only [inR,Bool.and_eq_true,decide_eq_true_eq] at this
   omega
theorem depT_flat {t : List Class} : ∀ (f : Fo) (d : Int) (post : List Line), numsF t f d = true → Low (d + 1) post → depT t post = true → depT t (f.flat d ++ post) = true
 | .nil, d, post, _, _, h => h
 | .node k a b kids rest, d, post, hn, hl, h => by
  obtain ⟨n1, n2, n3, n4, n5⟩ := numsF_node hn
  have hr := depT_flat rest d post n5 hl h
  have hlr : Low (d + 1) (rest.flat d ++ post) := by
   cases rest with
   | nil => exact hl
   | node k' a' b' x y =>
    intro l r e
    simp only [Fo.flat,List.cons_append] at e
    injection e with e1 e2
    rw [← e1]; show d < d + 1; omega
  have hk := depT_flat kids (d + 1) (rest.flat d ++ post) n4 (fun l r e => by have := hlr l r e; omega) hr
  have e : (Fo.node k a b kids rest).flat d ++ post = ⟨d, k, a, b⟩ :: (kids.flat (d + 1) ++ (rest.flat d ++ post)) := by simp [Fo.flat]
  rw [e, depT_cons, hk, Bool.and_true]
  have h1 : oneOk t ⟨d, k, a, b⟩ = true := by simp [oneOk, n1, n2]
  rw [h1, Bool.true_and]
  cases kids with
  | nil =>
   have ho : opensK k = false := by simpa [Fo.isNil] using n3
   simp only [Fo.flat,List.nil_append]
   cases hq : rest.flat d ++ post with
   | nil => simp [ho]
   | cons m r =>
    have := hlr m r hq
    simp only [stepOk,ho,Bool.false_eq_true,if_false,decide_eq_true_eq]
    omega
  | node k' a' b' x y =>
   have ho : opensK k = true := by simpa [Fo.isNil] using n3
   simp only [Fo.flat,List.cons_append,stepOk,ho,if_true,decide_eq_true_eq]
theorem flat_inj : ∀ (f g : Fo) (d : Int) (p q : List Line), f.flat d ++ p = g.flat d ++ q → Low d p → Low d q → f = g ∧ p = q
 | .nil, .nil, d, p, q, h, _, _ => ⟨rfl, h⟩
 | .nil, .node k a b x y, d, p, q, h, hp, _ => by
  simp only [Fo.flat,List.nil_append,List.cons_append] at h
  have := hp _ _ h
  exact absurd this (by show ¬ d < d; omega)
 | .node k a b x y, .nil, d, p, q, h, _, hq => by
  simp only [Fo.flat,List.nil_append,List.cons_append] at h
  have := hq _ _ h.symm
  exact absurd this (by show ¬ d < d; omega)
 | .node k a b x y, .node k' a' b' x' y', d, p, q, h, hp, hq => by
  simp only [Fo.flat,List.cons_append,List.append_assoc] at h
  injection h with h1 h2
  injection h1 with _ e1 e2 e3
  subst e1; subst e2; subst e3
  obtain ⟨rfl, h3⟩ := flat_inj x x' (d + 1) _ _ h2 (low_flat hp) (low_flat hq)
  obtain ⟨rfl, h4⟩ := flat_inj y y' d p q h3 hp hq
  exact ⟨rfl, h4⟩
theorem flat_one {f g : Fo} {d : Int} (h : f.flat d = g.flat d) : f = g := (flat_inj f g d [] [] (by simp [h]) (low_nil _) (low_nil _)).1
def upto (p : List Line) (i : Nat) : List Line := (p.take i).reverse
theorem upto_succ {p : List Line} {i : Nat} (h : i < p.length) : upto p (i + 1) = p.getD i default :: upto p i := by
 unfold upto
 rw [List.take_succ_eq_append_getElem h, List.reverse_append, List.getD_eq_getElem?_getD, List.getElem?_eq_getElem h]; rfl
def inLoopR : Int → List Line → Bool
 | _, [] => false
 | d, x :: r => if x.depth < d then decide (x.kind = 12) || inLoopR x.depth r else inLoopR d r
def headR : Int → List Line → Option Line
 | _, [] => none
 | d, x :: r => if x.depth < d then none else if x.depth = d then some x else headR d r
def headOkR (o : Option Line) : Bool := match o with | none => false | some x => decide (x.kind = 7) || followsK x.kind
theorem loop_skip {d : Int} : ∀ (l r : List Line), (∀ x ∈ l, d ≤ x.depth) → inLoopR d (l ++ r) = inLoopR d r
 | [], r, _ => rfl
 | x :: l, r, h => by
  have hx := h x (by simp)
  simp only [List.cons_append,inLoopR]
  rw [if_neg (by omega)]
  exact loop_skip l r fun y hy => h y (by simp [hy])
theorem head_skip {d : Int} : ∀ (l r : List Line), (∀ x ∈ l, d < x.depth) → headR d (l ++ r) = headR d r
 | [], r, _ => rfl
 | x :: l, r, h => by
  have hx := h x (by simp)
  simp only [List.cons_append,headR]
  rw [if_neg (by omega), if_neg (by omega)]
  exact head_skip l r fun y hy => h y (by simp [hy])
def stOk (p : List Line) (i : Nat) : Bool :=
 (!decide ((p.getD i default).kind = 7) || tryOkF (kindsP p (tailQ p (p.getD i default).depth (endP p i)))) &&
 ((!(decide ((p.getD i default).kind = 5) || decide ((p.getD i default).kind = 6)) || inLoopR (p.getD i default).depth (upto p i)) &&
  (!followsK (p.getD i default).kind || headOkR (headR (p.getD i default).depth (upto p i))))
theorem upto_add {p : List Line} {i : Nat} {d : Int} {f : Fo} (h : At p i d f) : upto p (i + f.size) = (f.flat d).reverse ++ upto p i := by
 obtain ⟨pre, post, rfl, rfl, _⟩ := h
 unfold upto
 have e1 : (pre ++ (f.flat d ++ post)).take (pre.length + f.size) = pre ++ f.flat d := by
  rw [← List.append_assoc, ← flat_len f d, ← List.length_append, List.take_left]
 have e2 : (pre ++ (f.flat d ++ post)).take pre.length = pre := List.take_left
 rw [e1, e2, List.reverse_append]
theorem all_range {i j : Nat} {p : Nat → Prop} : (∀ x, i ≤ x → x < i + 1 + j → p x) ↔ p i ∧ ∀ x, i + 1 ≤ x → x < i + 1 + j → p x := by
 constructor
 ·exact fun h => ⟨h i (by omega) (by omega), fun x h1 h2 => h x (by omega) h2⟩
 ·rintro ⟨h1, h2⟩ x h3 h4
  rcases Nat.lt_or_ge i x with q | q
  ·exact h2 x (by omega) h4
  ·rw [show x = i by omega]; exact h1
theorem all_split {i a b : Nat} {p : Nat → Prop} : (∀ x, i ≤ x → x < i + (a + b) → p x) ↔ (∀ x, i ≤ x → x < i + a → p x) ∧ ∀ x, i + a ≤ x → x < i + a + b → p x := by
 constructor
 ·exact fun h => ⟨fun x h1 h2 => h x h1 (by omega), fun x h1 h2 => h x (by omega) (by omega)⟩
 ·rintro ⟨h1, h2⟩ x h3 h4
  rcases Nat.lt_or_ge x (i + a) with q | q
  ·exact h1 x h3 q
  ·exact h2 x q (by omega)
theorem st_ok {t : List Class} {p : List Line} : ∀ (f : Fo) (i : Nat) (d : Int) (lp m : Bool), At p i d f → numsF t f d = true → inLoopR d (upto p i) = lp → headOkR (headR d (upto p i)) = m → ((∀ x, i ≤ x → x < i + f.size → stOk p x = true) ↔ okF f lp m = true)
 | .nil, i, d, lp, m, h, _, _, _ => by
  simp only [okF,Fo.size]
  exact ⟨fun _ => trivial, fun _ x h1 h2 => absurd h2 (by omega)⟩
 | .node k a b kids rest, i, d, lp, m, h, hn, hlp, hm => by
  obtain ⟨n1, n2, n3, n4, n5⟩ := numsF_node hn
  have hh := h.head
  have eu : upto p (i + 1) = ⟨d, k, a, b⟩ :: upto p i := by rw [upto_succ hh.1, hh.2]
  have eu2 : upto p (i + 1 + kids.size) = (kids.flat (d + 1)).reverse ++ ⟨d, k, a, b⟩ :: upto p i := by rw [upto_add h.kids, eu]
  have l1 : inLoopR (d + 1) (upto p (i + 1)) = (decide (k = 12) || lp) := by
   rw [eu]; simp only [inLoopR]; rw [if_pos (by omega),hlp]
  have m1 : headOkR (headR (d + 1) (upto p (i + 1))) = false := by
   rw [eu]; simp only [headR]; rw [if_pos (by omega)]; rfl
  have l2 : inLoopR d (upto p (i + 1 + kids.size)) = lp := by
   rw [eu2, loop_skip _ _ (fun x hx => by have := flat_deep kids (d + 1) x (by simpa using hx); omega)]
   simp only [inLoopR]; rw [if_neg (by omega),hlp]
  have m2 : headOkR (headR d (upto p (i + 1 + kids.size))) = (decide (k = 7) || followsK k) := by
   rw [eu2, head_skip _ _ (fun x hx => by have := flat_deep kids (d + 1) x (by simpa using hx); omega)]
   simp only [headR]; rw [if_neg (by omega),if_true]; rfl
  have ik := st_ok kids (i + 1) (d + 1) _ _ h.kids n4 l1 m1
  have ir := st_ok rest (i + 1 + kids.size) d _ _ h.rest n5 l2 m2
  have e1 : (∀ x, i ≤ x → x < i + (Fo.node k a b kids rest).size → stOk p x = true) ↔ (stOk p i = true ∧ (∀ x, i + 1 ≤ x → x < i + 1 + kids.size → stOk p x = true) ∧ ∀ x, i + 1 + kids.size ≤ x → x < i + 1 + kids.size + rest.size → stOk p x = true) := by
   have e : i + (Fo.node k a b kids rest).size = i + 1 + (kids.size + rest.size) := by simp only [Fo.size]; omega
   rw [e, all_range, all_split]
  rw [e1, ik, ir]
  have es : stOk p i = ((!decide (k = 7) || tryOkF (headsK rest)) && ((!(decide (k = 5) || decide (k = 6)) || lp) && (!followsK k || m))) := by
   unfold stOk
   rw [hh.2]
   simp only
   rw [hlp, hm, h.endP]
   have : tailQ p d (i + 1 + kids.size) = chainN rest (i + 1 + kids.size) := tailP_at rest _ _ d h.rest (by omega)
   rw [this, kindsP_chain rest _ h.rest]
  rw [es]
  have kn : opensK k = false → kids = .nil := by
   intro q
   rw [q] at n3
   cases kids with
   | nil => rfl
   | node => simp [Fo.isNil] at n3
  simp only [okF]
  by_cases hf : followsK k = true
  ·have hf' := hf
   simp only [followsK,inR,Bool.and_eq_true,decide_eq_true_eq] at hf'
   have c7 : ¬ k = 7 := by omega
   have c5 : ¬ k = 5 := by omega
   have c6 : ¬ k = 6 := by omega
   have c12 : ¬ k = 12 := by omega
   simp [hf, c7, c5, c6, c12]
  ·have hf2 : followsK k = false := by simpa using hf
   by_cases c56 : k = 5 ∨ k = 6
   ·have hk : kids = .nil := kn (by rcases c56 with q | q <;> subst q <;> rfl)
    have c7 : ¬ k = 7 := by omega
    have c56' : (decide (k = 5) || decide (k = 6)) = true := by simpa using c56
    subst hk
    simp [hf2, c56, c7, c56', okF]
   ·have c5 : ¬ k = 5 := fun q => c56 (.inl q)
    have c6 : ¬ k = 6 := fun q => c56 (.inr q)
    by_cases c7 : k = 7
    ·subst c7
     simp [hf2, Bool.and_assoc]
    ·by_cases c11 : k = 11
     ·subst c11
      simp [hf2]
     ·by_cases c12 : k = 12
      ·subst c12
       simp [hf2]
      ·have hk : kids = .nil := kn (by
        cases q : opensK k with
        | false => rfl
        | true =>
         simp only [opensK,inR,Bool.and_eq_true,decide_eq_true_eq] at q
         simp only [followsK,inR,Bool.and_eq_false_iff,decide_eq_false_iff_not] at hf2
         omega)
       subst hk
       simp [hf2, c5, c6, c7, c11, c12, okF]
end
section
open Go Go.Sim
set_option maxRecDepth 100000
set_option maxHeartbeats 4000000

theorem c_inLoop (p : List Line) (cl : Bool) (i : Nat) (H : AHeap) (hi : i < p.length) : ACalls Tryz.prog 144 [aProg p cl, I i] H fun r H' => r = B (inLoopR (p.getD i default).depth (upto p i)) ∧ H' = H := by
 refine acalls_len (by kernel_rfl) (List.mem_cons_self ..) fun hl => ?_
 rw [List.length_map] at hl
 refine acalls_of0 Tryz.func144 rfl (by kernel_rfl) rfl rfl (awp_sound (fz := fun _ => []) (im := fun _ => false) mixed _ _ _ _ (by kernel_rfl) ?_)
 simp +contextual -dsimp -implicitDefEqProofs (maxSteps:=5000000) only [go_sem,reduceIte,reduceCtorEq,Nat.reduceEqDiff,Nat.reduceBEq,Nat.reduceAdd,Nat.reduceLeDiff,Nat.reduceMul,Nat.reduceLT,Int.reduceEq,Int.reduceLT,Int.reduceLE,hi]
 refine aloop mixed (fz := fun _ => []) (im := fun _ => false) (by kernel_rfl) (fun m tm H' => ∃ (dd : Int), m ≤ i ∧ H' = H ∧ tm 0 = aProg p cl ∧ tm 5 = I dd ∧ tm 6 = I ((m : Int) - 1) ∧ inLoopR dd (upto p m) = inLoopR (p.getD i default).depth (upto p i)) i ⟨(p.getD i default).depth, Nat.le_refl _, rfl, ?_⟩ ?_
 ·simp +contextual -dsimp -implicitDefEqProofs (maxSteps:=5000000) only [go_sem,reduceIte,reduceCtorEq,Nat.reduceEqDiff,Nat.reduceBEq,Nat.reduceAdd,Nat.reduceLeDiff,Nat.reduceMul,Nat.reduceLT,Int.reduceEq,Int.reduceLT,Int.reduceLE]
  exact I_wrap (by omega) (by omega) (by omega)
 ·rintro m tm H ⟨dd, hk, rfl, t0, t5, t6, he⟩
  cases m with
  | zero =>
   have z : ¬ (0 : Int) ≤ 0 - 1 := by omega
   simp +contextual -dsimp -implicitDefEqProofs (maxSteps:=5000000) only [go_sem,reduceIte,reduceCtorEq,Nat.reduceEqDiff,Nat.reduceBEq,Nat.reduceAdd,Nat.reduceLeDiff,Nat.reduceMul,Nat.reduceLT,Int.reduceEq,Int.reduceLT,Int.reduceLE,t0,t5,t6,z]
   rw [← he]; rfl
  | succ k =>
   have hkp : k < p.length := by omega
   rw [upto_succ hkp] at he
   simp only [inLoopR] at he
   have e1 : (((k + 1 : Nat) : Int)) - 1 = (k : Int) := by omega
   simp +contextual -dsimp -implicitDefEqProofs (maxSteps:=5000000) only [go_sem,reduceIte,reduceCtorEq,Nat.reduceEqDiff,Nat.reduceBEq,Nat.reduceAdd,Nat.reduceLeDiff,Nat.reduceMul,Nat.reduceLT,Int.reduceEq,Int.reduceLT,Int.reduceLE,t0,t5,t6,e1,hkp]
   refine ⟨fun q => ?_, fun q => ?_⟩
   ·rw [if_pos q] at he
    refine ⟨fun q2 => by rw [← he, decide_eq_true q2]; rfl, fun q2 => ⟨k, by omega, _, by omega, rfl, I_wrap (by omega) (by omega) (by omega), ?_⟩⟩
    rw [← he, decide_eq_false q2]; rfl
   ·rw [if_neg q] at he
    exact ⟨k, by omega, _, by omega, rfl, I_wrap (by omega) (by omega) (by omega), he⟩
theorem c_headOf (p : List Line) (cl : Bool) (i : Nat) (H : AHeap) (hi : i < p.length) : ACalls Tryz.prog 146 [aProg p cl, I i] H fun r H' => ∃ v : Int, r = I v ∧ H' = H ∧ ((v = -1 ∧ headR (p.getD i default).depth (upto p i) = none) ∨ ∃ k : Nat, v = k ∧ k < p.length ∧ headR (p.getD i default).depth (upto p i) = some (p.getD k default)) := by
 refine acalls_len (by kernel_rfl) (List.mem_cons_self ..) fun hl => ?_
 rw [List.length_map] at hl
 refine acalls_of0 Tryz.func146 rfl (by kernel_rfl) rfl rfl (awp_sound (fz := fun _ => []) (im := fun _ => false) mixed _ _ _ _ (by kernel_rfl) ?_)
 simp +contextual -dsimp -implicitDefEqProofs (maxSteps:=5000000) only [go_sem,reduceIte,reduceCtorEq,Nat.reduceEqDiff,Nat.reduceBEq,Nat.reduceAdd,Nat.reduceLeDiff,Nat.reduceMul,Nat.reduceLT,Int.reduceEq,Int.reduceLT,Int.reduceLE,hi]
 refine aloop mixed (fz := fun _ => []) (im := fun _ => false) (by kernel_rfl) (fun m tm H' => m ≤ i ∧ H' = H ∧ tm 0 = aProg p cl ∧ tm 1 = I i ∧ tm 5 = I ((m : Int) - 1) ∧ headR (p.getD i default).depth (upto p m) = headR (p.getD i default).depth (upto p i)) i ⟨Nat.le_refl _, rfl, ?_⟩ ?_
 ·simp +contextual -dsimp -implicitDefEqProofs (maxSteps:=5000000) only [go_sem,reduceIte,reduceCtorEq,Nat.reduceEqDiff,Nat.reduceBEq,Nat.reduceAdd,Nat.reduceLeDiff,Nat.reduceMul,Nat.reduceLT,Int.reduceEq,Int.reduceLT,Int.reduceLE]
  exact I_wrap (by omega) (by omega) (by omega)
 ·rintro m tm H ⟨hk, rfl, t0, t1, t5, he⟩
  cases m with
  | zero =>
   have z : ¬ (0 : Int) ≤ 0 - 1 := by omega
   simp +contextual -dsimp -implicitDefEqProofs (maxSteps:=5000000) only [go_sem,reduceIte,reduceCtorEq,Nat.reduceEqDiff,Nat.reduceBEq,Nat.reduceAdd,Nat.reduceLeDiff,Nat.reduceMul,Nat.reduceLT,Int.reduceEq,Int.reduceLT,Int.reduceLE,t0,t1,t5,z]
   exact ⟨-1, rfl, .inl ⟨rfl, he.symm⟩⟩
  | succ k =>
   have hkp : k < p.length := by omega
   rw [upto_succ hkp] at he
   simp only [headR] at he
   have e1 : (((k + 1 : Nat) : Int)) - 1 = (k : Int) := by omega
   simp +contextual -dsimp -implicitDefEqProofs (maxSteps:=5000000) only [go_sem,reduceIte,reduceCtorEq,Nat.reduceEqDiff,Nat.reduceBEq,Nat.reduceAdd,Nat.reduceLeDiff,Nat.reduceMul,Nat.reduceLT,Int.reduceEq,Int.reduceLT,Int.reduceLE,t0,t1,t5,e1,hkp,hi]
   refine draw_intro [0, 0, 0, 0, 0, 0, 0, 0, 0, 0, 0] AHeap.none (by kernel_rfl) none_le ?_
   simp +contextual -dsimp -implicitDefEqProofs (maxSteps:=5000000) only [go_sem,reduceIte,reduceCtorEq,Nat.reduceEqDiff,Nat.reduceBEq,Nat.reduceAdd,Nat.reduceLeDiff,Nat.reduceMul,Nat.reduceLT,Int.reduceEq,Int.reduceLT,Int.reduceLE,t0,t1,t5,e1,hkp,hi]
   refine ⟨fun q => ?_, fun q => ?_⟩
   ·rw [if_pos q] at he
    exact ⟨-1, rfl, .inl ⟨rfl, he.symm⟩⟩
   ·rw [if_neg q] at he
    refine draw_intro [0, 0, 0, 0, 0, 0, 0, 0, 0, 0, 0] AHeap.none (by kernel_rfl) none_le ?_
    simp +contextual -dsimp -implicitDefEqProofs (maxSteps:=5000000) only [go_sem,reduceIte,reduceCtorEq,Nat.reduceEqDiff,Nat.reduceBEq,Nat.reduceAdd,Nat.reduceLeDiff,Nat.reduceMul,Nat.reduceLT,Int.reduceEq,Int.reduceLT,Int.reduceLE,t0,t1,t5,e1,hkp,hi]
    refine ⟨fun q2 => ?_, fun q2 => ?_⟩
    ·rw [if_pos q2] at he
     exact ⟨k, rfl, .inr ⟨k, rfl, hkp, he.symm⟩⟩
    ·rw [if_neg q2] at he
     exact ⟨k, by omega, by omega, I_wrap (by omega) (by omega) (by omega), he⟩
def relOk (p : List Line) (i : Nat) : Bool := if i = 0 then decide ((p.getD i default).depth = 0) else stepOk (p.getD (i - 1) default) (p.getD i default)
def endOk (p : List Line) (i : Nat) : Bool := !(decide (i + 1 = p.length) && opensK (p.getD i default).kind)
def lineOk (t : List Class) (p : List Line) (i : Nat) : Bool := oneOk t (p.getD i default) && ((relOk p i && endOk p i) && stOk p i)
theorem inR5 {n : Int} (h : inR n 0 5 = true) : 0 ≤ n ∧ n ≤ 5 := by simpa [inR] using h
theorem c_validLine (t : List Class) (cl : Bool) (p : List Line) (cl' : Bool) (i : Nat) (H : AHeap) (hi : i < p.length) (hp : p.length ≤ 4398046511104) (hprev : i ≠ 0 → inR (p.getD (i - 1) default).depth 0 5 = true) :
  ACalls Tryz.prog 98 [aTree t cl, aProg p cl', I i] H fun r H' => r = B (lineOk t p i) ∧ H' = H := by
 refine acalls_of0 Tryz.func98 rfl (by kernel_rfl) rfl rfl (awp_sound (fz := fun r => if r = 1 then [7] else []) (im := fun s => s == 3) mixed _ _ _ _ (by kernel_rfl) ?_)
 simp +contextual -dsimp -implicitDefEqProofs (maxSteps:=5000000) only [go_sem,reduceIte,reduceCtorEq,Nat.reduceEqDiff,Nat.reduceBEq,Nat.reduceAdd,Nat.reduceLeDiff,Nat.reduceMul,Nat.reduceLT,Int.reduceEq,Int.reduceLT,Int.reduceLE,hi]
 intro b7 hb7
 refine (c_validNumbers t cl (p.getD i default) _).det ?_
 have hno : oneOk t (p.getD i default) = (numOk t (p.getD i default).kind (p.getD i default).a (p.getD i default).b && inR (p.getD i default).depth 0 5) := rfl
 cases h1 : numOk t (p.getD i default).kind (p.getD i default).a (p.getD i default).b
 ·rw [h1, Bool.false_and] at hno
  simp +contextual -dsimp -implicitDefEqProofs (maxSteps:=5000000) only [go_sem,reduceIte,reduceCtorEq,Nat.reduceEqDiff,Nat.reduceBEq,Nat.reduceAdd,Nat.reduceLeDiff,Nat.reduceMul,Nat.reduceLT,Int.reduceEq,Int.reduceLT,Int.reduceLE,hi,lineOk,hno]
 ·simp +contextual -dsimp -implicitDefEqProofs (maxSteps:=5000000) only [go_sem,reduceIte,reduceCtorEq,Nat.reduceEqDiff,Nat.reduceBEq,Nat.reduceAdd,Nat.reduceLeDiff,Nat.reduceMul,Nat.reduceLT,Int.reduceEq,Int.reduceLT,Int.reduceLE,hi]
  refine (c_inRange _ _ _ _).det ?_
  cases h2 : inR (p.getD i default).depth 0 5
  ·rw [h1, h2, Bool.true_and] at hno
   simp +contextual -dsimp -implicitDefEqProofs (maxSteps:=5000000) only [go_sem,reduceIte,reduceCtorEq,Nat.reduceEqDiff,Nat.reduceBEq,Nat.reduceAdd,Nat.reduceLeDiff,Nat.reduceMul,Nat.reduceLT,Int.reduceEq,Int.reduceLT,Int.reduceLE,hi,lineOk,hno]
  ·rw [h1, h2, Bool.true_and] at hno
   have h2' := inR5 h2
   simp +contextual -dsimp -implicitDefEqProofs (maxSteps:=5000000) only [go_sem,reduceIte,reduceCtorEq,Nat.reduceEqDiff,Nat.reduceBEq,Nat.reduceAdd,Nat.reduceLeDiff,Nat.reduceMul,Nat.reduceLT,Int.reduceEq,Int.reduceLT,Int.reduceLE,hi]
   have fin : relOk p i = true → endOk p i = true → lineOk t p i = stOk p i := fun q1 q2 => by unfold lineOk; rw [hno, q1, q2]; rfl
   have hw : IntKind.i64.wrap ((i : Int) + 1) = ((i + 1 : Nat) : Int) := by
    have := hi
    rw [w64 (by omega) (by omega)]; rfl
   have ee : ∀ b : Bool, opensK (p.getD i default).kind = b → i + 1 = p.length → endOk p i = !b := fun b q1 q2 => by unfold endOk; rw [q1, decide_eq_true q2]; rfl
   have en : ¬ i + 1 = p.length → endOk p i = true := fun q => by unfold endOk; rw [decide_eq_false q]; rfl
   have bad1 : relOk p i = false → lineOk t p i = false := fun q => by unfold lineOk; rw [hno, q]; rfl
   have bad2 : endOk p i = false → lineOk t p i = false := fun q => by unfold lineOk; rw [hno, q]; simp
   by_cases i0 : i = 0
   ·subst i0
    refine draw_intro [0, 0, 0, 0, 0, 0, 0, 0, 0, 0, 0, 0, 0, 0, 0, 0, 0, 0, 0, 0, 0, 0, 0, 0, 0, 0, 0, 0, 3, 0, 1, 0, 0, 0, 0, 0, 1, 0, 0, 0, 0, 0, 0, 0, 0, 0, 0, 0, 0, 0, 0, 0, 2, 0, 0] _ (by kernel_rfl) (AHeap.le_refl _) ?_
    have hw1 : IntKind.i64.wrap (0 + 1) = (1 : Int) := rfl
    by_cases d0 : (p.getD 0 default).depth = 0
    ·have hrel : relOk p 0 = true := by unfold relOk; rw [if_pos rfl, decide_eq_true d0]
     by_cases el : 0 + 1 = p.length
     ·have el' : (p.length : Int) = 1 := by omega
      simp +contextual -dsimp -implicitDefEqProofs (maxSteps:=5000000) only [go_sem,reduceIte,reduceCtorEq,Nat.reduceEqDiff,Nat.reduceBEq,Nat.reduceAdd,Nat.reduceLeDiff,Nat.reduceMul,Nat.reduceLT,Int.reduceEq,Int.reduceLT,Int.reduceLE,hi,d0,hw1,el']
      refine (c_opens _ _).det ?_
      cases ho : opensK (p.getD 0 default).kind
      ·have hend := ee false ho el
       simp +contextual -dsimp -implicitDefEqProofs (maxSteps:=5000000) only [go_sem,reduceIte,reduceCtorEq,Nat.reduceEqDiff,Nat.reduceBEq,Nat.reduceAdd,Nat.reduceLeDiff,Nat.reduceMul,Nat.reduceLT,Int.reduceEq,Int.reduceLT,Int.reduceLE,hi]
       rw [fin hrel hend]
       by_cases k7 : (p.getD 0 default).kind = 7
       ·have hs : stOk p 0 = tryOkF (kindsP p (tailQ p (p.getD 0 default).depth (endP p 0))) := by
         unfold stOk; rw [k7]; simp only [show followsK 7 = false from rfl,decide_true,Bool.not_true,Bool.not_false,Bool.false_or,Bool.true_or,Bool.and_true,show ¬ (7 : Int) = 5 by decide,show ¬ (7 : Int) = 6 by decide,decide_false,Bool.or_self]
        rw [hs]
        simp +contextual -dsimp -implicitDefEqProofs (maxSteps:=5000000) only [go_sem,reduceIte,reduceCtorEq,Nat.reduceEqDiff,Nat.reduceBEq,Nat.reduceAdd,Nat.reduceLeDiff,Nat.reduceMul,Nat.reduceLT,Int.reduceEq,Int.reduceLT,Int.reduceLE,hi,k7]
        refine (c_validChain p cl' 0 _ hi hp).det ?_
        cases hc : tryOkF (kindsP p (tailQ p (p.getD 0 default).depth (endP p 0)))
        ·simp +contextual -dsimp -implicitDefEqProofs (maxSteps:=5000000) only [go_sem,reduceIte,reduceCtorEq,Nat.reduceEqDiff,Nat.reduceBEq,Nat.reduceAdd,Nat.reduceLeDiff,Nat.reduceMul,Nat.reduceLT,Int.reduceEq,Int.reduceLT,Int.reduceLE,hi,k7]
        ·simp +contextual -dsimp -implicitDefEqProofs (maxSteps:=5000000) only [go_sem,reduceIte,reduceCtorEq,Nat.reduceEqDiff,Nat.reduceBEq,Nat.reduceAdd,Nat.reduceLeDiff,Nat.reduceMul,Nat.reduceLT,Int.reduceEq,Int.reduceLT,Int.reduceLE,hi,k7]
         refine (c_follows _ _).det ?_
         rw [show followsK 7 = false from rfl]
         simp +contextual -dsimp -implicitDefEqProofs (maxSteps:=5000000) only [go_sem,reduceIte,reduceCtorEq,Nat.reduceEqDiff,Nat.reduceBEq,Nat.reduceAdd,Nat.reduceLeDiff,Nat.reduceMul,Nat.reduceLT,Int.reduceEq,Int.reduceLT,Int.reduceLE]
       ·by_cases k5 : (p.getD 0 default).kind = 5
        ·have hs : stOk p 0 = inLoopR (p.getD 0 default).depth (upto p 0) := by
          unfold stOk; rw [k5]; simp only [show followsK 5 = false from rfl,decide_true,Bool.not_true,Bool.not_false,Bool.false_or,Bool.true_or,Bool.or_true,Bool.and_true,Bool.true_and,show ¬ (5 : Int) = 7 by decide,show ¬ (5 : Int) = 6 by decide,decide_false]
         rw [hs]
         simp +contextual -dsimp -implicitDefEqProofs (maxSteps:=5000000) only [go_sem,reduceIte,reduceCtorEq,Nat.reduceEqDiff,Nat.reduceBEq,Nat.reduceAdd,Nat.reduceLeDiff,Nat.reduceMul,Nat.reduceLT,Int.reduceEq,Int.reduceLT,Int.reduceLE,hi,k5]
         refine (c_inLoop p cl' 0 _ hi).det ?_
         cases hc : inLoopR (p.getD 0 default).depth (upto p 0)
         ·simp +contextual -dsimp -implicitDefEqProofs (maxSteps:=5000000) only [go_sem,reduceIte,reduceCtorEq,Nat.reduceEqDiff,Nat.reduceBEq,Nat.reduceAdd,Nat.reduceLeDiff,Nat.reduceMul,Nat.reduceLT,Int.reduceEq,Int.reduceLT,Int.reduceLE,hi,k5]
         ·simp +contextual -dsimp -implicitDefEqProofs (maxSteps:=5000000) only [go_sem,reduceIte,reduceCtorEq,Nat.reduceEqDiff,Nat.reduceBEq,Nat.reduceAdd,Nat.reduceLeDiff,Nat.reduceMul,Nat.reduceLT,Int.reduceEq,Int.reduceLT,Int.reduceLE,hi,k5]
          refine (c_follows _ _).det ?_
          rw [show followsK 5 = false from rfl]
          simp +contextual -dsimp -implicitDefEqProofs (maxSteps:=5000000) only [go_sem,reduceIte,reduceCtorEq,Nat.reduceEqDiff,Nat.reduceBEq,Nat.reduceAdd,Nat.reduceLeDiff,Nat.reduceMul,Nat.reduceLT,Int.reduceEq,Int.reduceLT,Int.reduceLE]
        ·by_cases k6 : (p.getD 0 default).kind = 6
         ·have hs : stOk p 0 = inLoopR (p.getD 0 default).depth (upto p 0) := by
           unfold stOk; rw [k6]; simp only [show followsK 6 = false from rfl,decide_true,Bool.not_true,Bool.not_false,Bool.false_or,Bool.true_or,Bool.or_true,Bool.and_true,Bool.true_and,show ¬ (6 : Int) = 7 by decide,show ¬ (6 : Int) = 5 by decide,decide_false]
          rw [hs]
          simp +contextual -dsimp -implicitDefEqProofs (maxSteps:=5000000) only [go_sem,reduceIte,reduceCtorEq,Nat.reduceEqDiff,Nat.reduceBEq,Nat.reduceAdd,Nat.reduceLeDiff,Nat.reduceMul,Nat.reduceLT,Int.reduceEq,Int.reduceLT,Int.reduceLE,hi,k6]
          refine (c_inLoop p cl' 0 _ hi).det ?_
          cases hc : inLoopR (p.getD 0 default).depth (upto p 0)
          ·simp +contextual -dsimp -implicitDefEqProofs (maxSteps:=5000000) only [go_sem,reduceIte,reduceCtorEq,Nat.reduceEqDiff,Nat.reduceBEq,Nat.reduceAdd,Nat.reduceLeDiff,Nat.reduceMul,Nat.reduceLT,Int.reduceEq,Int.reduceLT,Int.reduceLE,hi,k6]
          ·simp +contextual -dsimp -implicitDefEqProofs (maxSteps:=5000000) only [go_sem,reduceIte,reduceCtorEq,Nat.reduceEqDiff,Nat.reduceBEq,Nat.reduceAdd,Nat.reduceLeDiff,Nat.reduceMul,Nat.reduceLT,Int.reduceEq,Int.reduceLT,Int.reduceLE,hi,k6]
           refine (c_follows _ _).det ?_
           rw [show followsK 6 = false from rfl]
           simp +contextual -dsimp -implicitDefEqProofs (maxSteps:=5000000) only [go_sem,reduceIte,reduceCtorEq,Nat.reduceEqDiff,Nat.reduceBEq,Nat.reduceAdd,Nat.reduceLeDiff,Nat.reduceMul,Nat.reduceLT,Int.reduceEq,Int.reduceLT,Int.reduceLE]
         ·have hs : stOk p 0 = (!followsK (p.getD 0 default).kind || headOkR (headR (p.getD 0 default).depth (upto p 0))) := by
           unfold stOk; simp only [k7,k5,k6,decide_false,Bool.not_false,Bool.true_or,Bool.true_and,Bool.or_self]
          rw [hs]
          simp +contextual -dsimp -implicitDefEqProofs (maxSteps:=5000000) only [go_sem,reduceIte,reduceCtorEq,Nat.reduceEqDiff,Nat.reduceBEq,Nat.reduceAdd,Nat.reduceLeDiff,Nat.reduceMul,Nat.reduceLT,Int.reduceEq,Int.reduceLT,Int.reduceLE,hi,k5,k6,k7]
          refine (c_follows _ _).det ?_
          cases hf : followsK (p.getD 0 default).kind
          ·simp +contextual -dsimp -implicitDefEqProofs (maxSteps:=5000000) only [go_sem,reduceIte,reduceCtorEq,Nat.reduceEqDiff,Nat.reduceBEq,Nat.reduceAdd,Nat.reduceLeDiff,Nat.reduceMul,Nat.reduceLT,Int.reduceEq,Int.reduceLT,Int.reduceLE]
          ·simp +contextual -dsimp -implicitDefEqProofs (maxSteps:=5000000) only [go_sem,reduceIte,reduceCtorEq,Nat.reduceEqDiff,Nat.reduceBEq,Nat.reduceAdd,Nat.reduceLeDiff,Nat.reduceMul,Nat.reduceLT,Int.reduceEq,Int.reduceLT,Int.reduceLE,hi]
           refine (c_headOf p cl' 0 _ hi).mono ?_
           rintro _ _ ⟨v, rfl, rfl, hv⟩
           rcases hv with ⟨rfl, hv⟩ | ⟨k, rfl, hk, hv⟩
           ·rw [hv]
            have z : ¬ (0 : Int) ≤ -1 := by omega
            simp +contextual -dsimp -implicitDefEqProofs (maxSteps:=5000000) only [go_sem,reduceIte,reduceCtorEq,Nat.reduceEqDiff,Nat.reduceBEq,Nat.reduceAdd,Nat.reduceLeDiff,Nat.reduceMul,Nat.reduceLT,Int.reduceEq,Int.reduceLT,Int.reduceLE,z,headOkR]
           ·rw [hv]
            simp +contextual -dsimp -implicitDefEqProofs (maxSteps:=5000000) only [go_sem,reduceIte,reduceCtorEq,Nat.reduceEqDiff,Nat.reduceBEq,Nat.reduceAdd,Nat.reduceLeDiff,Nat.reduceMul,Nat.reduceLT,Int.reduceEq,Int.reduceLT,Int.reduceLE,hk,headOkR]
            by_cases q7 : (p.getD k default).kind = 7
            ·simp +contextual -dsimp -implicitDefEqProofs (maxSteps:=5000000) only [go_sem,reduceIte,reduceCtorEq,Nat.reduceEqDiff,Nat.reduceBEq,Nat.reduceAdd,Nat.reduceLeDiff,Nat.reduceMul,Nat.reduceLT,Int.reduceEq,Int.reduceLT,Int.reduceLE,q7]
            ·simp +contextual -dsimp -implicitDefEqProofs (maxSteps:=5000000) only [go_sem,reduceIte,reduceCtorEq,Nat.reduceEqDiff,Nat.reduceBEq,Nat.reduceAdd,Nat.reduceLeDiff,Nat.reduceMul,Nat.reduceLT,Int.reduceEq,Int.reduceLT,Int.reduceLE,q7,hk]
             refine (c_follows _ _).det ?_
             simp +contextual -dsimp -implicitDefEqProofs (maxSteps:=5000000) only [go_sem,reduceIte,reduceCtorEq,Nat.reduceEqDiff,Nat.reduceBEq,Nat.reduceAdd,Nat.reduceLeDiff,Nat.reduceMul,Nat.reduceLT,Int.reduceEq,Int.reduceLT,Int.reduceLE,q7]
             simp only [headOkR,q7,decide_false,Bool.false_or]
      ·rw [bad2 (ee true ho el)]
       simp +contextual -dsimp -implicitDefEqProofs (maxSteps:=5000000) only [go_sem,reduceIte,reduceCtorEq,Nat.reduceEqDiff,Nat.reduceBEq,Nat.reduceAdd,Nat.reduceLeDiff,Nat.reduceMul,Nat.reduceLT,Int.reduceEq,Int.reduceLT,Int.reduceLE,hi]
     ·have el' : ¬ (1 : Int) = (p.length : Int) := by omega
      have hend := en el
      simp +contextual -dsimp -implicitDefEqProofs (maxSteps:=5000000) only [go_sem,reduceIte,reduceCtorEq,Nat.reduceEqDiff,Nat.reduceBEq,Nat.reduceAdd,Nat.reduceLeDiff,Nat.reduceMul,Nat.reduceLT,Int.reduceEq,Int.reduceLT,Int.reduceLE,hi,d0,hw1,el']
      rw [fin hrel hend]
      by_cases k7 : (p.getD 0 default).kind = 7
      ·have hs : stOk p 0 = tryOkF (kindsP p (tailQ p (p.getD 0 default).depth (endP p 0))) := by
        unfold stOk; rw [k7]; simp only [show followsK 7 = false from rfl,decide_true,Bool.not_true,Bool.not_false,Bool.false_or,Bool.true_or,Bool.and_true,show ¬ (7 : Int) = 5 by decide,show ¬ (7 : Int) = 6 by decide,decide_false,Bool.or_self]
       rw [hs]
       simp +contextual -dsimp -implicitDefEqProofs (maxSteps:=5000000) only [go_sem,reduceIte,reduceCtorEq,Nat.reduceEqDiff,Nat.reduceBEq,Nat.reduceAdd,Nat.reduceLeDiff,Nat.reduceMul,Nat.reduceLT,Int.reduceEq,Int.reduceLT,Int.reduceLE,hi,k7]
       refine (c_validChain p cl' 0 _ hi hp).det ?_
       cases hc : tryOkF (kindsP p (tailQ p (p.getD 0 default).depth (endP p 0)))
       ·simp +contextual -dsimp -implicitDefEqProofs (maxSteps:=5000000) only [go_sem,reduceIte,reduceCtorEq,Nat.reduceEqDiff,Nat.reduceBEq,Nat.reduceAdd,Nat.reduceLeDiff,Nat.reduceMul,Nat.reduceLT,Int.reduceEq,Int.reduceLT,Int.reduceLE,hi,k7]
       ·simp +contextual -dsimp -implicitDefEqProofs (maxSteps:=5000000) only [go_sem,reduceIte,reduceCtorEq,Nat.reduceEqDiff,Nat.reduceBEq,Nat.reduceAdd,Nat.reduceLeDiff,Nat.reduceMul,Nat.reduceLT,Int.reduceEq,Int.reduceLT,Int.reduceLE,hi,k7]
        refine (c_follows _ _).det ?_
        rw [show followsK 7 = false from rfl]
        simp +contextual -dsimp -implicitDefEqProofs (maxSteps:=5000000) only [go_sem,reduceIte,reduceCtorEq,Nat.reduceEqDiff,Nat.reduceBEq,Nat.reduceAdd,Nat.reduceLeDiff,Nat.reduceMul,Nat.reduceLT,Int.reduceEq,Int.reduceLT,Int.reduceLE]
      ·by_cases k5 : (p.getD 0 default).kind = 5
       ·have hs : stOk p 0 = inLoopR (p.getD 0 default).depth (upto p 0) := by
         unfold stOk; rw [k5]; simp only [show followsK 5 = false from rfl,decide_true,Bool.not_true,Bool.not_false,Bool.false_or,Bool.true_or,Bool.or_true,Bool.and_true,Bool.true_and,show ¬ (5 : Int) = 7 by decide,show ¬ (5 : Int) = 6 by decide,decide_false]
        rw [hs]
        simp +contextual -dsimp -implicitDefEqProofs (maxSteps:=5000000) only [go_sem,reduceIte,reduceCtorEq,Nat.reduceEqDiff,Nat.reduceBEq,Nat.reduceAdd,Nat.reduceLeDiff,Nat.reduceMul,Nat.reduceLT,Int.reduceEq,Int.reduceLT,Int.reduceLE,hi,k5]
        refine (c_inLoop p cl' 0 _ hi).det ?_
        cases hc : inLoopR (p.getD 0 default).depth (upto p 0)
        ·simp +contextual -dsimp -implicitDefEqProofs (maxSteps:=5000000) only [go_sem,reduceIte,reduceCtorEq,Nat.reduceEqDiff,Nat.reduceBEq,Nat.reduceAdd,Nat.reduceLeDiff,Nat.reduceMul,Nat.reduceLT,Int.reduceEq,Int.reduceLT,Int.reduceLE,hi,k5]
        ·simp +contextual -dsimp -implicitDefEqProofs (maxSteps:=5000000) only [go_sem,reduceIte,reduceCtorEq,Nat.reduceEqDiff,Nat.reduceBEq,Nat.reduceAdd,Nat.reduceLeDiff,Nat.reduceMul,Nat.reduceLT,Int.reduceEq,Int.reduceLT,Int.reduceLE,hi,k5]
         refine (c_follows _ _).det ?_
         rw [show followsK 5 = false from rfl]
         simp +contextual -dsimp -implicitDefEqProofs (maxSteps:=5000000) only [go_sem,reduceIte,reduceCtorEq,Nat.reduceEqDiff,Nat.reduceBEq,Nat.reduceAdd,Nat.reduceLeDiff,Nat.reduceMul,Nat.reduceLT,Int.reduceEq,Int.reduceLT,Int.reduceLE]
       ·by_cases k6 : (p.getD 0 default).kind = 6
        ·have hs : stOk p 0 = inLoopR (p.getD 0 default).depth (upto p 0) := by
          unfold stOk; rw [k6]; simp only [show followsK 6 = false from rfl,decide_true,Bool.not_true,Bool.not_false,Bool.false_or,Bool.true_or,Bool.or_true,Bool.and_true,Bool.true_and,show ¬ (6 : Int) = 7 by decide,show ¬ (6 : Int) = 5 by decide,decide_false]
         rw [hs]
         simp +contextual -dsimp -implicitDefEqProofs (maxSteps:=5000000) only [go_sem,reduceIte,reduceCtorEq,Nat.reduceEqDiff,Nat.reduceBEq,Nat.reduceAdd,Nat.reduceLeDiff,Nat.reduceMul,Nat.reduceLT,Int.reduceEq,Int.reduceLT,Int.reduceLE,hi,k6]
         refine (c_inLoop p cl' 0 _ hi).det ?_
         cases hc : inLoopR (p.getD 0 default).depth (upto p 0)
         ·simp +contextual -dsimp -implicitDefEqProofs (maxSteps:=5000000) only [go_sem,reduceIte,reduceCtorEq,Nat.reduceEqDiff,Nat.reduceBEq,Nat.reduceAdd,Nat.reduceLeDiff,Nat.reduceMul,Nat.reduceLT,Int.reduceEq,Int.reduceLT,Int.reduceLE,hi,k6]
         ·simp +contextual -dsimp -implicitDefEqProofs (maxSteps:=5000000) only [go_sem,reduceIte,reduceCtorEq,Nat.reduceEqDiff,Nat.reduceBEq,Nat.reduceAdd,Nat.reduceLeDiff,Nat.reduceMul,Nat.reduceLT,Int.reduceEq,Int.reduceLT,Int.reduceLE,hi,k6]
          refine (c_follows _ _).det ?_
          rw [show followsK 6 = false from rfl]
          simp +contextual -dsimp -implicitDefEqProofs (maxSteps:=5000000) only [go_sem,reduceIte,reduceCtorEq,Nat.reduceEqDiff,Nat.reduceBEq,Nat.reduceAdd,Nat.reduceLeDiff,Nat.reduceMul,Nat.reduceLT,Int.reduceEq,Int.reduceLT,Int.reduceLE]
        ·have hs : stOk p 0 = (!followsK (p.getD 0 default).kind || headOkR (headR (p.getD 0 default).depth (upto p 0))) := by
          unfold stOk; simp only [k7,k5,k6,decide_false,Bool.not_false,Bool.true_or,Bool.true_and,Bool.or_self]
         rw [hs]
         simp +contextual -dsimp -implicitDefEqProofs (maxSteps:=5000000) only [go_sem,reduceIte,reduceCtorEq,Nat.reduceEqDiff,Nat.reduceBEq,Nat.reduceAdd,Nat.reduceLeDiff,Nat.reduceMul,Nat.reduceLT,Int.reduceEq,Int.reduceLT,Int.reduceLE,hi,k5,k6,k7]
         refine (c_follows _ _).det ?_
         cases hf : followsK (p.getD 0 default).kind
         ·simp +contextual -dsimp -implicitDefEqProofs (maxSteps:=5000000) only [go_sem,reduceIte,reduceCtorEq,Nat.reduceEqDiff,Nat.reduceBEq,Nat.reduceAdd,Nat.reduceLeDiff,Nat.reduceMul,Nat.reduceLT,Int.reduceEq,Int.reduceLT,Int.reduceLE]
         ·simp +contextual -dsimp -implicitDefEqProofs (maxSteps:=5000000) only [go_sem,reduceIte,reduceCtorEq,Nat.reduceEqDiff,Nat.reduceBEq,Nat.reduceAdd,Nat.reduceLeDiff,Nat.reduceMul,Nat.reduceLT,Int.reduceEq,Int.reduceLT,Int.reduceLE,hi]
          refine (c_headOf p cl' 0 _ hi).mono ?_
          rintro _ _ ⟨v, rfl, rfl, hv⟩
          rcases hv with ⟨rfl, hv⟩ | ⟨k, rfl, hk, hv⟩
          ·rw [hv]
           have z : ¬ (0 : Int) ≤ -1 := by omega
           simp +contextual -dsimp -implicitDefEqProofs (maxSteps:=5000000) only [go_sem,reduceIte,reduceCtorEq,Nat.reduceEqDiff,Nat.reduceBEq,Nat.reduceAdd,Nat.reduceLeDiff,Nat.reduceMul,Nat.reduceLT,Int.reduceEq,Int.reduceLT,Int.reduceLE,z,headOkR]
          ·rw [hv]
           simp +contextual -dsimp -implicitDefEqProofs (maxSteps:=5000000) only [go_sem,reduceIte,reduceCtorEq,Nat.reduceEqDiff,Nat.reduceBEq,Nat.reduceAdd,Nat.reduceLeDiff,Nat.reduceMul,Nat.reduceLT,Int.reduceEq,Int.reduceLT,Int.reduceLE,hk,headOkR]
           by_cases q7 : (p.getD k default).kind = 7
           ·simp +contextual -dsimp -implicitDefEqProofs (maxSteps:=5000000) only [go_sem,reduceIte,reduceCtorEq,Nat.reduceEqDiff,Nat.reduceBEq,Nat.reduceAdd,Nat.reduceLeDiff,Nat.reduceMul,Nat.reduceLT,Int.reduceEq,Int.reduceLT,Int.reduceLE,q7]
           ·simp +contextual -dsimp -implicitDefEqProofs (maxSteps:=5000000) only [go_sem,reduceIte,reduceCtorEq,Nat.reduceEqDiff,Nat.reduceBEq,Nat.reduceAdd,Nat.reduceLeDiff,Nat.reduceMul,Nat.reduceLT,Int.reduceEq,Int.reduceLT,Int.reduceLE,q7,hk]
            refine (c_follows _ _).det ?_
            simp +contextual -dsimp -implicitDefEqProofs (maxSteps:=5000000) only [go_sem,reduceIte,reduceCtorEq,Nat.reduceEqDiff,Nat.reduceBEq,Nat.reduceAdd,Nat.reduceLeDiff,Nat.reduceMul,Nat.reduceLT,Int.reduceEq,Int.reduceLT,Int.reduceLE,q7]
            simp only [headOkR,q7,decide_false,Bool.false_or]
    ·simp +contextual -dsimp -implicitDefEqProofs (maxSteps:=5000000) only [go_sem,reduceIte,reduceCtorEq,Nat.reduceEqDiff,Nat.reduceBEq,Nat.reduceAdd,Nat.reduceLeDiff,Nat.reduceMul,Nat.reduceLT,Int.reduceEq,Int.reduceLT,Int.reduceLE,hi,d0,bad1 (by unfold relOk; rw [if_pos rfl,decide_eq_false d0])]
   ·refine draw_intro [0, 0, 0, 0, 0, 0, 0, 0, 0, 0, 0, 0, 0, 0, 0, 0, 0, 0, 0, 0, 0, 0, 0, 0, 0, 0, 0, 0, 3, 0, 1, 0, 0, 0, 0, 0, 1, 0, 0, 0, 0, 0, 0, 0, 0, 0, 0, 0, 0, 0, 0, 0, 2, 0, 0] _ (by kernel_rfl) (AHeap.le_refl _) ?_
    have hpv := inR5 (hprev i0)
    have i0' : ¬ (i : Int) = 0 := by omega
    have i1 : (0 : Int) < (i : Int) := by omega
    have hwi : IntKind.i64.wrap ((i : Int) - 1) = ((i - 1 : Nat) : Int) := by rw [w64 (by omega) (by omega)]; omega
    have hi1 : i - 1 < p.length := by omega
    have hi2 : i - 1 < i + 1 := by omega
    have hwd : IntKind.i64.wrap ((p.getD (i - 1) default).depth + 1) = (p.getD (i - 1) default).depth + 1 := w64 (by omega) (by omega)
    have er : relOk p i = stepOk (p.getD (i - 1) default) (p.getD i default) := by unfold relOk; rw [if_neg i0]
    by_cases g : (p.getD (i - 1) default).depth + 1 < (p.getD i default).depth
    ·have hb : relOk p i = false := by
      rw [er]; unfold stepOk; split
      ·exact decide_eq_false (by omega)
      ·exact decide_eq_false (by omega)
     simp +contextual -dsimp -implicitDefEqProofs (maxSteps:=5000000) only [go_sem,reduceIte,reduceCtorEq,Nat.reduceEqDiff,Nat.reduceBEq,Nat.reduceAdd,Nat.reduceLeDiff,Nat.reduceMul,Nat.reduceLT,Int.reduceEq,Int.reduceLT,Int.reduceLE,hi,i0',i1,hwi,hi1,hwd,g,bad1 hb]
    ·simp +contextual -dsimp -implicitDefEqProofs (maxSteps:=5000000) only [go_sem,reduceIte,reduceCtorEq,Nat.reduceEqDiff,Nat.reduceBEq,Nat.reduceAdd,Nat.reduceLeDiff,Nat.reduceMul,Nat.reduceLT,Int.reduceEq,Int.reduceLT,Int.reduceLE,hi,i0',i1,hwi,hi1,hwd,g]
     refine (c_opens _ _).det ?_
     refine ⟨AHeap.le_refl _, ?_⟩
     by_cases e : (p.getD i default).depth = (p.getD (i - 1) default).depth + 1
     ·cases ho : opensK (p.getD (i - 1) default).kind
      ·have hb : relOk p i = false := by
        rw [er]; unfold stepOk; rw [ho, if_neg (by decide)]; exact decide_eq_false (by omega)
       simp +contextual -dsimp -implicitDefEqProofs (maxSteps:=5000000) only [go_sem,reduceIte,reduceCtorEq,Nat.reduceEqDiff,Nat.reduceBEq,Nat.reduceAdd,Nat.reduceLeDiff,Nat.reduceMul,Nat.reduceLT,Int.reduceEq,Int.reduceLT,Int.reduceLE,hi,i0',i1,hwi,hi1,hwd,g,e,bad1 hb]
      ·have hrel : relOk p i = true := by
        rw [er]; unfold stepOk; rw [ho, if_pos rfl]; exact decide_eq_true e
       by_cases el : i + 1 = p.length
       ·have el' : (p.length : Int) = ((i + 1 : Nat) : Int) := by omega
        simp +contextual -dsimp -implicitDefEqProofs (maxSteps:=5000000) only [go_sem,reduceIte,reduceCtorEq,Nat.reduceEqDiff,Nat.reduceBEq,Nat.reduceAdd,Nat.reduceLeDiff,Nat.reduceMul,Nat.reduceLT,Int.reduceEq,Int.reduceLT,Int.reduceLE,hi,i0',i1,hwi,hi1,hwd,g,e,hw,el',hi2]
        refine (c_opens _ _).det ?_
        cases ho : opensK (p.getD i default).kind
        ·have hend := ee false ho el
         simp +contextual -dsimp -implicitDefEqProofs (maxSteps:=5000000) only [go_sem,reduceIte,reduceCtorEq,Nat.reduceEqDiff,Nat.reduceBEq,Nat.reduceAdd,Nat.reduceLeDiff,Nat.reduceMul,Nat.reduceLT,Int.reduceEq,Int.reduceLT,Int.reduceLE,hi]
         rw [fin hrel hend]
         by_cases k7 : (p.getD i default).kind = 7
         ·have hs : stOk p i = tryOkF (kindsP p (tailQ p (p.getD i default).depth (endP p i))) := by
           unfold stOk; rw [k7]; simp only [show followsK 7 = false from rfl,decide_true,Bool.not_true,Bool.not_false,Bool.false_or,Bool.true_or,Bool.and_true,show ¬ (7 : Int) = 5 by decide,show ¬ (7 : Int) = 6 by decide,decide_false,Bool.or_self]
          rw [hs]
          simp +contextual -dsimp -implicitDefEqProofs (maxSteps:=5000000) only [go_sem,reduceIte,reduceCtorEq,Nat.reduceEqDiff,Nat.reduceBEq,Nat.reduceAdd,Nat.reduceLeDiff,Nat.reduceMul,Nat.reduceLT,Int.reduceEq,Int.reduceLT,Int.reduceLE,hi,k7]
          refine (c_validChain p cl' i _ hi hp).det ?_
          cases hc : tryOkF (kindsP p (tailQ p (p.getD i default).depth (endP p i)))
          ·simp +contextual -dsimp -implicitDefEqProofs (maxSteps:=5000000) only [go_sem,reduceIte,reduceCtorEq,Nat.reduceEqDiff,Nat.reduceBEq,Nat.reduceAdd,Nat.reduceLeDiff,Nat.reduceMul,Nat.reduceLT,Int.reduceEq,Int.reduceLT,Int.reduceLE,hi,k7]
          ·simp +contextual -dsimp -implicitDefEqProofs (maxSteps:=5000000) only [go_sem,reduceIte,reduceCtorEq,Nat.reduceEqDiff,Nat.reduceBEq,Nat.reduceAdd,Nat.reduceLeDiff,Nat.reduceMul,Nat.reduceLT,Int.reduceEq,Int.reduceLT,Int.reduceLE,hi,k7]
           refine (c_follows _ _).det ?_
           rw [show followsK 7 = false from rfl]
           simp +contextual -dsimp -implicitDefEqProofs (maxSteps:=5000000) only [go_sem,reduceIte,reduceCtorEq,Nat.reduceEqDiff,Nat.reduceBEq,Nat.reduceAdd,Nat.reduceLeDiff,Nat.reduceMul,Nat.reduceLT,Int.reduceEq,Int.reduceLT,Int.reduceLE]
         ·by_cases k5 : (p.getD i default).kind = 5
          ·have hs : stOk p i = inLoopR (p.getD i default).depth (upto p i) := by
            unfold stOk; rw [k5]; simp only [show followsK 5 = false from rfl,decide_true,Bool.not_true,Bool.not_false,Bool.false_or,Bool.true_or,Bool.or_true,Bool.and_true,Bool.true_and,show ¬ (5 : Int) = 7 by decide,show ¬ (5 : Int) = 6 by decide,decide_false]
           rw [hs]
           simp +contextual -dsimp -implicitDefEqProofs (maxSteps:=5000000) only [go_sem,reduceIte,reduceCtorEq,Nat.reduceEqDiff,Nat.reduceBEq,Nat.reduceAdd,Nat.reduceLeDiff,Nat.reduceMul,Nat.reduceLT,Int.reduceEq,Int.reduceLT,Int.reduceLE,hi,k5]
           refine (c_inLoop p cl' i _ hi).det ?_
           cases hc : inLoopR (p.getD i default).depth (upto p i)
           ·simp +contextual -dsimp -implicitDefEqProofs (maxSteps:=5000000) only [go_sem,reduceIte,reduceCtorEq,Nat.reduceEqDiff,Nat.reduceBEq,Nat.reduceAdd,Nat.reduceLeDiff,Nat.reduceMul,Nat.reduceLT,Int.reduceEq,Int.reduceLT,Int.reduceLE,hi,k5]
           ·simp +contextual -dsimp -implicitDefEqProofs (maxSteps:=5000000) only [go_sem,reduceIte,reduceCtorEq,Nat.reduceEqDiff,Nat.reduceBEq,Nat.reduceAdd,Nat.reduceLeDiff,Nat.reduceMul,Nat.reduceLT,Int.reduceEq,Int.reduceLT,Int.reduceLE,hi,k5]
            refine (c_follows _ _).det ?_
            rw [show followsK 5 = false from rfl]
            simp +contextual -dsimp -implicitDefEqProofs (maxSteps:=5000000) only [go_sem,reduceIte,reduceCtorEq,Nat.reduceEqDiff,Nat.reduceBEq,Nat.reduceAdd,Nat.reduceLeDiff,Nat.reduceMul,Nat.reduceLT,Int.reduceEq,Int.reduceLT,Int.reduceLE]
          ·by_cases k6 : (p.getD i default).kind = 6
           ·have hs : stOk p i = inLoopR (p.getD i default).depth (upto p i) := by
             unfold stOk; rw [k6]; simp only [show followsK 6 = false from rfl,decide_true,Bool.not_true,Bool.not_false,Bool.false_or,Bool.true_or,Bool.or_true,Bool.and_true,Bool.true_and,show ¬ (6 : Int) = 7 by decide,show ¬ (6 : Int) = 5 by decide,decide_false]
            rw [hs]
            simp +contextual -dsimp -implicitDefEqProofs (maxSteps:=5000000) only [go_sem,reduceIte,reduceCtorEq,Nat.reduceEqDiff,Nat.reduceBEq,Nat.reduceAdd,Nat.reduceLeDiff,Nat.reduceMul,Nat.reduceLT,Int.reduceEq,Int.reduceLT,Int.reduceLE,hi,k6]
            refine (c_inLoop p cl' i _ hi).det ?_
            cases hc : inLoopR (p.getD i default).depth (upto p i)
            ·simp +contextual -dsimp -implicitDefEqProofs (maxSteps:=5000000) only [go_sem,reduceIte,reduceCtorEq,Nat.reduceEqDiff,Nat.reduceBEq,Nat.reduceAdd,Nat.reduceLeDiff,Nat.reduceMul,Nat.reduceLT,Int.reduceEq,Int.reduceLT,Int.reduceLE,hi,k6]
            ·simp +contextual -dsimp -implicitDefEqProofs (maxSteps:=5000000) only [go_sem,reduceIte,reduceCtorEq,Nat.reduceEqDiff,Nat.reduceBEq,Nat.reduceAdd,Nat.reduceLeDiff,Nat.reduceMul,Nat.reduceLT,Int.reduceEq,Int.reduceLT,Int.reduceLE,hi,k6]
             refine (c_follows _ _).det ?_
             rw [show followsK 6 = false from rfl]
             simp +contextual -dsimp -implicitDefEqProofs (maxSteps:=5000000) only [go_sem,reduceIte,reduceCtorEq,Nat.reduceEqDiff,Nat.reduceBEq,Nat.reduceAdd,Nat.reduceLeDiff,Nat.reduceMul,Nat.reduceLT,Int.reduceEq,Int.reduceLT,Int.reduceLE]
           ·have hs : stOk p i = (!followsK (p.getD i default).kind || headOkR (headR (p.getD i default).depth (upto p i))) := by
             unfold stOk; simp only [k7,k5,k6,decide_false,Bool.not_false,Bool.true_or,Bool.true_and,Bool.or_self]
            rw [hs]
            simp +contextual -dsimp -implicitDefEqProofs (maxSteps:=5000000) only [go_sem,reduceIte,reduceCtorEq,Nat.reduceEqDiff,Nat.reduceBEq,Nat.reduceAdd,Nat.reduceLeDiff,Nat.reduceMul,Nat.reduceLT,Int.reduceEq,Int.reduceLT,Int.reduceLE,hi,k5,k6,k7]
            refine (c_follows _ _).det ?_
            cases hf : followsK (p.getD i default).kind
            ·simp +contextual -dsimp -implicitDefEqProofs (maxSteps:=5000000) only [go_sem,reduceIte,reduceCtorEq,Nat.reduceEqDiff,Nat.reduceBEq,Nat.reduceAdd,Nat.reduceLeDiff,Nat.reduceMul,Nat.reduceLT,Int.reduceEq,Int.reduceLT,Int.reduceLE]
            ·simp +contextual -dsimp -implicitDefEqProofs (maxSteps:=5000000) only [go_sem,reduceIte,reduceCtorEq,Nat.reduceEqDiff,Nat.reduceBEq,Nat.reduceAdd,Nat.reduceLeDiff,Nat.reduceMul,Nat.reduceLT,Int.reduceEq,Int.reduceLT,Int.reduceLE,hi]
             refine (c_headOf p cl' i _ hi).mono ?_
             rintro _ _ ⟨v, rfl, rfl, hv⟩
             rcases hv with ⟨rfl, hv⟩ | ⟨k, rfl, hk, hv⟩
             ·rw [hv]
              have z : ¬ (0 : Int) ≤ -1 := by omega
              simp +contextual -dsimp -implicitDefEqProofs (maxSteps:=5000000) only [go_sem,reduceIte,reduceCtorEq,Nat.reduceEqDiff,Nat.reduceBEq,Nat.reduceAdd,Nat.reduceLeDiff,Nat.reduceMul,Nat.reduceLT,Int.reduceEq,Int.reduceLT,Int.reduceLE,z,headOkR]
             ·rw [hv]
              simp +contextual -dsimp -implicitDefEqProofs (maxSteps:=5000000) only [go_sem,reduceIte,reduceCtorEq,Nat.reduceEqDiff,Nat.reduceBEq,Nat.reduceAdd,Nat.reduceLeDiff,Nat.reduceMul,Nat.reduceLT,Int.reduceEq,Int.reduceLT,Int.reduceLE,hk,headOkR]
              by_cases q7 : (p.getD k default).kind = 7
              ·simp +contextual -dsimp -implicitDefEqProofs (maxSteps:=5000000) only [go_sem,reduceIte,reduceCtorEq,Nat.reduceEqDiff,Nat.reduceBEq,Nat.reduceAdd,Nat.reduceLeDiff,Nat.reduceMul,Nat.reduceLT,Int.reduceEq,Int.reduceLT,Int.reduceLE,q7]
              ·simp +contextual -dsimp -implicitDefEqProofs (maxSteps:=5000000) only [go_sem,reduceIte,reduceCtorEq,Nat.reduceEqDiff,Nat.reduceBEq,Nat.reduceAdd,Nat.reduceLeDiff,Nat.reduceMul,Nat.reduceLT,Int.reduceEq,Int.reduceLT,Int.reduceLE,q7,hk]
               refine (c_follows _ _).det ?_
               simp +contextual -dsimp -implicitDefEqProofs (maxSteps:=5000000) only [go_sem,reduceIte,reduceCtorEq,Nat.reduceEqDiff,Nat.reduceBEq,Nat.reduceAdd,Nat.reduceLeDiff,Nat.reduceMul,Nat.reduceLT,Int.reduceEq,Int.reduceLT,Int.reduceLE,q7]
               simp only [headOkR,q7,decide_false,Bool.false_or]
        ·rw [bad2 (ee true ho el)]
         simp +contextual -dsimp -implicitDefEqProofs (maxSteps:=5000000) only [go_sem,reduceIte,reduceCtorEq,Nat.reduceEqDiff,Nat.reduceBEq,Nat.reduceAdd,Nat.reduceLeDiff,Nat.reduceMul,Nat.reduceLT,Int.reduceEq,Int.reduceLT,Int.reduceLE,hi]
       ·have el' : ¬ ((i + 1 : Nat) : Int) = (p.length : Int) := by omega
        have hend := en el
        simp +contextual -dsimp -implicitDefEqProofs (maxSteps:=5000000) only [go_sem,reduceIte,reduceCtorEq,Nat.reduceEqDiff,Nat.reduceBEq,Nat.reduceAdd,Nat.reduceLeDiff,Nat.reduceMul,Nat.reduceLT,Int.reduceEq,Int.reduceLT,Int.reduceLE,hi,i0',i1,hwi,hi1,hwd,g,e,hw,el',hi2]
        rw [fin hrel hend]
        by_cases k7 : (p.getD i default).kind = 7
        ·have hs : stOk p i = tryOkF (kindsP p (tailQ p (p.getD i default).depth (endP p i))) := by
          unfold stOk; rw [k7]; simp only [show followsK 7 = false from rfl,decide_true,Bool.not_true,Bool.not_false,Bool.false_or,Bool.true_or,Bool.and_true,show ¬ (7 : Int) = 5 by decide,show ¬ (7 : Int) = 6 by decide,decide_false,Bool.or_self]
         rw [hs]
         simp +contextual -dsimp -implicitDefEqProofs (maxSteps:=5000000) only [go_sem,reduceIte,reduceCtorEq,Nat.reduceEqDiff,Nat.reduceBEq,Nat.reduceAdd,Nat.reduceLeDiff,Nat.reduceMul,Nat.reduceLT,Int.reduceEq,Int.reduceLT,Int.reduceLE,hi,k7]
         refine (c_validChain p cl' i _ hi hp).det ?_
         cases hc : tryOkF (kindsP p (tailQ p (p.getD i default).depth (endP p i)))
         ·simp +contextual -dsimp -implicitDefEqProofs (maxSteps:=5000000) only [go_sem,reduceIte,reduceCtorEq,Nat.reduceEqDiff,Nat.reduceBEq,Nat.reduceAdd,Nat.reduceLeDiff,Nat.reduceMul,Nat.reduceLT,Int.reduceEq,Int.reduceLT,Int.reduceLE,hi,k7]
         ·simp +contextual -dsimp -implicitDefEqProofs (maxSteps:=5000000) only [go_sem,reduceIte,reduceCtorEq,Nat.reduceEqDiff,Nat.reduceBEq,Nat.reduceAdd,Nat.reduceLeDiff,Nat.reduceMul,Nat.reduceLT,Int.reduceEq,Int.reduceLT,Int.reduceLE,hi,k7]
          refine (c_follows _ _).det ?_
          rw [show followsK 7 = false from rfl]
          simp +contextual -dsimp -implicitDefEqProofs (maxSteps:=5000000) only [go_sem,reduceIte,reduceCtorEq,Nat.reduceEqDiff,Nat.reduceBEq,Nat.reduceAdd,Nat.reduceLeDiff,Nat.reduceMul,Nat.reduceLT,Int.reduceEq,Int.reduceLT,Int.reduceLE]
        ·by_cases k5 : (p.getD i default).kind = 5
         ·have hs : stOk p i = inLoopR (p.getD i default).depth (upto p i) := by
           unfold stOk; rw [k5]; simp only [show followsK 5 = false from rfl,decide_true,Bool.not_true,Bool.not_false,Bool.false_or,Bool.true_or,Bool.or_true,Bool.and_true,Bool.true_and,show ¬ (5 : Int) = 7 by decide,show ¬ (5 : Int) = 6 by decide,decide_false]
          rw [hs]
          simp +contextual -dsimp -implicitDefEqProofs (maxSteps:=5000000) only [go_sem,reduceIte,reduceCtorEq,Nat.reduceEqDiff,Nat.reduceBEq,Nat.reduceAdd,Nat.reduceLeDiff,Nat.reduceMul,Nat.reduceLT,Int.reduceEq,Int.reduceLT,Int.reduceLE,hi,k5]
          refine (c_inLoop p cl' i _ hi).det ?_
          cases hc : inLoopR (p.getD i default).depth (upto p i)
          ·simp +contextual -dsimp -implicitDefEqProofs (maxSteps:=5000000) only [go_sem,reduceIte,reduceCtorEq,Nat.reduceEqDiff,Nat.reduceBEq,Nat.reduceAdd,Nat.reduceLeDiff,Nat.reduceMul,Nat.reduceLT,Int.reduceEq,Int.reduceLT,Int.reduceLE,hi,k5]
          ·simp +contextual -dsimp -implicitDefEqProofs (maxSteps:=5000000) only [go_sem,reduceIte,reduceCtorEq,Nat.reduceEqDiff,Nat.reduceBEq,Nat.reduceAdd,Nat.reduceLeDiff,Nat.reduceMul,Nat.reduceLT,Int.reduceEq,Int.reduceLT,Int.reduceLE,hi,k5]
           refine (c_follows _ _).det ?_
           rw [show followsK 5 = false from rfl]
           simp +contextual -dsimp -implicitDefEqProofs (maxSteps:=5000000) only [go_sem,reduceIte,reduceCtorEq,Nat.reduceEqDiff,Nat.reduceBEq,Nat.reduceAdd,Nat.reduceLeDiff,Nat.reduceMul,Nat.reduceLT,Int.reduceEq,Int.reduceLT,Int.reduceLE]
         ·by_cases k6 : (p.getD i default).kind = 6
          ·have hs : stOk p i = inLoopR (p.getD i default).depth (upto p i) := by
            unfold stOk; rw [k6]; simp only [show followsK 6 = false from rfl,decide_true,Bool.not_true,Bool.not_false,Bool.false_or,Bool.true_or,Bool.or_true,Bool.and_true,Bool.true_and,show ¬ (6 : Int) = 7 by decide,show ¬ (6 : Int) = 5 by decide,decide_false]
           rw [hs]
           simp +contextual -dsimp -implicitDefEqProofs (maxSteps:=5000000) only [go_sem,reduceIte,reduceCtorEq,Nat.reduceEqDiff,Nat.reduceBEq,Nat.reduceAdd,Nat.reduceLeDiff,Nat.reduceMul,Nat.reduceLT,Int.reduceEq,Int.reduceLT,Int.reduceLE,hi,k6]
           refine (c_inLoop p cl' i _ hi).det ?_
           cases hc : inLoopR (p.getD i default).depth (upto p i)
           ·simp +contextual -dsimp -implicitDefEqProofs (maxSteps:=5000000) only [go_sem,reduceIte,reduceCtorEq,Nat.reduceEqDiff,Nat.reduceBEq,Nat.reduceAdd,Nat.reduceLeDiff,Nat.reduceMul,Nat.reduceLT,Int.reduceEq,Int.reduceLT,Int.reduceLE,hi,k6]
           ·simp +contextual -dsimp -implicitDefEqProofs (maxSteps:=5000000) only [go_sem,reduceIte,reduceCtorEq,Nat.reduceEqDiff,Nat.reduceBEq,Nat.reduceAdd,Nat.reduceLeDiff,Nat.reduceMul,Nat.reduceLT,Int.reduceEq,Int.reduceLT,Int.reduceLE,hi,k6]
            refine (c_follows _ _).det ?_
            rw [show followsK 6 = false from rfl]
            simp +contextual -dsimp -implicitDefEqProofs (maxSteps:=5000000) only [go_sem,reduceIte,reduceCtorEq,Nat.reduceEqDiff,Nat.reduceBEq,Nat.reduceAdd,Nat.reduceLeDiff,Nat.reduceMul,Nat.reduceLT,Int.reduceEq,Int.reduceLT,Int.reduceLE]
          ·have hs : stOk p i = (!followsK (p.getD i default).kind || headOkR (headR (p.getD i default).depth (upto p i))) := by
            unfold stOk; simp only [k7,k5,k6,decide_false,Bool.not_false,Bool.true_or,Bool.true_and,Bool.or_self]
           rw [hs]
           simp +contextual -dsimp -implicitDefEqProofs (maxSteps:=5000000) only [go_sem,reduceIte,reduceCtorEq,Nat.reduceEqDiff,Nat.reduceBEq,Nat.reduceAdd,Nat.reduceLeDiff,Nat.reduceMul,Nat.reduceLT,Int.reduceEq,Int.reduceLT,Int.reduceLE,hi,k5,k6,k7]
           refine (c_follows _ _).det ?_
           cases hf : followsK (p.getD i default).kind
           ·simp +contextual -dsimp -implicitDefEqProofs (maxSteps:=5000000) only [go_sem,reduceIte,reduceCtorEq,Nat.reduceEqDiff,Nat.reduceBEq,Nat.reduceAdd,Nat.reduceLeDiff,Nat.reduceMul,Nat.reduceLT,Int.reduceEq,Int.reduceLT,Int.reduceLE]
           ·simp +contextual -dsimp -implicitDefEqProofs (maxSteps:=5000000) only [go_sem,reduceIte,reduceCtorEq,Nat.reduceEqDiff,Nat.reduceBEq,Nat.reduceAdd,Nat.reduceLeDiff,Nat.reduceMul,Nat.reduceLT,Int.reduceEq,Int.reduceLT,Int.reduceLE,hi]
            refine (c_headOf p cl' i _ hi).mono ?_
            rintro _ _ ⟨v, rfl, rfl, hv⟩
            rcases hv with ⟨rfl, hv⟩ | ⟨k, rfl, hk, hv⟩
            ·rw [hv]
             have z : ¬ (0 : Int) ≤ -1 := by omega
             simp +contextual -dsimp -implicitDefEqProofs (maxSteps:=5000000) only [go_sem,reduceIte,reduceCtorEq,Nat.reduceEqDiff,Nat.reduceBEq,Nat.reduceAdd,Nat.reduceLeDiff,Nat.reduceMul,Nat.reduceLT,Int.reduceEq,Int.reduceLT,Int.reduceLE,z,headOkR]
            ·rw [hv]
             simp +contextual -dsimp -implicitDefEqProofs (maxSteps:=5000000) only [go_sem,reduceIte,reduceCtorEq,Nat.reduceEqDiff,Nat.reduceBEq,Nat.reduceAdd,Nat.reduceLeDiff,Nat.reduceMul,Nat.reduceLT,Int.reduceEq,Int.reduceLT,Int.reduceLE,hk,headOkR]
             by_cases q7 : (p.getD k default).kind = 7
             ·simp +contextual -dsimp -implicitDefEqProofs (maxSteps:=5000000) only [go_sem,reduceIte,reduceCtorEq,Nat.reduceEqDiff,Nat.reduceBEq,Nat.reduceAdd,Nat.reduceLeDiff,Nat.reduceMul,Nat.reduceLT,Int.reduceEq,Int.reduceLT,Int.reduceLE,q7]
             ·simp +contextual -dsimp -implicitDefEqProofs (maxSteps:=5000000) only [go_sem,reduceIte,reduceCtorEq,Nat.reduceEqDiff,Nat.reduceBEq,Nat.reduceAdd,Nat.reduceLeDiff,Nat.reduceMul,Nat.reduceLT,Int.reduceEq,Int.reduceLT,Int.reduceLE,q7,hk]
              refine (c_follows _ _).det ?_
              simp +contextual -dsimp -implicitDefEqProofs (maxSteps:=5000000) only [go_sem,reduceIte,reduceCtorEq,Nat.reduceEqDiff,Nat.reduceBEq,Nat.reduceAdd,Nat.reduceLeDiff,Nat.reduceMul,Nat.reduceLT,Int.reduceEq,Int.reduceLT,Int.reduceLE,q7]
              simp only [headOkR,q7,decide_false,Bool.false_or]
     ·cases ho : opensK (p.getD (i - 1) default).kind
      ·have hrel : relOk p i = true := by
        rw [er]; unfold stepOk; rw [ho, if_neg (by decide)]; exact decide_eq_true (by omega)
       by_cases el : i + 1 = p.length
       ·have el' : (p.length : Int) = ((i + 1 : Nat) : Int) := by omega
        simp +contextual -dsimp -implicitDefEqProofs (maxSteps:=5000000) only [go_sem,reduceIte,reduceCtorEq,Nat.reduceEqDiff,Nat.reduceBEq,Nat.reduceAdd,Nat.reduceLeDiff,Nat.reduceMul,Nat.reduceLT,Int.reduceEq,Int.reduceLT,Int.reduceLE,hi,i0',i1,hwi,hi1,hwd,g,e,hw,el',hi2]
        refine (c_opens _ _).det ?_
        cases ho : opensK (p.getD i default).kind
        ·have hend := ee false ho el
         simp +contextual -dsimp -implicitDefEqProofs (maxSteps:=5000000) only [go_sem,reduceIte,reduceCtorEq,Nat.reduceEqDiff,Nat.reduceBEq,Nat.reduceAdd,Nat.reduceLeDiff,Nat.reduceMul,Nat.reduceLT,Int.reduceEq,Int.reduceLT,Int.reduceLE,hi]
         rw [fin hrel hend]
         by_cases k7 : (p.getD i default).kind = 7
         ·have hs : stOk p i = tryOkF (kindsP p (tailQ p (p.getD i default).depth (endP p i))) := by
           unfold stOk; rw [k7]; simp only [show followsK 7 = false from rfl,decide_true,Bool.not_true,Bool.not_false,Bool.false_or,Bool.true_or,Bool.and_true,show ¬ (7 : Int) = 5 by decide,show ¬ (7 : Int) = 6 by decide,decide_false,Bool.or_self]
          rw [hs]
          simp +contextual -dsimp -implicitDefEqProofs (maxSteps:=5000000) only [go_sem,reduceIte,reduceCtorEq,Nat.reduceEqDiff,Nat.reduceBEq,Nat.reduceAdd,Nat.reduceLeDiff,Nat.reduceMul,Nat.reduceLT,Int.reduceEq,Int.reduceLT,Int.reduceLE,hi,k7]
          refine (c_validChain p cl' i _ hi hp).det ?_
          cases hc : tryOkF (kindsP p (tailQ p (p.getD i default).depth (endP p i)))
          ·simp +contextual -dsimp -implicitDefEqProofs (maxSteps:=5000000) only [go_sem,reduceIte,reduceCtorEq,Nat.reduceEqDiff,Nat.reduceBEq,Nat.reduceAdd,Nat.reduceLeDiff,Nat.reduceMul,Nat.reduceLT,Int.reduceEq,Int.reduceLT,Int.reduceLE,hi,k7]
          ·simp +contextual -dsimp -implicitDefEqProofs (maxSteps:=5000000) only [go_sem,reduceIte,reduceCtorEq,Nat.reduceEqDiff,Nat.reduceBEq,Nat.reduceAdd,Nat.reduceLeDiff,Nat.reduceMul,Nat.reduceLT,Int.reduceEq,Int.reduceLT,Int.reduceLE,hi,k7]
           refine (c_follows _ _).det ?_
           rw [show followsK 7 = false from rfl]
           simp +contextual -dsimp -implicitDefEqProofs (maxSteps:=5000000) only [go_sem,reduceIte,reduceCtorEq,Nat.reduceEqDiff,Nat.reduceBEq,Nat.reduceAdd,Nat.reduceLeDiff,Nat.reduceMul,Nat.reduceLT,Int.reduceEq,Int.reduceLT,Int.reduceLE]
         ·by_cases k5 : (p.getD i default).kind = 5
          ·have hs : stOk p i = inLoopR (p.getD i default).depth (upto p i) := by
            unfold stOk; rw [k5]; simp only [show followsK 5 = false from rfl,decide_true,Bool.not_true,Bool.not_false,Bool.false_or,Bool.true_or,Bool.or_true,Bool.and_true,Bool.true_and,show ¬ (5 : Int) = 7 by decide,show ¬ (5 : Int) = 6 by decide,decide_false]
           rw [hs]
           simp +contextual -dsimp -implicitDefEqProofs (maxSteps:=5000000) only [go_sem,reduceIte,reduceCtorEq,Nat.reduceEqDiff,Nat.reduceBEq,Nat.reduceAdd,Nat.reduceLeDiff,Nat.reduceMul,Nat.reduceLT,Int.reduceEq,Int.reduceLT,Int.reduceLE,hi,k5]
           refine (c_inLoop p cl' i _ hi).det ?_
           cases hc : inLoopR (p.getD i default).depth (upto p i)
           ·simp +contextual -dsimp -implicitDefEqProofs (maxSteps:=5000000) only [go_sem,reduceIte,reduceCtorEq,Nat.reduceEqDiff,Nat.reduceBEq,Nat.reduceAdd,Nat.reduceLeDiff,Nat.reduceMul,Nat.reduceLT,Int.reduceEq,Int.reduceLT,Int.reduceLE,hi,k5]
           ·simp +contextual -dsimp -implicitDefEqProofs (maxSteps:=5000000) only [go_sem,reduceIte,reduceCtorEq,Nat.reduceEqDiff,Nat.reduceBEq,Nat.reduceAdd,Nat.reduceLeDiff,Nat.reduceMul,Nat.reduceLT,Int.reduceEq,Int.reduceLT,Int.reduceLE,hi,k5]
            refine (c_follows _ _).det ?_
            rw [show followsK 5 = false from rfl]
            simp +contextual -dsimp -implicitDefEqProofs (maxSteps:=5000000) only [go_sem,reduceIte,reduceCtorEq,Nat.reduceEqDiff,Nat.reduceBEq,Nat.reduceAdd,Nat.reduceLeDiff,Nat.reduceMul,Nat.reduceLT,Int.reduceEq,Int.reduceLT,Int.reduceLE]
          ·by_cases k6 : (p.getD i default).kind = 6
           ·have hs : stOk p i = inLoopR (p.getD i default).depth (upto p i) := by
             unfold stOk; rw [k6]; simp only [show followsK 6 = false from rfl,decide_true,Bool.not_true,Bool.not_false,Bool.false_or,Bool.true_or,Bool.or_true,Bool.and_true,Bool.true_and,show ¬ (6 : Int) = 7 by decide,show ¬ (6 : Int) = 5 by decide,decide_false]
            rw [hs]
            simp +contextual -dsimp -implicitDefEqProofs (maxSteps:=5000000) only [go_sem,reduceIte,reduceCtorEq,Nat.reduceEqDiff,Nat.reduceBEq,Nat.reduceAdd,Nat.reduceLeDiff,Nat.reduceMul,Nat.reduceLT,Int.reduceEq,Int.reduceLT,Int.reduceLE,hi,k6]
            refine (c_inLoop p cl' i _ hi).det ?_
            cases hc : inLoopR (p.getD i default).depth (upto p i)
            ·simp +contextual -dsimp -implicitDefEqProofs (maxSteps:=5000000) only [go_sem,reduceIte,reduceCtorEq,Nat.reduceEqDiff,Nat.reduceBEq,Nat.reduceAdd,Nat.reduceLeDiff,Nat.reduceMul,Nat.reduceLT,Int.reduceEq,Int.reduceLT,Int.reduceLE,hi,k6]
            ·simp +contextual -dsimp -implicitDefEqProofs (maxSteps:=5000000) only [go_sem,reduceIte,reduceCtorEq,Nat.reduceEqDiff,Nat.reduceBEq,Nat.reduceAdd,Nat.reduceLeDiff,Nat.reduceMul,Nat.reduceLT,Int.reduceEq,Int.reduceLT,Int.reduceLE,hi,k6]
             refine (c_follows _ _).det ?_
             rw [show followsK 6 = false from rfl]
             simp +contextual -dsimp -implicitDefEqProofs (maxSteps:=5000000) only [go_sem,reduceIte,reduceCtorEq,Nat.reduceEqDiff,Nat.reduceBEq,Nat.reduceAdd,Nat.reduceLeDiff,Nat.reduceMul,Nat.reduceLT,Int.reduceEq,Int.reduceLT,Int.reduceLE]
           ·have hs : stOk p i = (!followsK (p.getD i default).kind || headOkR (headR (p.getD i default).depth (upto p i))) := by
             unfold stOk; simp only [k7,k5,k6,decide_false,Bool.not_false,Bool.true_or,Bool.true_and,Bool.or_self]
            rw [hs]
            simp +contextual -dsimp -implicitDefEqProofs (maxSteps:=5000000) only [go_sem,reduceIte,reduceCtorEq,Nat.reduceEqDiff,Nat.reduceBEq,Nat.reduceAdd,Nat.reduceLeDiff,Nat.reduceMul,Nat.reduceLT,Int.reduceEq,Int.reduceLT,Int.reduceLE,hi,k5,k6,k7]
            refine (c_follows _ _).det ?_
            cases hf : followsK (p.getD i default).kind
            ·simp +contextual -dsimp -implicitDefEqProofs (maxSteps:=5000000) only [go_sem,reduceIte,reduceCtorEq,Nat.reduceEqDiff,Nat.reduceBEq,Nat.reduceAdd,Nat.reduceLeDiff,Nat.reduceMul,Nat.reduceLT,Int.reduceEq,Int.reduceLT,Int.reduceLE]
            ·simp +contextual -dsimp -implicitDefEqProofs (maxSteps:=5000000) only [go_sem,reduceIte,reduceCtorEq,Nat.reduceEqDiff,Nat.reduceBEq,Nat.reduceAdd,Nat.reduceLeDiff,Nat.reduceMul,Nat.reduceLT,Int.reduceEq,Int.reduceLT,Int.reduceLE,hi]
             refine (c_headOf p cl' i _ hi).mono ?_
             rintro _ _ ⟨v, rfl, rfl, hv⟩
             rcases hv with ⟨rfl, hv⟩ | ⟨k, rfl, hk, hv⟩
             ·rw [hv]
              have z : ¬ (0 : Int) ≤ -1 := by omega
              simp +contextual -dsimp -implicitDefEqProofs (maxSteps:=5000000) only [go_sem,reduceIte,reduceCtorEq,Nat.reduceEqDiff,Nat.reduceBEq,Nat.reduceAdd,Nat.reduceLeDiff,Nat.reduceMul,Nat.reduceLT,Int.reduceEq,Int.reduceLT,Int.reduceLE,z,headOkR]
             ·rw [hv]
              simp +contextual -dsimp -implicitDefEqProofs (maxSteps:=5000000) only [go_sem,reduceIte,reduceCtorEq,Nat.reduceEqDiff,Nat.reduceBEq,Nat.reduceAdd,Nat.reduceLeDiff,Nat.reduceMul,Nat.reduceLT,Int.reduceEq,Int.reduceLT,Int.reduceLE,hk,headOkR]
              by_cases q7 : (p.getD k default).kind = 7
              ·simp +contextual -dsimp -implicitDefEqProofs (maxSteps:=5000000) only [go_sem,reduceIte,reduceCtorEq,Nat.reduceEqDiff,Nat.reduceBEq,Nat.reduceAdd,Nat.reduceLeDiff,Nat.reduceMul,Nat.reduceLT,Int.reduceEq,Int.reduceLT,Int.reduceLE,q7]
              ·simp +contextual -dsimp -implicitDefEqProofs (maxSteps:=5000000) only [go_sem,reduceIte,reduceCtorEq,Nat.reduceEqDiff,Nat.reduceBEq,Nat.reduceAdd,Nat.reduceLeDiff,Nat.reduceMul,Nat.reduceLT,Int.reduceEq,Int.reduceLT,Int.reduceLE,q7,hk]
               refine (c_follows _ _).det ?_
               simp +contextual -dsimp -implicitDefEqProofs (maxSteps:=5000000) only [go_sem,reduceIte,reduceCtorEq,Nat.reduceEqDiff,Nat.reduceBEq,Nat.reduceAdd,Nat.reduceLeDiff,Nat.reduceMul,Nat.reduceLT,Int.reduceEq,Int.reduceLT,Int.reduceLE,q7]
               simp only [headOkR,q7,decide_false,Bool.false_or]
        ·rw [bad2 (ee true ho el)]
         simp +contextual -dsimp -implicitDefEqProofs (maxSteps:=5000000) only [go_sem,reduceIte,reduceCtorEq,Nat.reduceEqDiff,Nat.reduceBEq,Nat.reduceAdd,Nat.reduceLeDiff,Nat.reduceMul,Nat.reduceLT,Int.reduceEq,Int.reduceLT,Int.reduceLE,hi]
       ·have el' : ¬ ((i + 1 : Nat) : Int) = (p.length : Int) := by omega
        have hend := en el
        simp +contextual -dsimp -implicitDefEqProofs (maxSteps:=5000000) only [go_sem,reduceIte,reduceCtorEq,Nat.reduceEqDiff,Nat.reduceBEq,Nat.reduceAdd,Nat.reduceLeDiff,Nat.reduceMul,Nat.reduceLT,Int.reduceEq,Int.reduceLT,Int.reduceLE,hi,i0',i1,hwi,hi1,hwd,g,e,hw,el',hi2]
        rw [fin hrel hend]
        by_cases k7 : (p.getD i default).kind = 7
        ·have hs : stOk p i = tryOkF (kindsP p (tailQ p (p.getD i default).depth (endP p i))) := by
          unfold stOk; rw [k7]; simp only [show followsK 7 = false from rfl,decide_true,Bool.not_true,Bool.not_false,Bool.false_or,Bool.true_or,Bool.and_true,show ¬ (7 : Int) = 5 by decide,show ¬ (7 : Int) = 6 by decide,decide_false,Bool.or_self]
         rw [hs]
         simp +contextual -dsimp -implicitDefEqProofs (maxSteps:=5000000) only [go_sem,reduceIte,reduceCtorEq,Nat.reduceEqDiff,Nat.reduceBEq,Nat.reduceAdd,Nat.reduceLeDiff,Nat.reduceMul,Nat.reduceLT,Int.reduceEq,Int.reduceLT,Int.reduceLE,hi,k7]
         refine (c_validChain p cl' i _ hi hp).det ?_
         cases hc : tryOkF (kindsP p (tailQ p (p.getD i default).depth (endP p i)))
         ·simp +contextual -dsimp -implicitDefEqProofs (maxSteps:=5000000) only [go_sem,reduceIte,reduceCtorEq,Nat.reduceEqDiff,Nat.reduceBEq,Nat.reduceAdd,Nat.reduceLeDiff,Nat.reduceMul,Nat.reduceLT,Int.reduceEq,Int.reduceLT,Int.reduceLE,hi,k7]
         ·simp +contextual -dsimp -implicitDefEqProofs (maxSteps:=5000000) only [go_sem,reduceIte,reduceCtorEq,Nat.reduceEqDiff,Nat.reduceBEq,Nat.reduceAdd,Nat.reduceLeDiff,Nat.reduceMul,Nat.reduceLT,Int.reduceEq,Int.reduceLT,Int.reduceLE,hi,k7]
          refine (c_follows _ _).det ?_
          rw [show followsK 7 = false from rfl]
          simp +contextual -dsimp -implicitDefEqProofs (maxSteps:=5000000) only [go_sem,reduceIte,reduceCtorEq,Nat.reduceEqDiff,Nat.reduceBEq,Nat.reduceAdd,Nat.reduceLeDiff,Nat.reduceMul,Nat.reduceLT,Int.reduceEq,Int.reduceLT,Int.reduceLE]
        ·by_cases k5 : (p.getD i default).kind = 5
         ·have hs : stOk p i = inLoopR (p.getD i default).depth (upto p i) := by
           unfold stOk; rw [k5]; simp only [show followsK 5 = false from rfl,decide_true,Bool.not_true,Bool.not_false,Bool.false_or,Bool.true_or,Bool.or_true,Bool.and_true,Bool.true_and,show ¬ (5 : Int) = 7 by decide,show ¬ (5 : Int) = 6 by decide,decide_false]
          rw [hs]
          simp +contextual -dsimp -implicitDefEqProofs (maxSteps:=5000000) only [go_sem,reduceIte,reduceCtorEq,Nat.reduceEqDiff,Nat.reduceBEq,Nat.reduceAdd,Nat.reduceLeDiff,Nat.reduceMul,Nat.reduceLT,Int.reduceEq,Int.reduceLT,Int.reduceLE,hi,k5]
          refine (c_inLoop p cl' i _ hi).det ?_
          cases hc : inLoopR (p.getD i default).depth (upto p i)
          ·simp +contextual -dsimp -implicitDefEqProofs (maxSteps:=5000000) only [go_sem,reduceIte,reduceCtorEq,Nat.reduceEqDiff,Nat.reduceBEq,Nat.reduceAdd,Nat.reduceLeDiff,Nat.reduceMul,Nat.reduceLT,Int.reduceEq,Int.reduceLT,Int.reduceLE,hi,k5]
          ·simp +contextual -dsimp -implicitDefEqProofs (maxSteps:=5000000) only [go_sem,reduceIte,reduceCtorEq,Nat.reduceEqDiff,Nat.reduceBEq,Nat.reduceAdd,Nat.reduceLeDiff,Nat.reduceMul,Nat.reduceLT,Int.reduceEq,Int.reduceLT,Int.reduceLE,hi,k5]
           refine (c_follows _ _).det ?_
           rw [show followsK 5 = false from rfl]
           simp +contextual -dsimp -implicitDefEqProofs (maxSteps:=5000000) only [go_sem,reduceIte,reduceCtorEq,Nat.reduceEqDiff,Nat.reduceBEq,Nat.reduceAdd,Nat.reduceLeDiff,Nat.reduceMul,Nat.reduceLT,Int.reduceEq,Int.reduceLT,Int.reduceLE]
         ·by_cases k6 : (p.getD i default).kind = 6
          ·have hs : stOk p i = inLoopR (p.getD i default).depth (upto p i) := by
            unfold stOk; rw [k6]; simp only [show followsK 6 = false from rfl,decide_true,Bool.not_true,Bool.not_false,Bool.false_or,Bool.true_or,Bool.or_true,Bool.and_true,Bool.true_and,show ¬ (6 : Int) = 7 by decide,show ¬ (6 : Int) = 5 by decide,decide_false]
           rw [hs]
           simp +contextual -dsimp -implicitDefEqProofs (maxSteps:=5000000) only [go_sem,reduceIte,reduceCtorEq,Nat.reduceEqDiff,Nat.reduceBEq,Nat.reduceAdd,Nat.reduceLeDiff,Nat.reduceMul,Nat.reduceLT,Int.reduceEq,Int.reduceLT,Int.reduceLE,hi,k6]
           refine (c_inLoop p cl' i _ hi).det ?_
           cases hc : inLoopR (p.getD i default).depth (upto p i)
           ·simp +contextual -dsimp -implicitDefEqProofs (maxSteps:=5000000) only [go_sem,reduceIte,reduceCtorEq,Nat.reduceEqDiff,Nat.reduceBEq,Nat.reduceAdd,Nat.reduceLeDiff,Nat.reduceMul,Nat.reduceLT,Int.reduceEq,Int.reduceLT,Int.reduceLE,hi,k6]
           ·simp +contextual -dsimp -implicitDefEqProofs (maxSteps:=5000000) only [go_sem,reduceIte,reduceCtorEq,Nat.reduceEqDiff,Nat.reduceBEq,Nat.reduceAdd,Nat.reduceLeDiff,Nat.reduceMul,Nat.reduceLT,Int.reduceEq,Int.reduceLT,Int.reduceLE,hi,k6]
            refine (c_follows _ _).det ?_
            rw [show followsK 6 = false from rfl]
            simp +contextual -dsimp -implicitDefEqProofs (maxSteps:=5000000) only [go_sem,reduceIte,reduceCtorEq,Nat.reduceEqDiff,Nat.reduceBEq,Nat.reduceAdd,Nat.reduceLeDiff,Nat.reduceMul,Nat.reduceLT,Int.reduceEq,Int.reduceLT,Int.reduceLE]
          ·have hs : stOk p i = (!followsK (p.getD i default).kind || headOkR (headR (p.getD i default).depth (upto p i))) := by
            unfold stOk; simp only [k7,k5,k6,decide_false,Bool.not_false,Bool.true_or,Bool.true_and,Bool.or_self]
           rw [hs]
           simp +contextual -dsimp -implicitDefEqProofs (maxSteps:=5000000) only [go_sem,reduceIte,reduceCtorEq,Nat.reduceEqDiff,Nat.reduceBEq,Nat.reduceAdd,Nat.reduceLeDiff,Nat.reduceMul,Nat.reduceLT,Int.reduceEq,Int.reduceLT,Int.reduceLE,hi,k5,k6,k7]
           refine (c_follows _ _).det ?_
           cases hf : followsK (p.getD i default).kind
           ·simp +contextual -dsimp -implicitDefEqProofs (maxSteps:=5000000) only [go_sem,reduceIte,reduceCtorEq,Nat.reduceEqDiff,Nat.reduceBEq,Nat.reduceAdd,Nat.reduceLeDiff,Nat.reduceMul,Nat.reduceLT,Int.reduceEq,Int.reduceLT,Int.reduceLE]
           ·simp +contextual -dsimp -implicitDefEqProofs (maxSteps:=5000000) only [go_sem,reduceIte,reduceCtorEq,Nat.reduceEqDiff,Nat.reduceBEq,Nat.reduceAdd,Nat.reduceLeDiff,Nat.reduceMul,Nat.reduceLT,Int.reduceEq,Int.reduceLT,Int.reduceLE,hi]
            refine (c_headOf p cl' i _ hi).mono ?_
            rintro _ _ ⟨v, rfl, rfl, hv⟩
            rcases hv with ⟨rfl, hv⟩ | ⟨k, rfl, hk, hv⟩
            ·rw [hv]
             have z : ¬ (0 : Int) ≤ -1 := by omega
             simp +contextual -dsimp -implicitDefEqProofs (maxSteps:=5000000) only [go_sem,reduceIte,reduceCtorEq,Nat.reduceEqDiff,Nat.reduceBEq,Nat.reduceAdd,Nat.reduceLeDiff,Nat.reduceMul,Nat.reduceLT,Int.reduceEq,Int.reduceLT,Int.reduceLE,z,headOkR]
            ·rw [hv]
             simp +contextual -dsimp -implicitDefEqProofs (maxSteps:=5000000) only [go_sem,reduceIte,reduceCtorEq,Nat.reduceEqDiff,Nat.reduceBEq,Nat.reduceAdd,Nat.reduceLeDiff,Nat.reduceMul,Nat.reduceLT,Int.reduceEq,Int.reduceLT,Int.reduceLE,hk,headOkR]
             by_cases q7 : (p.getD k default).kind = 7
             ·simp +contextual -dsimp -implicitDefEqProofs (maxSteps:=5000000) only [go_sem,reduceIte,reduceCtorEq,Nat.reduceEqDiff,Nat.reduceBEq,Nat.reduceAdd,Nat.reduceLeDiff,Nat.reduceMul,Nat.reduceLT,Int.reduceEq,Int.reduceLT,Int.reduceLE,q7]
             ·simp +contextual -dsimp -implicitDefEqProofs (maxSteps:=5000000) only [go_sem,reduceIte,reduceCtorEq,Nat.reduceEqDiff,Nat.reduceBEq,Nat.reduceAdd,Nat.reduceLeDiff,Nat.reduceMul,Nat.reduceLT,Int.reduceEq,Int.reduceLT,Int.reduceLE,q7,hk]
              refine (c_follows _ _).det ?_
              simp +contextual -dsimp -implicitDefEqProofs (maxSteps:=5000000) only [go_sem,reduceIte,reduceCtorEq,Nat.reduceEqDiff,Nat.reduceBEq,Nat.reduceAdd,Nat.reduceLeDiff,Nat.reduceMul,Nat.reduceLT,Int.reduceEq,Int.reduceLT,Int.reduceLE,q7]
              simp only [headOkR,q7,decide_false,Bool.false_or]
      ·have hb : relOk p i = false := by
        rw [er]; unfold stepOk; rw [ho, if_pos rfl]; exact decide_eq_false e
       simp +contextual -dsimp -implicitDefEqProofs (maxSteps:=5000000) only [go_sem,reduceIte,reduceCtorEq,Nat.reduceEqDiff,Nat.reduceBEq,Nat.reduceAdd,Nat.reduceLeDiff,Nat.reduceMul,Nat.reduceLT,Int.reduceEq,Int.reduceLT,Int.reduceLE,hi,i0',i1,hwi,hi1,hwd,g,e,bad1 hb]
theorem lastI_eq {t : List Class} {p : List Line} : (∀ i, i < p.length → lineOk t p i = true) ↔ ((depT t p = true ∧ (p ≠ [] → (p.getD 0 default).depth = 0)) ∧ ∀ i, i < p.length → stOk p i = true) := by
 rw [depT_iff]
 simp only [lineOk,Bool.and_eq_true]
 constructor
 ·intro h
  refine ⟨⟨⟨fun i hi => (h i hi).1, fun i hi => ?_, fun hne => ?_⟩, fun hne => ?_⟩, fun i hi => (h i hi).2.2⟩
  ·have := (h (i + 1) hi).2.1.1
   unfold relOk at this
   rw [if_neg (by omega), Nat.add_sub_cancel] at this
   exact this
  ·have hl := List.length_pos_iff.2 hne
   have := (h (p.length - 1) (by omega)).2.1.2
   unfold endOk at this
   rw [decide_eq_true (show p.length - 1 + 1 = p.length by omega), Bool.true_and, Bool.not_eq_true'] at this
   exact this
  ·have hl := List.length_pos_iff.2 hne
   have := (h 0 hl).2.1.1
   unfold relOk at this
   rw [if_pos rfl] at this
   simpa using this
 ·rintro ⟨⟨⟨h1, h2, h3⟩, h4⟩, h5⟩ i hi
  have hne : p ≠ [] := fun q => by rw [q] at hi; cases hi
  refine ⟨h1 i hi, ⟨?_, ?_⟩, h5 i hi⟩
  ·unfold relOk
   split
   ·rename_i i0; subst i0; simpa using h4 hne
   ·have := h2 (i - 1) (by omega)
    rw [show i - 1 + 1 = i by omega] at this
    exact this
  ·unfold endOk
   by_cases e : i + 1 = p.length
   ·have := h3 hne
    rw [show p.length - 1 = i by omega] at this
    rw [this]; simp
   ·rw [decide_eq_false e]; rfl
theorem validP_lines (t : List Class) (p : List Line) : ValidP t p ↔ ((∀ i, i < p.length → lineOk t p i = true) ∧ validT t = true ∧ p.length ≤ 24) := by
 rw [lastI_eq]
 constructor
 ·rintro ⟨h1, h2, f, rfl, h3, h4⟩
  refine ⟨⟨⟨?_, fun hne => ?_⟩, ?_⟩, h1, h2⟩
  ·have := depT_flat (t := t) f 0 [] h3 (low_nil _) rfl
   simpa using this
  ·cases f with
   | nil => exact absurd rfl hne
   | node k a b x y => rfl
  ·have hat := at_top (f := f) rfl
   have := (st_ok f 0 0 false false hat h3 (by simp [upto, inLoopR]) (by simp [upto, headR, headOkR])).2 h4
   exact fun i hi => this i (by omega) (by rw [Nat.zero_add, ← flat_len f 0]; exact hi)
 ·rintro ⟨⟨⟨h1, h2⟩, h3⟩, h4, h5⟩
  obtain ⟨f, hf, hn⟩ := forest_top h1 h2
  refine ⟨h4, h5, f, hf, hn, ?_⟩
  have hat := at_top hf
  exact (st_ok f 0 0 false false hat hn (by simp [upto, inLoopR]) (by simp [upto, headR, headOkR])).1 fun i _ hi => h3 i (by rw [hf, flat_len]; omega)
theorem validP_blocks {t : List Class} {p : List Line} {f : Fo} (h1 : validT t = true) (h2 : p.length ≤ 24) (hf : p = f.flat 0) (hn : numsF t f 0 = true) : ValidP t p ↔ okF f false false = true := by
 constructor
 ·rintro ⟨_, _, g, hg, _, h⟩
  have : f = g := flat_one (d := 0) (by rw [← hf, ← hg])
  rw [this]; exact h
 ·exact fun h => ⟨h1, h2, f, hf, hn, h⟩
noncomputable def validB (t : List Class) (p : List Line) : Bool := @decide (ValidP t p) (Classical.propDecidable _)
theorem validB_true {t : List Class} {p : List Line} : validB t p = true ↔ ValidP t p := by unfold validB; exact @decide_eq_true_iff _ (Classical.propDecidable _)
theorem validB_false {t : List Class} {p : List Line} : validB t p = false ↔ ¬ ValidP t p := by unfold validB; exact @decide_eq_false_iff_not _ (Classical.propDecidable _)
theorem validB_is {t : List Class} {p : List Line} {b : Bool} (h : ValidP t p ↔ b = true) : validB t p = b := by
 cases b
 ·exact validB_false.2 (fun q => by cases h.1 q)
 ·exact validB_true.2 (h.2 rfl)
theorem c_svalidProgram (t : List Class) (cl : Bool) (p : List Line) (cl' : Bool) (H : AHeap) (hn : namesOk t) (hp : p.length ≤ 4398046511104) :
  ACalls Tryz.prog 51 [aTree t cl, aProg p cl'] H fun r H' => r = B (validB t p) ∧ H' = H := by
 refine acalls_of0 Tryz.func51 rfl (by kernel_rfl) rfl rfl (awp_sound (fz := fun _ => []) (im := fun s => s == 2) mixed _ _ _ _ (by kernel_rfl) ?_)
 simp +contextual -dsimp -implicitDefEqProofs (maxSteps:=5000000) only [go_sem,reduceIte,reduceCtorEq,Nat.reduceEqDiff,Nat.reduceBEq,Nat.reduceAdd,Nat.reduceLeDiff,Nat.reduceMul,Nat.reduceLT,Int.reduceEq,Int.reduceLT,Int.reduceLE]
 refine aloop mixed (fz := fun _ => []) (im := fun s => s == 2) (by kernel_rfl) (fun m tm H' => ∃ k : Nat, m = p.length - k ∧ k ≤ p.length ∧ H' = H ∧ tm 1 = aProg p cl' ∧ tm 2 = .vptr [[.vsl (t.map rClass) cl]] 0 0 ∧ tm 5 = I k ∧ ∀ i, i < k → lineOk t p i = true) p.length ⟨0, by omega, by omega, rfl, ?_⟩ ?_
 ·simp +contextual -dsimp -implicitDefEqProofs (maxSteps:=5000000) only [go_sem,reduceIte,reduceCtorEq,Nat.reduceEqDiff,Nat.reduceBEq,Nat.reduceAdd,Nat.reduceLeDiff,Nat.reduceMul,Nat.reduceLT,Int.reduceEq,Int.reduceLT,Int.reduceLE]
  exact fun i hi => by omega
 ·rintro m tm H ⟨k, rfl, hk, rfl, t1, t2, t5, hok⟩
  by_cases hlt : k < p.length
  ·simp +contextual -dsimp -implicitDefEqProofs (maxSteps:=5000000) only [go_sem,reduceIte,reduceCtorEq,Nat.reduceEqDiff,Nat.reduceBEq,Nat.reduceAdd,Nat.reduceLeDiff,Nat.reduceMul,Nat.reduceLT,Int.reduceEq,Int.reduceLT,Int.reduceLE,t1,t2,t5,hlt]
   refine (c_validLine t cl p cl' k _ hlt hp (fun k0 => ?_)).det ?_
   ·have := hok (k - 1) (by omega)
    simp only [lineOk,Bool.and_eq_true] at this
    exact (oneOk_num this.1).2
   ·cases hl : lineOk t p k
    ·simp +contextual -dsimp -implicitDefEqProofs (maxSteps:=5000000) only [go_sem,reduceIte,reduceCtorEq,Nat.reduceEqDiff,Nat.reduceBEq,Nat.reduceAdd,Nat.reduceLeDiff,Nat.reduceMul,Nat.reduceLT,Int.reduceEq,Int.reduceLT,Int.reduceLE]
     rw [validB_false.2 (fun q => by rw [((validP_lines t p).1 q).1 k hlt] at hl; cases hl)]
    ·simp +contextual -dsimp -implicitDefEqProofs (maxSteps:=5000000) only [go_sem,reduceIte,reduceCtorEq,Nat.reduceEqDiff,Nat.reduceBEq,Nat.reduceAdd,Nat.reduceLeDiff,Nat.reduceMul,Nat.reduceLT,Int.reduceEq,Int.reduceLT,Int.reduceLE,t1,t2,t5]
     exact ⟨_, by omega, k + 1, rfl, hlt, I_wrap (by omega) (by omega) (by omega), fun i hi => by
      rcases Nat.lt_or_ge i k with q | q
      ·exact hok i q
      ·rw [show i = k by omega]; exact hl⟩
  ·have hke : k = p.length := by omega
   subst hke
   simp +contextual -dsimp -implicitDefEqProofs (maxSteps:=5000000) only [go_sem,reduceIte,reduceCtorEq,Nat.reduceEqDiff,Nat.reduceBEq,Nat.reduceAdd,Nat.reduceLeDiff,Nat.reduceMul,Nat.reduceLT,Int.reduceEq,Int.reduceLT,Int.reduceLE,t1,t2,t5,hlt]
   refine (c_validTree t cl _ hn).det ?_
   cases e1 : validT t
   ·simp +contextual -dsimp -implicitDefEqProofs (maxSteps:=5000000) only [go_sem,reduceIte,reduceCtorEq,Nat.reduceEqDiff,Nat.reduceBEq,Nat.reduceAdd,Nat.reduceLeDiff,Nat.reduceMul,Nat.reduceLT,Int.reduceEq,Int.reduceLT,Int.reduceLE]
    rw [validB_false.2 (fun q => by rw [q.1] at e1; cases e1)]
   ·simp +contextual -dsimp -implicitDefEqProofs (maxSteps:=5000000) only [go_sem,reduceIte,reduceCtorEq,Nat.reduceEqDiff,Nat.reduceBEq,Nat.reduceAdd,Nat.reduceLeDiff,Nat.reduceMul,Nat.reduceLT,Int.reduceEq,Int.reduceLT,Int.reduceLE,t1]
    have : validB t p = decide ((p.length : Int) ≤ 24) := validB_is (by
     rw [validP_lines, e1, decide_eq_true_iff]
     exact ⟨fun q => by have := q.2.2; omega, fun q => ⟨hok, rfl, by omega⟩⟩)
    rw [this]
end
section
open Go Go.Sim
set_option maxRecDepth 100000
set_option maxHeartbeats 4000000

def lastL (p : List Line) (k : Nat) : Line := if k = 0 then ⟨-1, 7, 0, 0⟩ else p.getD (k - 1) default
theorem lastL_rel (p : List Line) (k : Nat) : relOk p k = stepOk (lastL p k) (p.getD k default) := by
 unfold relOk lastL
 split
 ·rfl
 ·rfl
theorem lastL_succ (p : List Line) (k : Nat) : lastL p (k + 1) = p.getD k default := by unfold lastL; rw [if_neg (by omega), Nat.add_sub_cancel]
theorem c_ValidProgram (t : List Class) (cl : Bool) (p : List Line) (cl' : Bool) (H : AHeap) (hn : namesOk t) (hp : p.length ≤ 4398046511104) :
  ACalls Tryz.prog 13 [aTree t cl, aProg p cl'] H fun r H' => r = B (validB t p) ∧ H' = H := by
 refine acalls_of1 Tryz.func13 rfl (by kernel_rfl) rfl rfl (awp_sound (fz := fun r => if r = 6 then [7] else []) (im := fun s => s == 2) mixed _ _ _ _ (by kernel_rfl) ?_)
 simp +contextual -dsimp -implicitDefEqProofs (maxSteps:=5000000) only [go_sem,reduceIte,reduceCtorEq,Nat.reduceEqDiff,Nat.reduceBEq,Nat.reduceAdd,Nat.reduceLeDiff,Nat.reduceMul,Nat.reduceLT,Int.reduceEq,Int.reduceLT,Int.reduceLE]
 refine (c_ValidTree t cl _ hn).det ?_
 cases e1 : validT t
 ·rw [validB_false.2 (fun q => by rw [q.1] at e1; cases e1)]
  simp +contextual -dsimp -implicitDefEqProofs (maxSteps:=5000000) only [go_sem,reduceIte,reduceCtorEq,Nat.reduceEqDiff,Nat.reduceBEq,Nat.reduceAdd,Nat.reduceLeDiff,Nat.reduceMul,Nat.reduceLT,Int.reduceEq,Int.reduceLT,Int.reduceLE]
  refine retR_less (l := [B false]) (H' := H) ?_ (AHeap.le_refl _) ⟨rfl, rfl⟩
  simp only [resA,go_sem,reduceIte,reduceCtorEq,Nat.reduceEqDiff,Nat.reduceBEq,Nat.reduceAdd,Nat.reduceLeDiff,Nat.reduceMul,Nat.reduceLT,Int.reduceEq,Int.reduceLT,Int.reduceLE]
 ·by_cases h24 : (24 : Int) < p.length
  ·rw [validB_false.2 (fun q => by have := q.2.1; omega)]
   simp +contextual -dsimp -implicitDefEqProofs (maxSteps:=5000000) only [go_sem,reduceIte,reduceCtorEq,Nat.reduceEqDiff,Nat.reduceBEq,Nat.reduceAdd,Nat.reduceLeDiff,Nat.reduceMul,Nat.reduceLT,Int.reduceEq,Int.reduceLT,Int.reduceLE,h24]
   refine retR_less (l := [B false]) (H' := H) ?_ (AHeap.le_refl _) ⟨rfl, rfl⟩
   simp only [resA,go_sem,reduceIte,reduceCtorEq,Nat.reduceEqDiff,Nat.reduceBEq,Nat.reduceAdd,Nat.reduceLeDiff,Nat.reduceMul,Nat.reduceLT,Int.reduceEq,Int.reduceLT,Int.reduceLE]
  ·simp +contextual -dsimp -implicitDefEqProofs (maxSteps:=5000000) only [go_sem,reduceIte,reduceCtorEq,Nat.reduceEqDiff,Nat.reduceBEq,Nat.reduceAdd,Nat.reduceLeDiff,Nat.reduceMul,Nat.reduceLT,Int.reduceEq,Int.reduceLT,Int.reduceLE,h24]
   intro b5 hb5
   refine aloop mixed (fz := fun r => if r = 6 then [7] else []) (im := fun s => s == 2) (by kernel_rfl) (fun m tm H' => ∃ k : Nat, m = p.length - k ∧ k ≤ p.length ∧ H' = H.set b5 ⟨4, 41, [rLine (lastL p k)]⟩ ∧ tm 1 = aProg p cl' ∧ tm 2 = .vptr [[.vsl (t.map rClass) cl]] 0 0 ∧ tm 5 = .ptr b5 4 0 0 ∧ tm 17 = aProg p cl' ∧ tm 18 = I p.length ∧ tm 19 = I k ∧ ∀ i, i < k → (oneOk t (p.getD i default) && relOk p i) = true) p.length ⟨0, by omega, by omega, rfl, ?_⟩ ?_
   ·simp +contextual -dsimp -implicitDefEqProofs (maxSteps:=5000000) only [go_sem,reduceIte,reduceCtorEq,Nat.reduceEqDiff,Nat.reduceBEq,Nat.reduceAdd,Nat.reduceLeDiff,Nat.reduceMul,Nat.reduceLT,Int.reduceEq,Int.reduceLT,Int.reduceLE]
    exact fun i hi => by omega
   ·rintro m tm H' ⟨k, rfl, hk, rfl, t1, t2, t5, t17, t18, t19, hok⟩
    by_cases hlt : k < p.length
    ·have hld : -1 ≤ (lastL p k).depth ∧ (lastL p k).depth ≤ 5 := by
      unfold lastL
      split
      ·exact ⟨by show (-1 : Int) ≤ -1; omega, by show (-1 : Int) ≤ 5; omega⟩
      ·have := hok (k - 1) (by omega)
       rw [Bool.and_eq_true] at this
       have := inR5 (oneOk_num this.1).2
       omega
     have hw : IntKind.i64.wrap ((lastL p k).depth + 1) = (lastL p k).depth + 1 := w64 (by omega) (by omega)
     have bad : (oneOk t (p.getD k default) && relOk p k) = false → B false = B (validB t p) := fun q => by
      rw [validB_false.2 (fun v => ?_)]
      have := ((validP_lines t p).1 v).1 k hlt
      simp only [lineOk,Bool.and_eq_true] at this
      rw [this.1, this.2.1.1] at q
      cases q
     have hrl := lastL_rel p k
     unfold oneOk at bad
     have nxt : numOk t (p.getD k default).kind (p.getD k default).a (p.getD k default).b = true → inR (p.getD k default).depth 0 5 = true → relOk p k = true → ∀ i, i < k + 1 → oneOk t (p.getD i default) = true ∧ relOk p i = true := fun q1 q2 q3 i hi => by
      rcases Nat.lt_or_ge i k with z | z
      ·have := hok i z; rw [Bool.and_eq_true] at this; exact this
      ·rw [show i = k by omega]; exact ⟨by unfold oneOk; rw [q1, q2]; rfl, q3⟩
     simp +contextual -dsimp -implicitDefEqProofs (maxSteps:=5000000) only [go_sem,reduceIte,reduceCtorEq,Nat.reduceEqDiff,Nat.reduceBEq,Nat.reduceAdd,Nat.reduceLeDiff,Nat.reduceMul,Nat.reduceLT,Int.reduceEq,Int.reduceLT,Int.reduceLE,t1,t2,t5,t17,t18,t19,hlt]
     intro b7 hb7
     refine (c_argued t cl (p.getD k default) _).det ?_
     cases h1 : numOk t (p.getD k default).kind (p.getD k default).a (p.getD k default).b
     ·have hb := bad (by rw [h1]; rfl)
      simp +contextual -dsimp -implicitDefEqProofs (maxSteps:=5000000) only [go_sem,reduceIte,reduceCtorEq,Nat.reduceEqDiff,Nat.reduceBEq,Nat.reduceAdd,Nat.reduceLeDiff,Nat.reduceMul,Nat.reduceLT,Int.reduceEq,Int.reduceLT,Int.reduceLE,t1,t2,t5,t17,t18,t19,hb7]
      rw [hb]
      refine retR_less (l := [B (validB t p)]) (H' := H) ?_ (le_set hb5) ⟨rfl, rfl⟩
      simp only [resA,go_sem,reduceIte,reduceCtorEq,Nat.reduceEqDiff,Nat.reduceBEq,Nat.reduceAdd,Nat.reduceLeDiff,Nat.reduceMul,Nat.reduceLT,Int.reduceEq,Int.reduceLT,Int.reduceLE]
     ·simp +contextual -dsimp -implicitDefEqProofs (maxSteps:=5000000) only [go_sem,reduceIte,reduceCtorEq,Nat.reduceEqDiff,Nat.reduceBEq,Nat.reduceAdd,Nat.reduceLeDiff,Nat.reduceMul,Nat.reduceLT,Int.reduceEq,Int.reduceLT,Int.reduceLE,t1,t2,t5,t17,t18,t19,hb7]
      refine (c_within _ _ _ _).det ?_
      cases h2 : inR (p.getD k default).depth 0 5
      ·have hb := bad (by rw [h1, h2]; rfl)
       simp +contextual -dsimp -implicitDefEqProofs (maxSteps:=5000000) only [go_sem,reduceIte,reduceCtorEq,Nat.reduceEqDiff,Nat.reduceBEq,Nat.reduceAdd,Nat.reduceLeDiff,Nat.reduceMul,Nat.reduceLT,Int.reduceEq,Int.reduceLT,Int.reduceLE,t1,t2,t5,t17,t18,t19,hb7]
       rw [hb]
       refine retR_less (l := [B (validB t p)]) (H' := H) ?_ (le_set hb5) ⟨rfl, rfl⟩
       simp only [resA,go_sem,reduceIte,reduceCtorEq,Nat.reduceEqDiff,Nat.reduceBEq,Nat.reduceAdd,Nat.reduceLeDiff,Nat.reduceMul,Nat.reduceLT,Int.reduceEq,Int.reduceLT,Int.reduceLE]
      ·simp +contextual -dsimp -implicitDefEqProofs (maxSteps:=5000000) only [go_sem,reduceIte,reduceCtorEq,Nat.reduceEqDiff,Nat.reduceBEq,Nat.reduceAdd,Nat.reduceLeDiff,Nat.reduceMul,Nat.reduceLT,Int.reduceEq,Int.reduceLT,Int.reduceLE,t1,t2,t5,t17,t18,t19,hb7]
       refine (c_lineOpens (lastL p k) _).det ?_
       cases ho : opensK (lastL p k).kind
       ·simp +contextual -dsimp -implicitDefEqProofs (maxSteps:=5000000) only [go_sem,reduceIte,reduceCtorEq,Nat.reduceEqDiff,Nat.reduceBEq,Nat.reduceAdd,Nat.reduceLeDiff,Nat.reduceMul,Nat.reduceLT,Int.reduceEq,Int.reduceLT,Int.reduceLE,t1,t2,t5,t17,t18,t19,hb7]
        refine (c_lineOpens (lastL p k) _).det ?_
        rw [ho]
        by_cases e : (lastL p k).depth < (p.getD k default).depth
        ·have hb := bad (by rw [h1, h2, hrl]; unfold stepOk; rw [ho, if_neg (by decide), decide_eq_false (by omega)]; rfl)
         simp +contextual -dsimp -implicitDefEqProofs (maxSteps:=5000000) only [go_sem,reduceIte,reduceCtorEq,Nat.reduceEqDiff,Nat.reduceBEq,Nat.reduceAdd,Nat.reduceLeDiff,Nat.reduceMul,Nat.reduceLT,Int.reduceEq,Int.reduceLT,Int.reduceLE,t1,t2,t5,t17,t18,t19,hb7,e]
         rw [hb]
         refine retR_less (l := [B (validB t p)]) (H' := H) ?_ (le_set hb5) ⟨rfl, rfl⟩
         simp only [resA,go_sem,reduceIte,reduceCtorEq,Nat.reduceEqDiff,Nat.reduceBEq,Nat.reduceAdd,Nat.reduceLeDiff,Nat.reduceMul,Nat.reduceLT,Int.reduceEq,Int.reduceLT,Int.reduceLE]
        ·simp +contextual -dsimp -implicitDefEqProofs (maxSteps:=5000000) only [go_sem,reduceIte,reduceCtorEq,Nat.reduceEqDiff,Nat.reduceBEq,Nat.reduceAdd,Nat.reduceLeDiff,Nat.reduceMul,Nat.reduceLT,Int.reduceEq,Int.reduceLT,Int.reduceLE,t1,t2,t5,t17,t18,t19,hb7,e]
         refine ⟨_, by omega, k + 1, rfl, hlt, by rw [lastL_succ], I_wrap (by omega) (by omega) (by omega), ?_⟩
         exact nxt h1 h2 (by rw [hrl]; unfold stepOk; rw [ho, if_neg (by decide)]; exact decide_eq_true (by omega))
       ·by_cases e : (p.getD k default).depth = (lastL p k).depth + 1
        ·simp +contextual -dsimp -implicitDefEqProofs (maxSteps:=5000000) only [go_sem,reduceIte,reduceCtorEq,Nat.reduceEqDiff,Nat.reduceBEq,Nat.reduceAdd,Nat.reduceLeDiff,Nat.reduceMul,Nat.reduceLT,Int.reduceEq,Int.reduceLT,Int.reduceLE,t1,t2,t5,t17,t18,t19,hb7,hw,e]
         refine (c_lineOpens (lastL p k) _).det ?_
         rw [ho]
         simp +contextual -dsimp -implicitDefEqProofs (maxSteps:=5000000) only [go_sem,reduceIte,reduceCtorEq,Nat.reduceEqDiff,Nat.reduceBEq,Nat.reduceAdd,Nat.reduceLeDiff,Nat.reduceMul,Nat.reduceLT,Int.reduceEq,Int.reduceLT,Int.reduceLE,t1,t2,t5,t17,t18,t19,hb7]
         refine ⟨_, by omega, k + 1, rfl, hlt, by rw [lastL_succ], I_wrap (by omega) (by omega) (by omega), ?_⟩
         exact nxt h1 h2 (by rw [hrl]; unfold stepOk; rw [ho, if_pos rfl]; exact decide_eq_true e)
        ·have hb := bad (by rw [h1, h2, hrl]; unfold stepOk; rw [ho, if_pos rfl, decide_eq_false e]; rfl)
         simp +contextual -dsimp -implicitDefEqProofs (maxSteps:=5000000) only [go_sem,reduceIte,reduceCtorEq,Nat.reduceEqDiff,Nat.reduceBEq,Nat.reduceAdd,Nat.reduceLeDiff,Nat.reduceMul,Nat.reduceLT,Int.reduceEq,Int.reduceLT,Int.reduceLE,t1,t2,t5,t17,t18,t19,hb7,hw,e]
         rw [hb]
         refine retR_less (l := [B (validB t p)]) (H' := H) ?_ (le_set hb5) ⟨rfl, rfl⟩
         simp only [resA,go_sem,reduceIte,reduceCtorEq,Nat.reduceEqDiff,Nat.reduceBEq,Nat.reduceAdd,Nat.reduceLeDiff,Nat.reduceMul,Nat.reduceLT,Int.reduceEq,Int.reduceLT,Int.reduceLE]
    ·have hke : k = p.length := by omega
     subst hke
     have hok1 : ∀ i, i < p.length → oneOk t (p.getD i default) = true := fun i hi => by have := hok i hi; rw [Bool.and_eq_true] at this; exact this.1
     have hok2 : ∀ i, i < p.length → relOk p i = true := fun i hi => by have := hok i hi; rw [Bool.and_eq_true] at this; exact this.2
     have h24' : p.length ≤ 24 := by omega
     by_cases hp0 : p.length = 0
     ·have hpn : p = [] := List.eq_nil_of_length_eq_zero hp0
      have hat := at_top (f := .nil) (p := p) hpn
      have hblk := c_blockOk p cl' hp 1 .nil 0 0 false (H.set b5 ⟨4, 41, [rLine (lastL p 0)]⟩) (by simp [Fo.size]) hat
      have e0 : ((0 + Fo.nil.size : Nat) : Int) = 0 := rfl
      have e1' : ((0 : Nat) : Int) = 0 := rfl
      rw [e0, e1'] at hblk
      have hv : validB t p = true := validB_true.2 ⟨e1, h24', .nil, hpn, rfl, rfl⟩
      have hp0' : (p.length : Int) = 0 := by omega
      rw [hv]
      simp +contextual -dsimp -implicitDefEqProofs (maxSteps:=5000000) only [go_sem,reduceIte,reduceCtorEq,Nat.reduceEqDiff,Nat.reduceBEq,Nat.reduceAdd,Nat.reduceLeDiff,Nat.reduceMul,Nat.reduceLT,Int.reduceEq,Int.reduceLT,Int.reduceLE,t1,t2,t5,t17,t18,t19,hlt,hp0,hp0']
      refine hblk.det ?_
      simp +contextual -dsimp -implicitDefEqProofs (maxSteps:=5000000) only [go_sem,reduceIte,reduceCtorEq,Nat.reduceEqDiff,Nat.reduceBEq,Nat.reduceAdd,Nat.reduceLeDiff,Nat.reduceMul,Nat.reduceLT,Int.reduceEq,Int.reduceLT,Int.reduceLE,okF]
      refine retR_less (l := [B true]) (H' := H) ?_ (le_set hb5) ⟨rfl, rfl⟩
      simp only [resA,go_sem,reduceIte,reduceCtorEq,Nat.reduceEqDiff,Nat.reduceBEq,Nat.reduceAdd,Nat.reduceLeDiff,Nat.reduceMul,Nat.reduceLT,Int.reduceEq,Int.reduceLT,Int.reduceLE]
     ·have hp0' : ¬ (p.length : Int) = 0 := by omega
      have hlast : lastL p p.length = p.getD (p.length - 1) default := by unfold lastL; rw [if_neg hp0]
      simp +contextual -dsimp -implicitDefEqProofs (maxSteps:=5000000) only [go_sem,reduceIte,reduceCtorEq,Nat.reduceEqDiff,Nat.reduceBEq,Nat.reduceAdd,Nat.reduceLeDiff,Nat.reduceMul,Nat.reduceLT,Int.reduceEq,Int.reduceLT,Int.reduceLE,t1,t2,t5,t17,t18,t19,hlt,hp0,hp0']
      refine (c_lineOpens (lastL p p.length) _).det ?_
      cases ho : opensK (lastL p p.length).kind
      ·have hd : depT t p = true := (depT_iff t p).2 ⟨hok1, fun i hi => by
        have := hok2 (i + 1) hi
        unfold relOk at this
        rw [if_neg (by omega), Nat.add_sub_cancel] at this
        exact this, fun _ => by rw [← hlast]; exact ho⟩
       obtain ⟨f, hf, hnf⟩ := forest_top hd (fun hne => by
        have := hok2 0 (by omega)
        unfold relOk at this
        rw [if_pos rfl] at this
        simpa using this)
       have hat := at_top hf
       have hfs : f.size = p.length := by rw [hf, flat_len]
       have hblk := c_blockOk p cl' hp (f.size + 1) f 0 0 false (H.set b5 ⟨4, 41, [rLine (lastL p p.length)]⟩) (by omega) hat
       have e0 : ((0 + f.size : Nat) : Int) = p.length := by omega
       have e1' : ((0 : Nat) : Int) = 0 := rfl
       rw [e0, e1'] at hblk
       have hv : validB t p = okF f false false := validB_is (validP_blocks e1 h24' hf hnf)
       rw [hv]
       simp +contextual -dsimp -implicitDefEqProofs (maxSteps:=5000000) only [go_sem,reduceIte,reduceCtorEq,Nat.reduceEqDiff,Nat.reduceBEq,Nat.reduceAdd,Nat.reduceLeDiff,Nat.reduceMul,Nat.reduceLT,Int.reduceEq,Int.reduceLT,Int.reduceLE,t1,t2,t5,t17,t18,t19,hp0']
       refine hblk.det ?_
       simp +contextual -dsimp -implicitDefEqProofs (maxSteps:=5000000) only [go_sem,reduceIte,reduceCtorEq,Nat.reduceEqDiff,Nat.reduceBEq,Nat.reduceAdd,Nat.reduceLeDiff,Nat.reduceMul,Nat.reduceLT,Int.reduceEq,Int.reduceLT,Int.reduceLE]
       refine retR_less (l := [B (okF f false false)]) (H' := H) ?_ (le_set hb5) ⟨rfl, rfl⟩
       simp only [resA,go_sem,reduceIte,reduceCtorEq,Nat.reduceEqDiff,Nat.reduceBEq,Nat.reduceAdd,Nat.reduceLeDiff,Nat.reduceMul,Nat.reduceLT,Int.reduceEq,Int.reduceLT,Int.reduceLE]
      ·have hv : validB t p = false := validB_false.2 fun v => by
        have := (lastI_eq (t := t) (p := p)).1 ((validP_lines t p).1 v).1
        have := ((depT_iff t p).1 this.1.1).2.2 (fun q => hp0 (by rw [q]; rfl))
        rw [← hlast, ho] at this
        cases this
       rw [hv]
       simp +contextual -dsimp -implicitDefEqProofs (maxSteps:=5000000) only [go_sem,reduceIte,reduceCtorEq,Nat.reduceEqDiff,Nat.reduceBEq,Nat.reduceAdd,Nat.reduceLeDiff,Nat.reduceMul,Nat.reduceLT,Int.reduceEq,Int.reduceLT,Int.reduceLE,t1,t2,t5,t17,t18,t19,hp0']
       refine retR_less (l := [B false]) (H' := H) ?_ (le_set hb5) ⟨rfl, rfl⟩
       simp only [resA,go_sem,reduceIte,reduceCtorEq,Nat.reduceEqDiff,Nat.reduceBEq,Nat.reduceAdd,Nat.reduceLeDiff,Nat.reduceMul,Nat.reduceLT,Int.reduceEq,Int.reduceLT,Int.reduceLE]
end
section
open Go Go.Sim
set_option maxRecDepth 100000
set_option maxHeartbeats 4000000

def rEn (e : En) : List AV := [I e.ed, I e.val]
abbrev MachS (F H : AHeap) (bm : Nat) (t : List Class) (cl : Bool) (P : List Line) (clp : Bool) (s : RS) : Prop := Mach F H bm (.vsl (t.map rClass) cl) (aProg P clp) s.log s.fs s.first
def LinesOk (t : List Class) (cl : Bool) (P : List Line) (clp : Bool) (n : Nat) : Prop :=
 ∀ (f : Fo) (i : Nat) (d h : Int) (s : RS) (F H : AHeap) (bm : Nat), f.size < n → At P i d f → numsF t f d = true → FsOk t s.fs → h < s.fs.length → s.log.length + cost f ≤ 900000 → s.fs.length + cost f ≤ 900000 → MachS F H bm t cl P clp s →
  ACalls Tryz.prog 49 [.ptr bm 5 0 0, I i, I (i + f.size : Nat), I h] H fun r H' => r = .agg (rEn (runF t f i none h s).1) ∧ MachS F H' bm t cl P clp (runF t f i none h s).2
theorem c_block {t : List Class} {cl : Bool} {P : List Line} {clp : Bool} {n : Nat} (ih : LinesOk t cl P clp n) {i : Nat} {d k a b h : Int} {kids rest : Fo} {s : RS} {F H : AHeap} {bm : Nat}
  (hn : kids.size < n) (hat : At P i d (.node k a b kids rest)) (hk : numsF t kids (d + 1) = true) (hs : FsOk t s.fs) (hh : h < s.fs.length) (hl : s.log.length + cost kids ≤ 900000) (hf : s.fs.length + cost kids ≤ 900000) (hM : MachS F H bm t cl P clp s) (hp : P.length ≤ 4398046511104) :
  ACalls Tryz.prog 138 [.ptr bm 5 0 0, I i, I h] H fun r H' => r = .agg (rEn (runF t kids (i + 1) none h s).1) ∧ MachS F H' bm t cl P clp (runF t kids (i + 1) none h s).2 := by
 have hi := hat.head.1
 have hw : IntKind.i64.wrap ((i : Int) + 1) = ((i + 1 : Nat) : Int) := by rw [w64 (by omega) (by omega)]; rfl
 refine acalls_of1 Tryz.func138 rfl (by kernel_rfl) rfl rfl (awp_sound (fz := fun _ => []) (im := fun _ => false) mixed _ _ _ _ (by kernel_rfl) ?_)
 simp +contextual -dsimp -implicitDefEqProofs (maxSteps:=5000000) only [go_sem,reduceIte,reduceCtorEq,Nat.reduceEqDiff,Nat.reduceBEq,Nat.reduceAdd,Nat.reduceLeDiff,Nat.reduceMul,Nat.reduceLT,Int.reduceEq,Int.reduceLT,Int.reduceLE,hw]
 intro b6 hb6
 obtain ⟨xl, xf, H1, H2, hF, hg1, hg2, hb, rfl⟩ := id hM
 have hb6' := hb6
 rw [set_none] at hb6'
 obtain ⟨n1, n2, hn2⟩ := hb6'
 simp +contextual -dsimp -implicitDefEqProofs (maxSteps:=5000000) only [go_sem,reduceIte,reduceCtorEq,Nat.reduceEqDiff,Nat.reduceBEq,Nat.reduceAdd,Nat.reduceLeDiff,Nat.reduceMul,Nat.reduceLT,Int.reduceEq,Int.reduceLT,Int.reduceLE,hw,n1,n2]
 refine (c_endOf P clp i _ hi).det ?_
 rw [hat.endP]
 simp +contextual -dsimp -implicitDefEqProofs (maxSteps:=5000000) only [go_sem,reduceIte,reduceCtorEq,Nat.reduceEqDiff,Nat.reduceBEq,Nat.reduceAdd,Nat.reduceLeDiff,Nat.reduceMul,Nat.reduceLT,Int.reduceEq,Int.reduceLT,Int.reduceLE,hw,n1,n2]
 refine (ih kids (i + 1) (d + 1) h s _ _ bm hn hat.kids hk hs hh hl hf (mach_in (K := ⟨2, 88, [[I 0, I 0]]⟩) hM hb6)).mono ?_
 rintro _ H3 ⟨rfl, hM3⟩
 obtain ⟨H4, rfl, hM4, hn4⟩ := mach_out hM3 (mach_none hM hb6)
 simp +contextual -dsimp -implicitDefEqProofs (maxSteps:=5000000) only [go_sem,reduceIte,reduceCtorEq,Nat.reduceEqDiff,Nat.reduceBEq,Nat.reduceAdd,Nat.reduceLeDiff,Nat.reduceMul,Nat.reduceLT,Int.reduceEq,Int.reduceLT,Int.reduceLE,rEn]
 refine retR_less (l := [.agg (rEn (runF t kids (i + 1) none h s).1)]) (H' := H4) ?_ (le_set hn4) ⟨rfl, hM4⟩
 simp only [resA,go_sem,reduceIte,reduceCtorEq,Nat.reduceEqDiff,Nat.reduceBEq,Nat.reduceAdd,Nat.reduceLeDiff,Nat.reduceMul,Nat.reduceLT,Int.reduceEq,Int.reduceLT,Int.reduceLE,rEn]
end
end
end Go.Proofs.YtjpfgafdjlkblaaGreat
