/- Walks and plain laws that the claims of this seat lean on. No condition. -/
import Derived.Test.YtjpfgafdjlkblaaGreatJ2
set_option linter.unusedVariables false
set_option linter.unusedSimpArgs false
namespace Go.Proofs.YtjpfgafdjlkblaaGreat
open Go Go.Sim
section
set_option maxRecDepth 100000
attribute [local go_sem ↓] aw_skip aw_ret aw_exit aw_region aw_draw aw_seq aw_block aw_loop aw_cond frz_nil frz_cons sq_normal sq_ret sq_exit exB_normal exB_ret exB_same exB_other retQ_ret retQ_normal ret0_ret ret0_normal ao_nil go1 g_move g_assign g_pick g_build g_load g_binOp g_unOp g_convert g_fieldAddr g_field g_indexAddr g_index g_extract g_lookup g_slice g_nilCheck g_len g_makeFunc h_call h_append h_alloc h_box h_buildSlice h_makeSlice h_store gV i_box i_buildSlice i_move i_assign i_build i_load i_binOp i_unOp i_convert i_fieldAddr i_field i_indexAddr i_index i_extract i_lookup i_makeMap i_mapUpdate i_slice i_nilCheck i_makeFunc i_len i_max i_min i_alloc i_makeSlice i_store i_append i_call i_pick boxI boxA buildSliceI buildSliceA makeSliceA makeMapA allocA storeA p_move p_assign p_pick p_build p_load p_binOp p_unOp p_convert p_fieldAddr p_field p_indexAddr p_index p_extract p_lookup p_makeMap p_mapUpdate p_slice p_nilCheck p_makeFunc p_len p_max p_min p_alloc p_box p_buildSlice p_makeSlice p_store p_append p_call x_nil x_go1 x_g0 x_g1 x_g2 x_g3 x_s0 x_s1 x_s2 x_s3 u_move u_assign u_pick u_build u_load u_binOp u_unOp u_convert u_fieldAddr u_field u_indexAddr u_index u_extract u_lookup u_slice u_nilCheck u_makeFunc u_len u_buildSlice x_s4 x_g4 rq_normal rq_ret rq_exit aw_range
attribute [local go_sem] frzV_sl frzK_some set_none set_other AHeap.set_self set_del set_set cnd_t cnd_f cnd_b retA_one retA_two retA_three retA_four retA_nil gIf_b mrgV_b mrgV_wh mrgV_U gIf_U gIf_wh mrgB_f mrgB_some mrgB_if wh_true wh_false keepA_some keepA_if gD_zero gD_succ gT_some bxA_t bxA_f callA_fn ev_tmp ev_const ev_global ev_func oc_bool oc_int oc_string oc_nil oc_nilptr oc_nilfunc cl_bool cl_int cl_string cl_nil updO_some updO_none upd_same upd_other init_at pickA_b pickA_wh selA_t selA_f selA_and selA_or selA_orn selA_orm selA_bb selA_ii beqt b_add b_sub b_mul b_and b_or b_xor b_eql b_neq b_lss b_leq b_gtr b_geq b_quo b_rem b_shr b_seql b_sneq b_sadd b_beql b_bneq b_aeql b_aneq u_not u_neg isConstOp eqA eqCellV List.getD_cons_zero List.getD_cons_succ List.map_cons List.map_nil List.nil_append List.cons_append List.append_nil if_true if_false Option.map_some Option.map_none ne_eq not_false_eq_true oneA ldv ld1v ld1s wr1s ldRow stRow row_lit row_agg row_vsl row_sl row_ptr row_fn one_I one_B one_S one_vsl one_sl one_ptr one_fn extractA okA rI rS rU rClass rFault rExit rStart rLine Int.toNat_natCast List.length_cons List.length_nil List.length_map List.all_cons List.all_nil Bool.and_true Nat.zero_add List.getElem?_cons_zero List.getElem?_cons_succ List.take_succ_cons List.take_zero List.drop_succ_cons List.drop_zero and_self true_and and_true implies_true decide_eq_true_eq decide_eq_false_iff_not Bool.or_eq_true Bool.or_eq_false_iff Bool.and_eq_true Bool.not_eq_true' Bool.not_eq_false' beq_false decide_true decide_false Int.ofNat_lt Int.ofNat_le Int.natCast_nonneg Bool.or_true Bool.or_false Bool.true_or Bool.false_or beq_self_eq_true List.drop_one Bool.not_true Bool.not_false Bool.not_not Bool.false_eq_true Bool.true_eq_false false_implies true_implies Bool.true_and Bool.false_and Bool.and_false not_true_eq_false Int.natCast_eq_zero Int.natCast_pos Int.natCast_zero false_and and_false or_false false_or or_true true_or Bool.or_self none_le_iff List.replicate_zero Int.toNat_zero List.replicate_succ buildRows List.set_cons_zero List.set_cons_succ List.set_nil List.mapM_nil maxLen_eq Nat.zero_le Nat.mul_one Nat.one_mul bldA fillA spliceA List.take_nil List.drop_nil List.getElem?_nil ld1o wr1o bldSliceA le_same cv_i cvI_t quietT_fn qvd_some ld_o ldO_1 ldO_l wr_o wrO_1 set_2 set_3 set_4 putL_nil putL_cons List.zip_cons_cons List.zip_nil_left List.zip_nil_right List.toList_toArray frzV_set ti1 ti2 tk2 ti3 te3 ts3 tk3 tz3 ti4 tb4 ti5 tk5 tz5 ti9 te9 ts9 tk9 tz9 ti20 ti22 te22 tz22 ti23 te23 ti25 tp25 tf25_0 ti26 te26 ti29 te29 ti30 te30 ti32 tp32 tf32_0 ti34 tp34 tf34_0 tf34_1 tf34_2 tf34_3 ti41 tq41 tp41 tf41_0 tf41_1 tf41_2 tf41_3 ti44 tq44 tp44 tf44_0 tf44_1 tf44_2 ti45 te45 ti47 tq47 tp47 tf47_0 tf47_1 tf47_2 ti82 ti84 ti88 tq88 tp88 tf88_0 tf88_1 ti103 tq103 tp103 tf103_0 tf103_1 tf103_2 tf103_3 tf103_4 ti106 ti109 ti124 ti127 tp127 tf127_0 tf127_1 ti129 tp129 tf129_0 tf129_1 tf129_2 tf129_3 tf129_4 ti136 ti138 tp138 tf138_0 tf138_1 tf138_2 tf138_3 ti140 tq140 tp140 tf140_0 tf140_1 ti144 tq144 tp144 tf144_0 tf144_1 ti149 te149 ti151 te151 ti164 ti165 ti167 ti177 te177 ti186 ti202 ti205 tk205 tz205 ti209 tk209 ti217 tk217 tz217 ti219 tk219 tz219 ti220 tk220 ti224 ti226 fp13_0 fv13_0 fp13_1 fv13_1 fp24_0 fv24_0 fp25_0 fv25_0 fp31_0 fv31_0 fp32_0 fv32_0 fp33_0 fv33_0 fp33_1 fv33_1 fp33_2 fv33_2 fp33_3 fv33_3 fp34_0 fv34_0 fp34_1 fv34_1 fp34_2 fv34_2 fp34_3 fv34_3 fp40_0 fv40_0 fp40_1 fv40_1 fp40_2 fv40_2 fp40_3 fv40_3 fp41_0 fv41_0 fp41_1 fv41_1 fp41_2 fv41_2 fp41_3 fv41_3 fp43_0 fv43_0 fp43_1 fv43_1 fp43_2 fv43_2 fp44_0 fv44_0 fp44_1 fv44_1 fp44_2 fv44_2 fp46_0 fv46_0 fp46_1 fv46_1 fp46_2 fv46_2 fp47_0 fv47_0 fp47_1 fv47_1 fp47_2 fv47_2 fp57_0 fv57_0 fp58_0 fv58_0 fp72_0 fv72_0 fp72_1 fv72_1 fp72_2 fv72_2 fp87_0 fv87_0 fp87_1 fv87_1 fp88_0 fv88_0 fp88_1 fv88_1 fp102_0 fv102_0 fp102_1 fv102_1 fp102_2 fv102_2 fp102_3 fv102_3 fp102_4 fv102_4 fp103_0 fv103_0 fp103_1 fv103_1 fp103_2 fv103_2 fp103_3 fv103_3 fp103_4 fv103_4 fp113_0 fv113_0 fp113_1 fv113_1 fp113_2 fv113_2 fp113_3 fv113_3 fp120_0 fv120_0 fp120_1 fv120_1 fp120_2 fv120_2 fp126_0 fv126_0 fp126_1 fv126_1 fp127_0 fv127_0 fp127_1 fv127_1 fp128_0 fv128_0 fp128_1 fv128_1 fp128_2 fv128_2 fp128_3 fv128_3 fp128_4 fv128_4 fp129_0 fv129_0 fp129_1 fv129_1 fp129_2 fv129_2 fp129_3 fv129_3 fp129_4 fv129_4 fp137_0 fv137_0 fp137_1 fv137_1 fp137_2 fv137_2 fp137_3 fv137_3 fp138_0 fv138_0 fp138_1 fv138_1 fp138_2 fv138_2 fp138_3 fv138_3 fp139_0 fv139_0 fp139_1 fv139_1 fp140_0 fv140_0 fp140_1 fv140_1 fp143_0 fv143_0 fp143_1 fv143_1 fp144_0 fv144_0 fp144_1 fv144_1 fp158_0 fv158_0 fp158_1 fv158_1 fp158_2 fv158_2 fp159_0 fv159_0 fp159_1 fv159_1 fp159_2 fv159_2 fp169_0 fv169_0 fp169_1 fv169_1 lv22 ll22 is22 ix22 sh22 so22 sb22 sm22 sp22 lv23 ll23 is23 ix23 sh23 so23 sb23 sm23 sp23 lv26 ll26 is26 ix26 sh26 so26 sb26 sm26 sp26 lv29 ll29 is29 ix29 sh29 so29 sb29 sm29 sp29 lv30 ll30 is30 ix30 sh30 so30 sb30 sm30 sp30 lv45 ll45 is45 ix45 sh45 so45 sb45 sm45 sp45 lv56 ll56 is56 sp56 lv59 ll59 is59 sp59 lv71 ll71 is71 sp71 lv149 ll149 is149 sp149 lv151 ll151 is151 sp151 lv177 ll177 is177 ix177 sh177 so177 sb177 sm177 sp177 xs9 ls9 sx9 sy9 sz9
section
open Go Go.Sim
set_option maxRecDepth 100000
set_option maxHeartbeats 4000000

theorem c_inLoop (p : List Line) (cl : Bool) (i : Nat) (H : AHeap) (hi : i < p.length) : ACalls Tryz.prog 144 [aProg p cl, I i] H fun r H' => r = B (inLoopR (p.getD i default).depth (upto p i)) ∧ H' = H := by
 refine acalls_len (by kernel_rfl) (List.mem_cons_self ..) fun hl => ?_
 rw [List.length_map] at hl
 refine acalls_of0 Tryz.func144 rfl (by kernel_rfl) rfl rfl (awp_sound (fz := fun _ => []) (im := fun _ => false) mixed _ _ _ _ (by kernel_rfl) ?_)
 simp +contextual -dsimp -implicitDefEqProofs (maxSteps:=5000000) only [go_sem,reduceIte,reduceCtorEq,Nat.reduceEqDiff,Nat.reduceBEq,Nat.reduceAdd,Nat.reduceLeDiff,Nat.reduceMul,Nat.reduceLT,Int.reduceEq,Int.reduceLT,Int.reduceLE,hi]
 refine aloop mixed (fz := fun _ => []) (im := fun _ => false) (by kernel_rfl) (fun m tm H' => ∃ (dd : Int), m ≤ i ∧ H' = H ∧ tm 0 = aProg p cl ∧ tm 5 = I dd ∧ tm 6 = I ((m : Int) - 1) ∧ inLoopR dd (upto p m) = inLoopR (p.getD i default).depth (upto p i)) i ⟨(p.getD i default).depth, Nat.le_refl _, rfl, ?_⟩ ?_
 ·simp +contextual -dsimp -implicitDefEqProofs (maxSteps:=5000000) only [go_sem,reduceIte,reduceCtorEq,Nat.reduceEqDiff,Nat.reduceBEq,Nat.reduceAdd,Nat.reduceLeDiff,Nat.reduceMul,Nat.reduceLT,Int.reduceEq,Int.reduceLT,Int.reduceLE]
  exact I_wrap (by omega) (by omega) (by omega)
 ·rintro m tm H ⟨dd, hk, rfl, t0, t5, t6, he⟩
  cases m with
  | zero =>
   have z : ¬ (0 : Int) ≤ 0 - 1 := by omega
   simp +contextual -dsimp -implicitDefEqProofs (maxSteps:=5000000) only [go_sem,reduceIte,reduceCtorEq,Nat.reduceEqDiff,Nat.reduceBEq,Nat.reduceAdd,Nat.reduceLeDiff,Nat.reduceMul,Nat.reduceLT,Int.reduceEq,Int.reduceLT,Int.reduceLE,t0,t5,t6,z]
   rw [← he]; rfl
  | succ k =>
   have hkp : k < p.length := by omega
   rw [upto_succ hkp] at he
   simp only [inLoopR] at he
   have e1 : (((k + 1 : Nat) : Int)) - 1 = (k : Int) := by omega
   simp +contextual -dsimp -implicitDefEqProofs (maxSteps:=5000000) only [go_sem,reduceIte,reduceCtorEq,Nat.reduceEqDiff,Nat.reduceBEq,Nat.reduceAdd,Nat.reduceLeDiff,Nat.reduceMul,Nat.reduceLT,Int.reduceEq,Int.reduceLT,Int.reduceLE,t0,t5,t6,e1,hkp]
   refine ⟨fun q => ?_, fun q => ?_⟩
   ·rw [if_pos q] at he
    refine ⟨fun q2 => by rw [← he, decide_eq_true q2]; rfl, fun q2 => ⟨k, by omega, _, by omega, rfl, I_wrap (by omega) (by omega) (by omega), ?_⟩⟩
    rw [← he, decide_eq_false q2]; rfl
   ·rw [if_neg q] at he
    exact ⟨k, by omega, _, by omega, rfl, I_wrap (by omega) (by omega) (by omega), he⟩
theorem c_headOf (p : List Line) (cl : Bool) (i : Nat) (H : AHeap) (hi : i < p.length) : ACalls Tryz.prog 146 [aProg p cl, I i] H fun r H' => ∃ v : Int, r = I v ∧ H' = H ∧ ((v = -1 ∧ headR (p.getD i default).depth (upto p i) = none) ∨ ∃ k : Nat, v = k ∧ k < p.length ∧ headR (p.getD i default).depth (upto p i) = some (p.getD k default)) := by
 refine acalls_len (by kernel_rfl) (List.mem_cons_self ..) fun hl => ?_
 rw [List.length_map] at hl
 refine acalls_of0 Tryz.func146 rfl (by kernel_rfl) rfl rfl (awp_sound (fz := fun _ => []) (im := fun _ => false) mixed _ _ _ _ (by kernel_rfl) ?_)
 simp +contextual -dsimp -implicitDefEqProofs (maxSteps:=5000000) only [go_sem,reduceIte,reduceCtorEq,Nat.reduceEqDiff,Nat.reduceBEq,Nat.reduceAdd,Nat.reduceLeDiff,Nat.reduceMul,Nat.reduceLT,Int.reduceEq,Int.reduceLT,Int.reduceLE,hi]
 refine aloop mixed (fz := fun _ => []) (im := fun _ => false) (by kernel_rfl) (fun m tm H' => m ≤ i ∧ H' = H ∧ tm 0 = aProg p cl ∧ tm 1 = I i ∧ tm 5 = I ((m : Int) - 1) ∧ headR (p.getD i default).depth (upto p m) = headR (p.getD i default).depth (upto p i)) i ⟨Nat.le_refl _, rfl, ?_⟩ ?_
 ·simp +contextual -dsimp -implicitDefEqProofs (maxSteps:=5000000) only [go_sem,reduceIte,reduceCtorEq,Nat.reduceEqDiff,Nat.reduceBEq,Nat.reduceAdd,Nat.reduceLeDiff,Nat.reduceMul,Nat.reduceLT,Int.reduceEq,Int.reduceLT,Int.reduceLE]
  exact I_wrap (by omega) (by omega) (by omega)
 ·rintro m tm H ⟨hk, rfl, t0, t1, t5, he⟩
  cases m with
  | zero =>
   have z : ¬ (0 : Int) ≤ 0 - 1 := by omega
   simp +contextual -dsimp -implicitDefEqProofs (maxSteps:=5000000) only [go_sem,reduceIte,reduceCtorEq,Nat.reduceEqDiff,Nat.reduceBEq,Nat.reduceAdd,Nat.reduceLeDiff,Nat.reduceMul,Nat.reduceLT,Int.reduceEq,Int.reduceLT,Int.reduceLE,t0,t1,t5,z]
   exact ⟨-1, rfl, .inl ⟨rfl, he.symm⟩⟩
  | succ k =>
   have hkp : k < p.length := by omega
   rw [upto_succ hkp] at he
   simp only [headR] at he
   have e1 : (((k + 1 : Nat) : Int)) - 1 = (k : Int) := by omega
   simp +contextual -dsimp -implicitDefEqProofs (maxSteps:=5000000) only [go_sem,reduceIte,reduceCtorEq,Nat.reduceEqDiff,Nat.reduceBEq,Nat.reduceAdd,Nat.reduceLeDiff,Nat.reduceMul,Nat.reduceLT,Int.reduceEq,Int.reduceLT,Int.reduceLE,t0,t1,t5,e1,hkp,hi]
   refine draw_intro [0, 0, 0, 0, 0, 0, 0, 0, 0, 0, 0] AHeap.none (by kernel_rfl) none_le ?_
   simp +contextual -dsimp -implicitDefEqProofs (maxSteps:=5000000) only [go_sem,reduceIte,reduceCtorEq,Nat.reduceEqDiff,Nat.reduceBEq,Nat.reduceAdd,Nat.reduceLeDiff,Nat.reduceMul,Nat.reduceLT,Int.reduceEq,Int.reduceLT,Int.reduceLE,t0,t1,t5,e1,hkp,hi]
   refine ⟨fun q => ?_, fun q => ?_⟩
   ·rw [if_pos q] at he
    exact ⟨-1, rfl, .inl ⟨rfl, he.symm⟩⟩
   ·rw [if_neg q] at he
    refine draw_intro [0, 0, 0, 0, 0, 0, 0, 0, 0, 0, 0] AHeap.none (by kernel_rfl) none_le ?_
    simp +contextual -dsimp -implicitDefEqProofs (maxSteps:=5000000) only [go_sem,reduceIte,reduceCtorEq,Nat.reduceEqDiff,Nat.reduceBEq,Nat.reduceAdd,Nat.reduceLeDiff,Nat.reduceMul,Nat.reduceLT,Int.reduceEq,Int.reduceLT,Int.reduceLE,t0,t1,t5,e1,hkp,hi]
    refine ⟨fun q2 => ?_, fun q2 => ?_⟩
    ·rw [if_pos q2] at he
     exact ⟨k, rfl, .inr ⟨k, rfl, hkp, he.symm⟩⟩
    ·rw [if_neg q2] at he
     exact ⟨k, by omega, by omega, I_wrap (by omega) (by omega) (by omega), he⟩
def relOk (p : List Line) (i : Nat) : Bool := if i = 0 then decide ((p.getD i default).depth = 0) else stepOk (p.getD (i - 1) default) (p.getD i default)
def endOk (p : List Line) (i : Nat) : Bool := !(decide (i + 1 = p.length) && opensK (p.getD i default).kind)
def lineOk (t : List Class) (p : List Line) (i : Nat) : Bool := oneOk t (p.getD i default) && ((relOk p i && endOk p i) && stOk p i)
theorem inR5 {n : Int} (h : inR n 0 5 = true) : 0 ≤ n ∧ n ≤ 5 := by simpa [inR] using h
theorem c_validLine (t : List Class) (cl : Bool) (p : List Line) (cl' : Bool) (i : Nat) (H : AHeap) (hi : i < p.length) (hp : p.length ≤ 4398046511104) (hprev : i ≠ 0 → inR (p.getD (i - 1) default).depth 0 5 = true) :
  ACalls Tryz.prog 98 [aTree t cl, aProg p cl', I i] H fun r H' => r = B (lineOk t p i) ∧ H' = H := by
 refine acalls_of0 Tryz.func98 rfl (by kernel_rfl) rfl rfl (awp_sound (fz := fun r => if r = 1 then [7] else []) (im := fun s => s == 3) mixed _ _ _ _ (by kernel_rfl) ?_)
 simp +contextual -dsimp -implicitDefEqProofs (maxSteps:=5000000) only [go_sem,reduceIte,reduceCtorEq,Nat.reduceEqDiff,Nat.reduceBEq,Nat.reduceAdd,Nat.reduceLeDiff,Nat.reduceMul,Nat.reduceLT,Int.reduceEq,Int.reduceLT,Int.reduceLE,hi]
 intro b7 hb7
 refine (c_validNumbers t cl (p.getD i default) _).det ?_
 have hno : oneOk t (p.getD i default) = (numOk t (p.getD i default).kind (p.getD i default).a (p.getD i default).b && inR (p.getD i default).depth 0 5) := rfl
 cases h1 : numOk t (p.getD i default).kind (p.getD i default).a (p.getD i default).b
 ·rw [h1, Bool.false_and] at hno
  simp +contextual -dsimp -implicitDefEqProofs (maxSteps:=5000000) only [go_sem,reduceIte,reduceCtorEq,Nat.reduceEqDiff,Nat.reduceBEq,Nat.reduceAdd,Nat.reduceLeDiff,Nat.reduceMul,Nat.reduceLT,Int.reduceEq,Int.reduceLT,Int.reduceLE,hi,lineOk,hno]
 ·simp +contextual -dsimp -implicitDefEqProofs (maxSteps:=5000000) only [go_sem,reduceIte,reduceCtorEq,Nat.reduceEqDiff,Nat.reduceBEq,Nat.reduceAdd,Nat.reduceLeDiff,Nat.reduceMul,Nat.reduceLT,Int.reduceEq,Int.reduceLT,Int.reduceLE,hi]
  refine (c_inRange _ _ _ _).det ?_
  cases h2 : inR (p.getD i default).depth 0 5
  ·rw [h1, h2, Bool.true_and] at hno
   simp +contextual -dsimp -implicitDefEqProofs (maxSteps:=5000000) only [go_sem,reduceIte,reduceCtorEq,Nat.reduceEqDiff,Nat.reduceBEq,Nat.reduceAdd,Nat.reduceLeDiff,Nat.reduceMul,Nat.reduceLT,Int.reduceEq,Int.reduceLT,Int.reduceLE,hi,lineOk,hno]
  ·rw [h1, h2, Bool.true_and] at hno
   have h2' := inR5 h2
   simp +contextual -dsimp -implicitDefEqProofs (maxSteps:=5000000) only [go_sem,reduceIte,reduceCtorEq,Nat.reduceEqDiff,Nat.reduceBEq,Nat.reduceAdd,Nat.reduceLeDiff,Nat.reduceMul,Nat.reduceLT,Int.reduceEq,Int.reduceLT,Int.reduceLE,hi]
   have fin : relOk p i = true → endOk p i = true → lineOk t p i = stOk p i := fun q1 q2 => by unfold lineOk; rw [hno, q1, q2]; rfl
   have hw : IntKind.i64.wrap ((i : Int) + 1) = ((i + 1 : Nat) : Int) := by
    have := hi
    rw [w64 (by omega) (by omega)]; rfl
   have ee : ∀ b : Bool, opensK (p.getD i default).kind = b → i + 1 = p.length → endOk p i = !b := fun b q1 q2 => by unfold endOk; rw [q1, decide_eq_true q2]; rfl
   have en : ¬ i + 1 = p.length → endOk p i = true := fun q => by unfold endOk; rw [decide_eq_false q]; rfl
   have bad1 : relOk p i = false → lineOk t p i = false := fun q => by unfold lineOk; rw [hno, q]; rfl
   have bad2 : endOk p i = false → lineOk t p i = false := fun q => by unfold lineOk; rw [hno, q]; simp
   by_cases i0 : i = 0
   ·subst i0
    refine draw_intro [0, 0, 0, 0, 0, 0, 0, 0, 0, 0, 0, 0, 0, 0, 0, 0, 0, 0, 0, 0, 0, 0, 0, 0, 0, 0, 0, 0, 3, 0, 1, 0, 0, 0, 0, 0, 1, 0, 0, 0, 0, 0, 0, 0, 0, 0, 0, 0, 0, 0, 0, 0, 2, 0, 0] _ (by kernel_rfl) (AHeap.le_refl _) ?_
    have hw1 : IntKind.i64.wrap (0 + 1) = (1 : Int) := rfl
    by_cases d0 : (p.getD 0 default).depth = 0
    ·have hrel : relOk p 0 = true := by unfold relOk; rw [if_pos rfl, decide_eq_true d0]
     by_cases el : 0 + 1 = p.length
     ·have el' : (p.length : Int) = 1 := by omega
      simp +contextual -dsimp -implicitDefEqProofs (maxSteps:=5000000) only [go_sem,reduceIte,reduceCtorEq,Nat.reduceEqDiff,Nat.reduceBEq,Nat.reduceAdd,Nat.reduceLeDiff,Nat.reduceMul,Nat.reduceLT,Int.reduceEq,Int.reduceLT,Int.reduceLE,hi,d0,hw1,el']
      refine (c_opens _ _).det ?_
      cases ho : opensK (p.getD 0 default).kind
      ·have hend := ee false ho el
       simp +contextual -dsimp -implicitDefEqProofs (maxSteps:=5000000) only [go_sem,reduceIte,reduceCtorEq,Nat.reduceEqDiff,Nat.reduceBEq,Nat.reduceAdd,Nat.reduceLeDiff,Nat.reduceMul,Nat.reduceLT,Int.reduceEq,Int.reduceLT,Int.reduceLE,hi]
       rw [fin hrel hend]
       by_cases k7 : (p.getD 0 default).kind = 7
       ·have hs : stOk p 0 = tryOkF (kindsP p (tailQ p (p.getD 0 default).depth (endP p 0))) := by
         unfold stOk; rw [k7]; simp only [show followsK 7 = false from rfl,decide_true,Bool.not_true,Bool.not_false,Bool.false_or,Bool.true_or,Bool.and_true,show ¬ (7 : Int) = 5 by decide,show ¬ (7 : Int) = 6 by decide,decide_false,Bool.or_self]
        rw [hs]
        simp +contextual -dsimp -implicitDefEqProofs (maxSteps:=5000000) only [go_sem,reduceIte,reduceCtorEq,Nat.reduceEqDiff,Nat.reduceBEq,Nat.reduceAdd,Nat.reduceLeDiff,Nat.reduceMul,Nat.reduceLT,Int.reduceEq,Int.reduceLT,Int.reduceLE,hi,k7]
        refine (c_validChain p cl' 0 _ hi hp).det ?_
        cases hc : tryOkF (kindsP p (tailQ p (p.getD 0 default).depth (endP p 0)))
        ·simp +contextual -dsimp -implicitDefEqProofs (maxSteps:=5000000) only [go_sem,reduceIte,reduceCtorEq,Nat.reduceEqDiff,Nat.reduceBEq,Nat.reduceAdd,Nat.reduceLeDiff,Nat.reduceMul,Nat.reduceLT,Int.reduceEq,Int.reduceLT,Int.reduceLE,hi,k7]
        ·simp +contextual -dsimp -implicitDefEqProofs (maxSteps:=5000000) only [go_sem,reduceIte,reduceCtorEq,Nat.reduceEqDiff,Nat.reduceBEq,Nat.reduceAdd,Nat.reduceLeDiff,Nat.reduceMul,Nat.reduceLT,Int.reduceEq,Int.reduceLT,Int.reduceLE,hi,k7]
         refine (c_follows _ _).det ?_
         rw [show followsK 7 = false from rfl]
         simp +contextual -dsimp -implicitDefEqProofs (maxSteps:=5000000) only [go_sem,reduceIte,reduceCtorEq,Nat.reduceEqDiff,Nat.reduceBEq,Nat.reduceAdd,Nat.reduceLeDiff,Nat.reduceMul,Nat.reduceLT,Int.reduceEq,Int.reduceLT,Int.reduceLE]
       ·by_cases k5 : (p.getD 0 default).kind = 5
        ·have hs : stOk p 0 = inLoopR (p.getD 0 default).depth (upto p 0) := by
          unfold stOk; rw [k5]; simp only [show followsK 5 = false from rfl,decide_true,Bool.not_true,Bool.not_false,Bool.false_or,Bool.true_or,Bool.or_true,Bool.and_true,Bool.true_and,show ¬ (5 : Int) = 7 by decide,show ¬ (5 : Int) = 6 by decide,decide_false]
         rw [hs]
         simp +contextual -dsimp -implicitDefEqProofs (maxSteps:=5000000) only [go_sem,reduceIte,reduceCtorEq,Nat.reduceEqDiff,Nat.reduceBEq,Nat.reduceAdd,Nat.reduceLeDiff,Nat.reduceMul,Nat.reduceLT,Int.reduceEq,Int.reduceLT,Int.reduceLE,hi,k5]
         refine (c_inLoop p cl' 0 _ hi).det ?_
         cases hc : inLoopR (p.getD 0 default).depth (upto p 0)
         ·simp +contextual -dsimp -implicitDefEqProofs (maxSteps:=5000000) only [go_sem,reduceIte,reduceCtorEq,Nat.reduceEqDiff,Nat.reduceBEq,Nat.reduceAdd,Nat.reduceLeDiff,Nat.reduceMul,Nat.reduceLT,Int.reduceEq,Int.reduceLT,Int.reduceLE,hi,k5]
         ·simp +contextual -dsimp -implicitDefEqProofs (maxSteps:=5000000) only [go_sem,reduceIte,reduceCtorEq,Nat.reduceEqDiff,Nat.reduceBEq,Nat.reduceAdd,Nat.reduceLeDiff,Nat.reduceMul,Nat.reduceLT,Int.reduceEq,Int.reduceLT,Int.reduceLE,hi,k5]
          refine (c_follows _ _).det ?_
          rw [show followsK 5 = false from rfl]
          simp +contextual -dsimp -implicitDefEqProofs (maxSteps:=5000000) only [go_sem,reduceIte,reduceCtorEq,Nat.reduceEqDiff,Nat.reduceBEq,Nat.reduceAdd,Nat.reduceLeDiff,Nat.reduceMul,Nat.reduceLT,Int.reduceEq,Int.reduceLT,Int.reduceLE]
        ·by_cases k6 : (p.getD 0 default).kind = 6
         ·have hs : stOk p 0 = inLoopR (p.getD 0 default).depth (upto p 0) := by
           unfold stOk; rw [k6]; simp only [show followsK 6 = false from rfl,decide_true,Bool.not_true,Bool.not_false,Bool.false_or,Bool.true_or,Bool.or_true,Bool.and_true,Bool.true_and,show ¬ (6 : Int) = 7 by decide,show ¬ (6 : Int) = 5 by decide,decide_false]
          rw [hs]
          simp +contextual -dsimp -implicitDefEqProofs (maxSteps:=5000000) only [go_sem,reduceIte,reduceCtorEq,Nat.reduceEqDiff,Nat.reduceBEq,Nat.reduceAdd,Nat.reduceLeDiff,Nat.reduceMul,Nat.reduceLT,Int.reduceEq,Int.reduceLT,Int.reduceLE,hi,k6]
          refine (c_inLoop p cl' 0 _ hi).det ?_
          cases hc : inLoopR (p.getD 0 default).depth (upto p 0)
          ·simp +contextual -dsimp -implicitDefEqProofs (maxSteps:=5000000) only [go_sem,reduceIte,reduceCtorEq,Nat.reduceEqDiff,Nat.reduceBEq,Nat.reduceAdd,Nat.reduceLeDiff,Nat.reduceMul,Nat.reduceLT,Int.reduceEq,Int.reduceLT,Int.reduceLE,hi,k6]
          ·simp +contextual -dsimp -implicitDefEqProofs (maxSteps:=5000000) only [go_sem,reduceIte,reduceCtorEq,Nat.reduceEqDiff,Nat.reduceBEq,Nat.reduceAdd,Nat.reduceLeDiff,Nat.reduceMul,Nat.reduceLT,Int.reduceEq,Int.reduceLT,Int.reduceLE,hi,k6]
           refine (c_follows _ _).det ?_
           rw [show followsK 6 = false from rfl]
           simp +contextual -dsimp -implicitDefEqProofs (maxSteps:=5000000) only [go_sem,reduceIte,reduceCtorEq,Nat.reduceEqDiff,Nat.reduceBEq,Nat.reduceAdd,Nat.reduceLeDiff,Nat.reduceMul,Nat.reduceLT,Int.reduceEq,Int.reduceLT,Int.reduceLE]
         ·have hs : stOk p 0 = (!followsK (p.getD 0 default).kind || headOkR (headR (p.getD 0 default).depth (upto p 0))) := by
           unfold stOk; simp only [k7,k5,k6,decide_false,Bool.not_false,Bool.true_or,Bool.true_and,Bool.or_self]
          rw [hs]
          simp +contextual -dsimp -implicitDefEqProofs (maxSteps:=5000000) only [go_sem,reduceIte,reduceCtorEq,Nat.reduceEqDiff,Nat.reduceBEq,Nat.reduceAdd,Nat.reduceLeDiff,Nat.reduceMul,Nat.reduceLT,Int.reduceEq,Int.reduceLT,Int.reduceLE,hi,k5,k6,k7]
          refine (c_follows _ _).det ?_
          cases hf : followsK (p.getD 0 default).kind
          ·simp +contextual -dsimp -implicitDefEqProofs (maxSteps:=5000000) only [go_sem,reduceIte,reduceCtorEq,Nat.reduceEqDiff,Nat.reduceBEq,Nat.reduceAdd,Nat.reduceLeDiff,Nat.reduceMul,Nat.reduceLT,Int.reduceEq,Int.reduceLT,Int.reduceLE]
          ·simp +contextual -dsimp -implicitDefEqProofs (maxSteps:=5000000) only [go_sem,reduceIte,reduceCtorEq,Nat.reduceEqDiff,Nat.reduceBEq,Nat.reduceAdd,Nat.reduceLeDiff,Nat.reduceMul,Nat.reduceLT,Int.reduceEq,Int.reduceLT,Int.reduceLE,hi]
           refine (c_headOf p cl' 0 _ hi).mono ?_
           rintro _ _ ⟨v, rfl, rfl, hv⟩
           rcases hv with ⟨rfl, hv⟩ | ⟨k, rfl, hk, hv⟩
           ·rw [hv]
            have z : ¬ (0 : Int) ≤ -1 := by omega
            simp +contextual -dsimp -implicitDefEqProofs (maxSteps:=5000000) only [go_sem,reduceIte,reduceCtorEq,Nat.reduceEqDiff,Nat.reduceBEq,Nat.reduceAdd,Nat.reduceLeDiff,Nat.reduceMul,Nat.reduceLT,Int.reduceEq,Int.reduceLT,Int.reduceLE,z,headOkR]
           ·rw [hv]
            simp +contextual -dsimp -implicitDefEqProofs (maxSteps:=5000000) only [go_sem,reduceIte,reduceCtorEq,Nat.reduceEqDiff,Nat.reduceBEq,Nat.reduceAdd,Nat.reduceLeDiff,Nat.reduceMul,Nat.reduceLT,Int.reduceEq,Int.reduceLT,Int.reduceLE,hk,headOkR]
            by_cases q7 : (p.getD k default).kind = 7
            ·simp +contextual -dsimp -implicitDefEqProofs (maxSteps:=5000000) only [go_sem,reduceIte,reduceCtorEq,Nat.reduceEqDiff,Nat.reduceBEq,Nat.reduceAdd,Nat.reduceLeDiff,Nat.reduceMul,Nat.reduceLT,Int.reduceEq,Int.reduceLT,Int.reduceLE,q7]
            ·simp +contextual -dsimp -implicitDefEqProofs (maxSteps:=5000000) only [go_sem,reduceIte,reduceCtorEq,Nat.reduceEqDiff,Nat.reduceBEq,Nat.reduceAdd,Nat.reduceLeDiff,Nat.reduceMul,Nat.reduceLT,Int.reduceEq,Int.reduceLT,Int.reduceLE,q7,hk]
             refine (c_follows _ _).det ?_
             simp +contextual -dsimp -implicitDefEqProofs (maxSteps:=5000000) only [go_sem,reduceIte,reduceCtorEq,Nat.reduceEqDiff,Nat.reduceBEq,Nat.reduceAdd,Nat.reduceLeDiff,Nat.reduceMul,Nat.reduceLT,Int.reduceEq,Int.reduceLT,Int.reduceLE,q7]
             simp only [headOkR,q7,decide_false,Bool.false_or]
      ·rw [bad2 (ee true ho el)]
       simp +contextual -dsimp -implicitDefEqProofs (maxSteps:=5000000) only [go_sem,reduceIte,reduceCtorEq,Nat.reduceEqDiff,Nat.reduceBEq,Nat.reduceAdd,Nat.reduceLeDiff,Nat.reduceMul,Nat.reduceLT,Int.reduceEq,Int.reduceLT,Int.reduceLE,hi]
     ·have el' : ¬ (1 : Int) = (p.length : Int) := by omega
      have hend := en el
      simp +contextual -dsimp -implicitDefEqProofs (maxSteps:=5000000) only [go_sem,reduceIte,reduceCtorEq,Nat.reduceEqDiff,Nat.reduceBEq,Nat.reduceAdd,Nat.reduceLeDiff,Nat.reduceMul,Nat.reduceLT,Int.reduceEq,Int.reduceLT,Int.reduceLE,hi,d0,hw1,el']
      rw [fin hrel hend]
      by_cases k7 : (p.getD 0 default).kind = 7
      ·have hs : stOk p 0 = tryOkF (kindsP p (tailQ p (p.getD 0 default).depth (endP p 0))) := by
        unfold stOk; rw [k7]; simp only [show followsK 7 = false from rfl,decide_true,Bool.not_true,Bool.not_false,Bool.false_or,Bool.true_or,Bool.and_true,show ¬ (7 : Int) = 5 by decide,show ¬ (7 : Int) = 6 by decide,decide_false,Bool.or_self]
       rw [hs]
       simp +contextual -dsimp -implicitDefEqProofs (maxSteps:=5000000) only [go_sem,reduceIte,reduceCtorEq,Nat.reduceEqDiff,Nat.reduceBEq,Nat.reduceAdd,Nat.reduceLeDiff,Nat.reduceMul,Nat.reduceLT,Int.reduceEq,Int.reduceLT,Int.reduceLE,hi,k7]
       refine (c_validChain p cl' 0 _ hi hp).det ?_
       cases hc : tryOkF (kindsP p (tailQ p (p.getD 0 default).depth (endP p 0)))
       ·simp +contextual -dsimp -implicitDefEqProofs (maxSteps:=5000000) only [go_sem,reduceIte,reduceCtorEq,Nat.reduceEqDiff,Nat.reduceBEq,Nat.reduceAdd,Nat.reduceLeDiff,Nat.reduceMul,Nat.reduceLT,Int.reduceEq,Int.reduceLT,Int.reduceLE,hi,k7]
       ·simp +contextual -dsimp -implicitDefEqProofs (maxSteps:=5000000) only [go_sem,reduceIte,reduceCtorEq,Nat.reduceEqDiff,Nat.reduceBEq,Nat.reduceAdd,Nat.reduceLeDiff,Nat.reduceMul,Nat.reduceLT,Int.reduceEq,Int.reduceLT,Int.reduceLE,hi,k7]
        refine (c_follows _ _).det ?_
        rw [show followsK 7 = false from rfl]
        simp +contextual -dsimp -implicitDefEqProofs (maxSteps:=5000000) only [go_sem,reduceIte,reduceCtorEq,Nat.reduceEqDiff,Nat.reduceBEq,Nat.reduceAdd,Nat.reduceLeDiff,Nat.reduceMul,Nat.reduceLT,Int.reduceEq,Int.reduceLT,Int.reduceLE]
      ·by_cases k5 : (p.getD 0 default).kind = 5
       ·have hs : stOk p 0 = inLoopR (p.getD 0 default).depth (upto p 0) := by
         unfold stOk; rw [k5]; simp only [show followsK 5 = false from rfl,decide_true,Bool.not_true,Bool.not_false,Bool.false_or,Bool.true_or,Bool.or_true,Bool.and_true,Bool.true_and,show ¬ (5 : Int) = 7 by decide,show ¬ (5 : Int) = 6 by decide,decide_false]
        rw [hs]
        simp +contextual -dsimp -implicitDefEqProofs (maxSteps:=5000000) only [go_sem,reduceIte,reduceCtorEq,Nat.reduceEqDiff,Nat.reduceBEq,Nat.reduceAdd,Nat.reduceLeDiff,Nat.reduceMul,Nat.reduceLT,Int.reduceEq,Int.reduceLT,Int.reduceLE,hi,k5]
        refine (c_inLoop p cl' 0 _ hi).det ?_
        cases hc : inLoopR (p.getD 0 default).depth (upto p 0)
        ·simp +contextual -dsimp -implicitDefEqProofs (maxSteps:=5000000) only [go_sem,reduceIte,reduceCtorEq,Nat.reduceEqDiff,Nat.reduceBEq,Nat.reduceAdd,Nat.reduceLeDiff,Nat.reduceMul,Nat.reduceLT,Int.reduceEq,Int.reduceLT,Int.reduceLE,hi,k5]
        ·simp +contextual -dsimp -implicitDefEqProofs (maxSteps:=5000000) only [go_sem,reduceIte,reduceCtorEq,Nat.reduceEqDiff,Nat.reduceBEq,Nat.reduceAdd,Nat.reduceLeDiff,Nat.reduceMul,Nat.reduceLT,Int.reduceEq,Int.reduceLT,Int.reduceLE,hi,k5]
         refine (c_follows _ _).det ?_
         rw [show followsK 5 = false from rfl]
         simp +contextual -dsimp -implicitDefEqProofs (maxSteps:=5000000) only [go_sem,reduceIte,reduceCtorEq,Nat.reduceEqDiff,Nat.reduceBEq,Nat.reduceAdd,Nat.reduceLeDiff,Nat.reduceMul,Nat.reduceLT,Int.reduceEq,Int.reduceLT,Int.reduceLE]
       ·by_cases k6 : (p.getD 0 default).kind = 6
        ·have hs : stOk p 0 = inLoopR (p.getD 0 default).depth (upto p 0) := by
          unfold stOk; rw [k6]; simp only [show followsK 6 = false from rfl,decide_true,Bool.not_true,Bool.not_false,Bool.false_or,Bool.true_or,Bool.or_true,Bool.and_true,Bool.true_and,show ¬ (6 : Int) = 7 by decide,show ¬ (6 : Int) = 5 by decide,decide_false]
         rw [hs]
         simp +contextual -dsimp -implicitDefEqProofs (maxSteps:=5000000) only [go_sem,reduceIte,reduceCtorEq,Nat.reduceEqDiff,Nat.reduceBEq,Nat.reduceAdd,Nat.reduceLeDiff,Nat.reduceMul,Nat.reduceLT,Int.reduceEq,Int.reduceLT,Int.reduceLE,hi,k6]
         refine (c_inLoop p cl' 0 _ hi).det ?_
         cases hc : inLoopR (p.getD 0 default).depth (upto p 0)
         ·simp +contextual -dsimp -implicitDefEqProofs (maxSteps:=5000000) only [go_sem,reduceIte,reduceCtorEq,Nat.reduceEqDiff,Nat.reduceBEq,Nat.reduceAdd,Nat.reduceLeDiff,Nat.reduceMul,Nat.reduceLT,Int.reduceEq,Int.reduceLT,Int.reduceLE,hi,k6]
         ·simp +contextual -dsimp -implicitDefEqProofs (maxSteps:=5000000) only [go_sem,reduceIte,reduceCtorEq,Nat.reduceEqDiff,Nat.reduceBEq,Nat.reduceAdd,Nat.reduceLeDiff,Nat.reduceMul,Nat.reduceLT,Int.reduceEq,Int.reduceLT,Int.reduceLE,hi,k6]
          refine (c_follows _ _).det ?_
          rw [show followsK 6 = false from rfl]
          simp +contextual -dsimp -implicitDefEqProofs (maxSteps:=5000000) only [go_sem,reduceIte,reduceCtorEq,Nat.reduceEqDiff,Nat.reduceBEq,Nat.reduceAdd,Nat.reduceLeDiff,Nat.reduceMul,Nat.reduceLT,Int.reduceEq,Int.reduceLT,Int.reduceLE]
        ·have hs : stOk p 0 = (!followsK (p.getD 0 default).kind || headOkR (headR (p.getD 0 default).depth (upto p 0))) := by
          unfold stOk; simp only [k7,k5,k6,decide_false,Bool.not_false,Bool.true_or,Bool.true_and,Bool.or_self]
         rw [hs]
         simp +contextual -dsimp -implicitDefEqProofs (maxSteps:=5000000) only [go_sem,reduceIte,reduceCtorEq,Nat.reduceEqDiff,Nat.reduceBEq,Nat.reduceAdd,Nat.reduceLeDiff,Nat.reduceMul,Nat.reduceLT,Int.reduceEq,Int.reduceLT,Int.reduceLE,hi,k5,k6,k7]
         refine (c_follows _ _).det ?_
         cases hf : followsK (p.getD 0 default).kind
         ·simp +contextual -dsimp -implicitDefEqProofs (maxSteps:=5000000) only [go_sem,reduceIte,reduceCtorEq,Nat.reduceEqDiff,Nat.reduceBEq,Nat.reduceAdd,Nat.reduceLeDiff,Nat.reduceMul,Nat.reduceLT,Int.reduceEq,Int.reduceLT,Int.reduceLE]
         ·simp +contextual -dsimp -implicitDefEqProofs (maxSteps:=5000000) only [go_sem,reduceIte,reduceCtorEq,Nat.reduceEqDiff,Nat.reduceBEq,Nat.reduceAdd,Nat.reduceLeDiff,Nat.reduceMul,Nat.reduceLT,Int.reduceEq,Int.reduceLT,Int.reduceLE,hi]
          refine (c_headOf p cl' 0 _ hi).mono ?_
          rintro _ _ ⟨v, rfl, rfl, hv⟩
          rcases hv with ⟨rfl, hv⟩ | ⟨k, rfl, hk, hv⟩
          ·rw [hv]
           have z : ¬ (0 : Int) ≤ -1 := by omega
           simp +contextual -dsimp -implicitDefEqProofs (maxSteps:=5000000) only [go_sem,reduceIte,reduceCtorEq,Nat.reduceEqDiff,Nat.reduceBEq,Nat.reduceAdd,Nat.reduceLeDiff,Nat.reduceMul,Nat.reduceLT,Int.reduceEq,Int.reduceLT,Int.reduceLE,z,headOkR]
          ·rw [hv]
           simp +contextual -dsimp -implicitDefEqProofs (maxSteps:=5000000) only [go_sem,reduceIte,reduceCtorEq,Nat.reduceEqDiff,Nat.reduceBEq,Nat.reduceAdd,Nat.reduceLeDiff,Nat.reduceMul,Nat.reduceLT,Int.reduceEq,Int.reduceLT,Int.reduceLE,hk,headOkR]
           by_cases q7 : (p.getD k default).kind = 7
           ·simp +contextual -dsimp -implicitDefEqProofs (maxSteps:=5000000) only [go_sem,reduceIte,reduceCtorEq,Nat.reduceEqDiff,Nat.reduceBEq,Nat.reduceAdd,Nat.reduceLeDiff,Nat.reduceMul,Nat.reduceLT,Int.reduceEq,Int.reduceLT,Int.reduceLE,q7]
           ·simp +contextual -dsimp -implicitDefEqProofs (maxSteps:=5000000) only [go_sem,reduceIte,reduceCtorEq,Nat.reduceEqDiff,Nat.reduceBEq,Nat.reduceAdd,Nat.reduceLeDiff,Nat.reduceMul,Nat.reduceLT,Int.reduceEq,Int.reduceLT,Int.reduceLE,q7,hk]
            refine (c_follows _ _).det ?_
            simp +contextual -dsimp -implicitDefEqProofs (maxSteps:=5000000) only [go_sem,reduceIte,reduceCtorEq,Nat.reduceEqDiff,Nat.reduceBEq,Nat.reduceAdd,Nat.reduceLeDiff,Nat.reduceMul,Nat.reduceLT,Int.reduceEq,Int.reduceLT,Int.reduceLE,q7]
            simp only [headOkR,q7,decide_false,Bool.false_or]
    ·simp +contextual -dsimp -implicitDefEqProofs (maxSteps:=5000000) only [go_sem,reduceIte,reduceCtorEq,Nat.reduceEqDiff,Nat.reduceBEq,Nat.reduceAdd,Nat.reduceLeDiff,Nat.reduceMul,Nat.reduceLT,Int.reduceEq,Int.reduceLT,Int.reduceLE,hi,d0,bad1 (by unfold relOk; rw [if_pos rfl,decide_eq_false d0])]
   ·refine draw_intro [0, 0, 0, 0, 0, 0, 0, 0, 0, 0, 0, 0, 0, 0, 0, 0, 0, 0, 0, 0, 0, 0, 0, 0, 0, 0, 0, 0, 3, 0, 1, 0, 0, 0, 0, 0, 1, 0, 0, 0, 0, 0, 0, 0, 0, 0, 0, 0, 0, 0, 0, 0, 2, 0, 0] _ (by kernel_rfl) (AHeap.le_refl _) ?_
    have hpv := inR5 (hprev i0)
    have i0' : ¬ (i : Int) = 0 := by omega
    have i1 : (0 : Int) < (i : Int) := by omega
    have hwi : IntKind.i64.wrap ((i : Int) - 1) = ((i - 1 : Nat) : Int) := by rw [w64 (by omega) (by omega)]; omega
    have hi1 : i - 1 < p.length := by omega
    have hi2 : i - 1 < i + 1 := by omega
    have hwd : IntKind.i64.wrap ((p.getD (i - 1) default).depth + 1) = (p.getD (i - 1) default).depth + 1 := w64 (by omega) (by omega)
    have er : relOk p i = stepOk (p.getD (i - 1) default) (p.getD i default) := by unfold relOk; rw [if_neg i0]
    by_cases g : (p.getD (i - 1) default).depth + 1 < (p.getD i default).depth
    ·have hb : relOk p i = false := by
      rw [er]; unfold stepOk; split
      ·exact decide_eq_false (by omega)
      ·exact decide_eq_false (by omega)
     simp +contextual -dsimp -implicitDefEqProofs (maxSteps:=5000000) only [go_sem,reduceIte,reduceCtorEq,Nat.reduceEqDiff,Nat.reduceBEq,Nat.reduceAdd,Nat.reduceLeDiff,Nat.reduceMul,Nat.reduceLT,Int.reduceEq,Int.reduceLT,Int.reduceLE,hi,i0',i1,hwi,hi1,hwd,g,bad1 hb]
    ·simp +contextual -dsimp -implicitDefEqProofs (maxSteps:=5000000) only [go_sem,reduceIte,reduceCtorEq,Nat.reduceEqDiff,Nat.reduceBEq,Nat.reduceAdd,Nat.reduceLeDiff,Nat.reduceMul,Nat.reduceLT,Int.reduceEq,Int.reduceLT,Int.reduceLE,hi,i0',i1,hwi,hi1,hwd,g]
     refine (c_opens _ _).det ?_
     refine ⟨AHeap.le_refl _, ?_⟩
     by_cases e : (p.getD i default).depth = (p.getD (i - 1) default).depth + 1
     ·cases ho : opensK (p.getD (i - 1) default).kind
      ·have hb : relOk p i = false := by
        rw [er]; unfold stepOk; rw [ho, if_neg (by decide)]; exact decide_eq_false (by omega)
       simp +contextual -dsimp -implicitDefEqProofs (maxSteps:=5000000) only [go_sem,reduceIte,reduceCtorEq,Nat.reduceEqDiff,Nat.reduceBEq,Nat.reduceAdd,Nat.reduceLeDiff,Nat.reduceMul,Nat.reduceLT,Int.reduceEq,Int.reduceLT,Int.reduceLE,hi,i0',i1,hwi,hi1,hwd,g,e,bad1 hb]
      ·have hrel : relOk p i = true := by
        rw [er]; unfold stepOk; rw [ho, if_pos rfl]; exact decide_eq_true e
       by_cases el : i + 1 = p.length
       ·have el' : (p.length : Int) = ((i + 1 : Nat) : Int) := by omega
        simp +contextual -dsimp -implicitDefEqProofs (maxSteps:=5000000) only [go_sem,reduceIte,reduceCtorEq,Nat.reduceEqDiff,Nat.reduceBEq,Nat.reduceAdd,Nat.reduceLeDiff,Nat.reduceMul,Nat.reduceLT,Int.reduceEq,Int.reduceLT,Int.reduceLE,hi,i0',i1,hwi,hi1,hwd,g,e,hw,el',hi2]
        refine (c_opens _ _).det ?_
        cases ho : opensK (p.getD i default).kind
        ·have hend := ee false ho el
         simp +contextual -dsimp -implicitDefEqProofs (maxSteps:=5000000) only [go_sem,reduceIte,reduceCtorEq,Nat.reduceEqDiff,Nat.reduceBEq,Nat.reduceAdd,Nat.reduceLeDiff,Nat.reduceMul,Nat.reduceLT,Int.reduceEq,Int.reduceLT,Int.reduceLE,hi]
         rw [fin hrel hend]
         by_cases k7 : (p.getD i default).kind = 7
         ·have hs : stOk p i = tryOkF (kindsP p (tailQ p (p.getD i default).depth (endP p i))) := by
           unfold stOk; rw [k7]; simp only [show followsK 7 = false from rfl,decide_true,Bool.not_true,Bool.not_false,Bool.false_or,Bool.true_or,Bool.and_true,show ¬ (7 : Int) = 5 by decide,show ¬ (7 : Int) = 6 by decide,decide_false,Bool.or_self]
          rw [hs]
          simp +contextual -dsimp -implicitDefEqProofs (maxSteps:=5000000) only [go_sem,reduceIte,reduceCtorEq,Nat.reduceEqDiff,Nat.reduceBEq,Nat.reduceAdd,Nat.reduceLeDiff,Nat.reduceMul,Nat.reduceLT,Int.reduceEq,Int.reduceLT,Int.reduceLE,hi,k7]
          refine (c_validChain p cl' i _ hi hp).det ?_
          cases hc : tryOkF (kindsP p (tailQ p (p.getD i default).depth (endP p i)))
          ·simp +contextual -dsimp -implicitDefEqProofs (maxSteps:=5000000) only [go_sem,reduceIte,reduceCtorEq,Nat.reduceEqDiff,Nat.reduceBEq,Nat.reduceAdd,Nat.reduceLeDiff,Nat.reduceMul,Nat.reduceLT,Int.reduceEq,Int.reduceLT,Int.reduceLE,hi,k7]
          ·simp +contextual -dsimp -implicitDefEqProofs (maxSteps:=5000000) only [go_sem,reduceIte,reduceCtorEq,Nat.reduceEqDiff,Nat.reduceBEq,Nat.reduceAdd,Nat.reduceLeDiff,Nat.reduceMul,Nat.reduceLT,Int.reduceEq,Int.reduceLT,Int.reduceLE,hi,k7]
           refine (c_follows _ _).det ?_
           rw [show followsK 7 = false from rfl]
           simp +contextual -dsimp -implicitDefEqProofs (maxSteps:=5000000) only [go_sem,reduceIte,reduceCtorEq,Nat.reduceEqDiff,Nat.reduceBEq,Nat.reduceAdd,Nat.reduceLeDiff,Nat.reduceMul,Nat.reduceLT,Int.reduceEq,Int.reduceLT,Int.reduceLE]
         ·by_cases k5 : (p.getD i default).kind = 5
          ·have hs : stOk p i = inLoopR (p.getD i default).depth (upto p i) := by
            unfold stOk; rw [k5]; simp only [show followsK 5 = false from rfl,decide_true,Bool.not_true,Bool.not_false,Bool.false_or,Bool.true_or,Bool.or_true,Bool.and_true,Bool.true_and,show ¬ (5 : Int) = 7 by decide,show ¬ (5 : Int) = 6 by decide,decide_false]
           rw [hs]
           simp +contextual -dsimp -implicitDefEqProofs (maxSteps:=5000000) only [go_sem,reduceIte,reduceCtorEq,Nat.reduceEqDiff,Nat.reduceBEq,Nat.reduceAdd,Nat.reduceLeDiff,Nat.reduceMul,Nat.reduceLT,Int.reduceEq,Int.reduceLT,Int.reduceLE,hi,k5]
           refine (c_inLoop p cl' i _ hi).det ?_
           cases hc : inLoopR (p.getD i default).depth (upto p i)
           ·simp +contextual -dsimp -implicitDefEqProofs (maxSteps:=5000000) only [go_sem,reduceIte,reduceCtorEq,Nat.reduceEqDiff,Nat.reduceBEq,Nat.reduceAdd,Nat.reduceLeDiff,Nat.reduceMul,Nat.reduceLT,Int.reduceEq,Int.reduceLT,Int.reduceLE,hi,k5]
           ·simp +contextual -dsimp -implicitDefEqProofs (maxSteps:=5000000) only [go_sem,reduceIte,reduceCtorEq,Nat.reduceEqDiff,Nat.reduceBEq,Nat.reduceAdd,Nat.reduceLeDiff,Nat.reduceMul,Nat.reduceLT,Int.reduceEq,Int.reduceLT,Int.reduceLE,hi,k5]
            refine (c_follows _ _).det ?_
            rw [show followsK 5 = false from rfl]
            simp +contextual -dsimp -implicitDefEqProofs (maxSteps:=5000000) only [go_sem,reduceIte,reduceCtorEq,Nat.reduceEqDiff,Nat.reduceBEq,Nat.reduceAdd,Nat.reduceLeDiff,Nat.reduceMul,Nat.reduceLT,Int.reduceEq,Int.reduceLT,Int.reduceLE]
          ·by_cases k6 : (p.getD i default).kind = 6
           ·have hs : stOk p i = inLoopR (p.getD i default).depth (upto p i) := by
             unfold stOk; rw [k6]; simp only [show followsK 6 = false from rfl,decide_true,Bool.not_true,Bool.not_false,Bool.false_or,Bool.true_or,Bool.or_true,Bool.and_true,Bool.true_and,show ¬ (6 : Int) = 7 by decide,show ¬ (6 : Int) = 5 by decide,decide_false]
            rw [hs]
            simp +contextual -dsimp -implicitDefEqProofs (maxSteps:=5000000) only [go_sem,reduceIte,reduceCtorEq,Nat.reduceEqDiff,Nat.reduceBEq,Nat.reduceAdd,Nat.reduceLeDiff,Nat.reduceMul,Nat.reduceLT,Int.reduceEq,Int.reduceLT,Int.reduceLE,hi,k6]
            refine (c_inLoop p cl' i _ hi).det ?_
            cases hc : inLoopR (p.getD i default).depth (upto p i)
            ·simp +contextual -dsimp -implicitDefEqProofs (maxSteps:=5000000) only [go_sem,reduceIte,reduceCtorEq,Nat.reduceEqDiff,Nat.reduceBEq,Nat.reduceAdd,Nat.reduceLeDiff,Nat.reduceMul,Nat.reduceLT,Int.reduceEq,Int.reduceLT,Int.reduceLE,hi,k6]
            ·simp +contextual -dsimp -implicitDefEqProofs (maxSteps:=5000000) only [go_sem,reduceIte,reduceCtorEq,Nat.reduceEqDiff,Nat.reduceBEq,Nat.reduceAdd,Nat.reduceLeDiff,Nat.reduceMul,Nat.reduceLT,Int.reduceEq,Int.reduceLT,Int.reduceLE,hi,k6]
             refine (c_follows _ _).det ?_
             rw [show followsK 6 = false from rfl]
             simp +contextual -dsimp -implicitDefEqProofs (maxSteps:=5000000) only [go_sem,reduceIte,reduceCtorEq,Nat.reduceEqDiff,Nat.reduceBEq,Nat.reduceAdd,Nat.reduceLeDiff,Nat.reduceMul,Nat.reduceLT,Int.reduceEq,Int.reduceLT,Int.reduceLE]
           ·have hs : stOk p i = (!followsK (p.getD i default).kind || headOkR (headR (p.getD i default).depth (upto p i))) := by
             unfold stOk; simp only [k7,k5,k6,decide_false,Bool.not_false,Bool.true_or,Bool.true_and,Bool.or_self]
            rw [hs]
            simp +contextual -dsimp -implicitDefEqProofs (maxSteps:=5000000) only [go_sem,reduceIte,reduceCtorEq,Nat.reduceEqDiff,Nat.reduceBEq,Nat.reduceAdd,Nat.reduceLeDiff,Nat.reduceMul,Nat.reduceLT,Int.reduceEq,Int.reduceLT,Int.reduceLE,hi,k5,k6,k7]
            refine (c_follows _ _).det ?_
            cases hf : followsK (p.getD i default).kind
            ·simp +contextual -dsimp -implicitDefEqProofs (maxSteps:=5000000) only [go_sem,reduceIte,reduceCtorEq,Nat.reduceEqDiff,Nat.reduceBEq,Nat.reduceAdd,Nat.reduceLeDiff,Nat.reduceMul,Nat.reduceLT,Int.reduceEq,Int.reduceLT,Int.reduceLE]
            ·simp +contextual -dsimp -implicitDefEqProofs (maxSteps:=5000000) only [go_sem,reduceIte,reduceCtorEq,Nat.reduceEqDiff,Nat.reduceBEq,Nat.reduceAdd,Nat.reduceLeDiff,Nat.reduceMul,Nat.reduceLT,Int.reduceEq,Int.reduceLT,Int.reduceLE,hi]
             refine (c_headOf p cl' i _ hi).mono ?_
             rintro _ _ ⟨v, rfl, rfl, hv⟩
             rcases hv with ⟨rfl, hv⟩ | ⟨k, rfl, hk, hv⟩
             ·rw [hv]
              have z : ¬ (0 : Int) ≤ -1 := by omega
              simp +contextual -dsimp -implicitDefEqProofs (maxSteps:=5000000) only [go_sem,reduceIte,reduceCtorEq,Nat.reduceEqDiff,Nat.reduceBEq,Nat.reduceAdd,Nat.reduceLeDiff,Nat.reduceMul,Nat.reduceLT,Int.reduceEq,Int.reduceLT,Int.reduceLE,z,headOkR]
             ·rw [hv]
              simp +contextual -dsimp -implicitDefEqProofs (maxSteps:=5000000) only [go_sem,reduceIte,reduceCtorEq,Nat.reduceEqDiff,Nat.reduceBEq,Nat.reduceAdd,Nat.reduceLeDiff,Nat.reduceMul,Nat.reduceLT,Int.reduceEq,Int.reduceLT,Int.reduceLE,hk,headOkR]
              by_cases q7 : (p.getD k default).kind = 7
              ·simp +contextual -dsimp -implicitDefEqProofs (maxSteps:=5000000) only [go_sem,reduceIte,reduceCtorEq,Nat.reduceEqDiff,Nat.reduceBEq,Nat.reduceAdd,Nat.reduceLeDiff,Nat.reduceMul,Nat.reduceLT,Int.reduceEq,Int.reduceLT,Int.reduceLE,q7]
              ·simp +contextual -dsimp -implicitDefEqProofs (maxSteps:=5000000) only [go_sem,reduceIte,reduceCtorEq,Nat.reduceEqDiff,Nat.reduceBEq,Nat.reduceAdd,Nat.reduceLeDiff,Nat.reduceMul,Nat.reduceLT,Int.reduceEq,Int.reduceLT,Int.reduceLE,q7,hk]
               refine (c_follows _ _).det ?_
               simp +contextual -dsimp -implicitDefEqProofs (maxSteps:=5000000) only [go_sem,reduceIte,reduceCtorEq,Nat.reduceEqDiff,Nat.reduceBEq,Nat.reduceAdd,Nat.reduceLeDiff,Nat.reduceMul,Nat.reduceLT,Int.reduceEq,Int.reduceLT,Int.reduceLE,q7]
               simp only [headOkR,q7,decide_false,Bool.false_or]
        ·rw [bad2 (ee true ho el)]
         simp +contextual -dsimp -implicitDefEqProofs (maxSteps:=5000000) only [go_sem,reduceIte,reduceCtorEq,Nat.reduceEqDiff,Nat.reduceBEq,Nat.reduceAdd,Nat.reduceLeDiff,Nat.reduceMul,Nat.reduceLT,Int.reduceEq,Int.reduceLT,Int.reduceLE,hi]
       ·have el' : ¬ ((i + 1 : Nat) : Int) = (p.length : Int) := by omega
        have hend := en el
        simp +contextual -dsimp -implicitDefEqProofs (maxSteps:=5000000) only [go_sem,reduceIte,reduceCtorEq,Nat.reduceEqDiff,Nat.reduceBEq,Nat.reduceAdd,Nat.reduceLeDiff,Nat.reduceMul,Nat.reduceLT,Int.reduceEq,Int.reduceLT,Int.reduceLE,hi,i0',i1,hwi,hi1,hwd,g,e,hw,el',hi2]
        rw [fin hrel hend]
        by_cases k7 : (p.getD i default).kind = 7
        ·have hs : stOk p i = tryOkF (kindsP p (tailQ p (p.getD i default).depth (endP p i))) := by
          unfold stOk; rw [k7]; simp only [show followsK 7 = false from rfl,decide_true,Bool.not_true,Bool.not_false,Bool.false_or,Bool.true_or,Bool.and_true,show ¬ (7 : Int) = 5 by decide,show ¬ (7 : Int) = 6 by decide,decide_false,Bool.or_self]
         rw [hs]
         simp +contextual -dsimp -implicitDefEqProofs (maxSteps:=5000000) only [go_sem,reduceIte,reduceCtorEq,Nat.reduceEqDiff,Nat.reduceBEq,Nat.reduceAdd,Nat.reduceLeDiff,Nat.reduceMul,Nat.reduceLT,Int.reduceEq,Int.reduceLT,Int.reduceLE,hi,k7]
         refine (c_validChain p cl' i _ hi hp).det ?_
         cases hc : tryOkF (kindsP p (tailQ p (p.getD i default).depth (endP p i)))
         ·simp +contextual -dsimp -implicitDefEqProofs (maxSteps:=5000000) only [go_sem,reduceIte,reduceCtorEq,Nat.reduceEqDiff,Nat.reduceBEq,Nat.reduceAdd,Nat.reduceLeDiff,Nat.reduceMul,Nat.reduceLT,Int.reduceEq,Int.reduceLT,Int.reduceLE,hi,k7]
         ·simp +contextual -dsimp -implicitDefEqProofs (maxSteps:=5000000) only [go_sem,reduceIte,reduceCtorEq,Nat.reduceEqDiff,Nat.reduceBEq,Nat.reduceAdd,Nat.reduceLeDiff,Nat.reduceMul,Nat.reduceLT,Int.reduceEq,Int.reduceLT,Int.reduceLE,hi,k7]
          refine (c_follows _ _).det ?_
          rw [show followsK 7 = false from rfl]
          simp +contextual -dsimp -implicitDefEqProofs (maxSteps:=5000000) only [go_sem,reduceIte,reduceCtorEq,Nat.reduceEqDiff,Nat.reduceBEq,Nat.reduceAdd,Nat.reduceLeDiff,Nat.reduceMul,Nat.reduceLT,Int.reduceEq,Int.reduceLT,Int.reduceLE]
        ·by_cases k5 : (p.getD i default).kind = 5
         ·have hs : stOk p i = inLoopR (p.getD i default).depth (upto p i) := by
           unfold stOk; rw [k5]; simp only [show followsK 5 = false from rfl,decide_true,Bool.not_true,Bool.not_false,Bool.false_or,Bool.true_or,Bool.or_true,Bool.and_true,Bool.true_and,show ¬ (5 : Int) = 7 by decide,show ¬ (5 : Int) = 6 by decide,decide_false]
          rw [hs]
          simp +contextual -dsimp -implicitDefEqProofs (maxSteps:=5000000) only [go_sem,reduceIte,reduceCtorEq,Nat.reduceEqDiff,Nat.reduceBEq,Nat.reduceAdd,Nat.reduceLeDiff,Nat.reduceMul,Nat.reduceLT,Int.reduceEq,Int.reduceLT,Int.reduceLE,hi,k5]
          refine (c_inLoop p cl' i _ hi).det ?_
          cases hc : inLoopR (p.getD i default).depth (upto p i)
          ·simp +contextual -dsimp -implicitDefEqProofs (maxSteps:=5000000) only [go_sem,reduceIte,reduceCtorEq,Nat.reduceEqDiff,Nat.reduceBEq,Nat.reduceAdd,Nat.reduceLeDiff,Nat.reduceMul,Nat.reduceLT,Int.reduceEq,Int.reduceLT,Int.reduceLE,hi,k5]
          ·simp +contextual -dsimp -implicitDefEqProofs (maxSteps:=5000000) only [go_sem,reduceIte,reduceCtorEq,Nat.reduceEqDiff,Nat.reduceBEq,Nat.reduceAdd,Nat.reduceLeDiff,Nat.reduceMul,Nat.reduceLT,Int.reduceEq,Int.reduceLT,Int.reduceLE,hi,k5]
           refine (c_follows _ _).det ?_
           rw [show followsK 5 = false from rfl]
           simp +contextual -dsimp -implicitDefEqProofs (maxSteps:=5000000) only [go_sem,reduceIte,reduceCtorEq,Nat.reduceEqDiff,Nat.reduceBEq,Nat.reduceAdd,Nat.reduceLeDiff,Nat.reduceMul,Nat.reduceLT,Int.reduceEq,Int.reduceLT,Int.reduceLE]
         ·by_cases k6 : (p.getD i default).kind = 6
          ·have hs : stOk p i = inLoopR (p.getD i default).depth (upto p i) := by
            unfold stOk; rw [k6]; simp only [show followsK 6 = false from rfl,decide_true,Bool.not_true,Bool.not_false,Bool.false_or,Bool.true_or,Bool.or_true,Bool.and_true,Bool.true_and,show ¬ (6 : Int) = 7 by decide,show ¬ (6 : Int) = 5 by decide,decide_false]
           rw [hs]
           simp +contextual -dsimp -implicitDefEqProofs (maxSteps:=5000000) only [go_sem,reduceIte,reduceCtorEq,Nat.reduceEqDiff,Nat.reduceBEq,Nat.reduceAdd,Nat.reduceLeDiff,Nat.reduceMul,Nat.reduceLT,Int.reduceEq,Int.reduceLT,Int.reduceLE,hi,k6]
           refine (c_inLoop p cl' i _ hi).det ?_
           cases hc : inLoopR (p.getD i default).depth (upto p i)
           ·simp +contextual -dsimp -implicitDefEqProofs (maxSteps:=5000000) only [go_sem,reduceIte,reduceCtorEq,Nat.reduceEqDiff,Nat.reduceBEq,Nat.reduceAdd,Nat.reduceLeDiff,Nat.reduceMul,Nat.reduceLT,Int.reduceEq,Int.reduceLT,Int.reduceLE,hi,k6]
           ·simp +contextual -dsimp -implicitDefEqProofs (maxSteps:=5000000) only [go_sem,reduceIte,reduceCtorEq,Nat.reduceEqDiff,Nat.reduceBEq,Nat.reduceAdd,Nat.reduceLeDiff,Nat.reduceMul,Nat.reduceLT,Int.reduceEq,Int.reduceLT,Int.reduceLE,hi,k6]
            refine (c_follows _ _).det ?_
            rw [show followsK 6 = false from rfl]
            simp +contextual -dsimp -implicitDefEqProofs (maxSteps:=5000000) only [go_sem,reduceIte,reduceCtorEq,Nat.reduceEqDiff,Nat.reduceBEq,Nat.reduceAdd,Nat.reduceLeDiff,Nat.reduceMul,Nat.reduceLT,Int.reduceEq,Int.reduceLT,Int.reduceLE]
          ·have hs : stOk p i = (!followsK (p.getD i default).kind || headOkR (headR (p.getD i default).depth (upto p i))) := by
            unfold stOk; simp only [k7,k5,k6,decide_false,Bool.not_false,Bool.true_or,Bool.true_and,Bool.or_self]
           rw [hs]
           simp +contextual -dsimp -implicitDefEqProofs (maxSteps:=5000000) only [go_sem,reduceIte,reduceCtorEq,Nat.reduceEqDiff,Nat.reduceBEq,Nat.reduceAdd,Nat.reduceLeDiff,Nat.reduceMul,Nat.reduceLT,Int.reduceEq,Int.reduceLT,Int.reduceLE,hi,k5,k6,k7]
           refine (c_follows _ _).det ?_
           cases hf : followsK (p.getD i default).kind
           ·simp +contextual -dsimp -implicitDefEqProofs (maxSteps:=5000000) only [go_sem,reduceIte,reduceCtorEq,Nat.reduceEqDiff,Nat.reduceBEq,Nat.reduceAdd,Nat.reduceLeDiff,Nat.reduceMul,Nat.reduceLT,Int.reduceEq,Int.reduceLT,Int.reduceLE]
           ·simp +contextual -dsimp -implicitDefEqProofs (maxSteps:=5000000) only [go_sem,reduceIte,reduceCtorEq,Nat.reduceEqDiff,Nat.reduceBEq,Nat.reduceAdd,Nat.reduceLeDiff,Nat.reduceMul,Nat.reduceLT,Int.reduceEq,Int.reduceLT,Int.reduceLE,hi]
            refine (c_headOf p cl' i _ hi).mono ?_
            rintro _ _ ⟨v, rfl, rfl, hv⟩
            rcases hv with ⟨rfl, hv⟩ | ⟨k, rfl, hk, hv⟩
            ·rw [hv]
             have z : ¬ (0 : Int) ≤ -1 := by omega
             simp +contextual -dsimp -implicitDefEqProofs (maxSteps:=5000000) only [go_sem,reduceIte,reduceCtorEq,Nat.reduceEqDiff,Nat.reduceBEq,Nat.reduceAdd,Nat.reduceLeDiff,Nat.reduceMul,Nat.reduceLT,Int.reduceEq,Int.reduceLT,Int.reduceLE,z,headOkR]
            ·rw [hv]
             simp +contextual -dsimp -implicitDefEqProofs (maxSteps:=5000000) only [go_sem,reduceIte,reduceCtorEq,Nat.reduceEqDiff,Nat.reduceBEq,Nat.reduceAdd,Nat.reduceLeDiff,Nat.reduceMul,Nat.reduceLT,Int.reduceEq,Int.reduceLT,Int.reduceLE,hk,headOkR]
             by_cases q7 : (p.getD k default).kind = 7
             ·simp +contextual -dsimp -implicitDefEqProofs (maxSteps:=5000000) only [go_sem,reduceIte,reduceCtorEq,Nat.reduceEqDiff,Nat.reduceBEq,Nat.reduceAdd,Nat.reduceLeDiff,Nat.reduceMul,Nat.reduceLT,Int.reduceEq,Int.reduceLT,Int.reduceLE,q7]
             ·simp +contextual -dsimp -implicitDefEqProofs (maxSteps:=5000000) only [go_sem,reduceIte,reduceCtorEq,Nat.reduceEqDiff,Nat.reduceBEq,Nat.reduceAdd,Nat.reduceLeDiff,Nat.reduceMul,Nat.reduceLT,Int.reduceEq,Int.reduceLT,Int.reduceLE,q7,hk]
              refine (c_follows _ _).det ?_
              simp +contextual -dsimp -implicitDefEqProofs (maxSteps:=5000000) only [go_sem,reduceIte,reduceCtorEq,Nat.reduceEqDiff,Nat.reduceBEq,Nat.reduceAdd,Nat.reduceLeDiff,Nat.reduceMul,Nat.reduceLT,Int.reduceEq,Int.reduceLT,Int.reduceLE,q7]
              simp only [headOkR,q7,decide_false,Bool.false_or]
     ·cases ho : opensK (p.getD (i - 1) default).kind
      ·have hrel : relOk p i = true := by
        rw [er]; unfold stepOk; rw [ho, if_neg (by decide)]; exact decide_eq_true (by omega)
       by_cases el : i + 1 = p.length
       ·have el' : (p.length : Int) = ((i + 1 : Nat) : Int) := by omega
        simp +contextual -dsimp -implicitDefEqProofs (maxSteps:=5000000) only [go_sem,reduceIte,reduceCtorEq,Nat.reduceEqDiff,Nat.reduceBEq,Nat.reduceAdd,Nat.reduceLeDiff,Nat.reduceMul,Nat.reduceLT,Int.reduceEq,Int.reduceLT,Int.reduceLE,hi,i0',i1,hwi,hi1,hwd,g,e,hw,el',hi2]
        refine (c_opens _ _).det ?_
        cases ho : opensK (p.getD i default).kind
        ·have hend := ee false ho el
         simp +contextual -dsimp -implicitDefEqProofs (maxSteps:=5000000) only [go_sem,reduceIte,reduceCtorEq,Nat.reduceEqDiff,Nat.reduceBEq,Nat.reduceAdd,Nat.reduceLeDiff,Nat.reduceMul,Nat.reduceLT,Int.reduceEq,Int.reduceLT,Int.reduceLE,hi]
         rw [fin hrel hend]
         by_cases k7 : (p.getD i default).kind = 7
         ·have hs : stOk p i = tryOkF (kindsP p (tailQ p (p.getD i default).depth (endP p i))) := by
           unfold stOk; rw [k7]; simp only [show followsK 7 = false from rfl,decide_true,Bool.not_true,Bool.not_false,Bool.false_or,Bool.true_or,Bool.and_true,show ¬ (7 : Int) = 5 by decide,show ¬ (7 : Int) = 6 by decide,decide_false,Bool.or_self]
          rw [hs]
          simp +contextual -dsimp -implicitDefEqProofs (maxSteps:=5000000) only [go_sem,reduceIte,reduceCtorEq,Nat.reduceEqDiff,Nat.reduceBEq,Nat.reduceAdd,Nat.reduceLeDiff,Nat.reduceMul,Nat.reduceLT,Int.reduceEq,Int.reduceLT,Int.reduceLE,hi,k7]
          refine (c_validChain p cl' i _ hi hp).det ?_
          cases hc : tryOkF (kindsP p (tailQ p (p.getD i default).depth (endP p i)))
          ·simp +contextual -dsimp -implicitDefEqProofs (maxSteps:=5000000) only [go_sem,reduceIte,reduceCtorEq,Nat.reduceEqDiff,Nat.reduceBEq,Nat.reduceAdd,Nat.reduceLeDiff,Nat.reduceMul,Nat.reduceLT,Int.reduceEq,Int.reduceLT,Int.reduceLE,hi,k7]
          ·simp +contextual -dsimp -implicitDefEqProofs (maxSteps:=5000000) only [go_sem,reduceIte,reduceCtorEq,Nat.reduceEqDiff,Nat.reduceBEq,Nat.reduceAdd,Nat.reduceLeDiff,Nat.reduceMul,Nat.reduceLT,Int.reduceEq,Int.reduceLT,Int.reduceLE,hi,k7]
           refine (c_follows _ _).det ?_
           rw [show followsK 7 = false from rfl]
           simp +contextual -dsimp -implicitDefEqProofs (maxSteps:=5000000) only [go_sem,reduceIte,reduceCtorEq,Nat.reduceEqDiff,Nat.reduceBEq,Nat.reduceAdd,Nat.reduceLeDiff,Nat.reduceMul,Nat.reduceLT,Int.reduceEq,Int.reduceLT,Int.reduceLE]
         ·by_cases k5 : (p.getD i default).kind = 5
          ·have hs : stOk p i = inLoopR (p.getD i default).depth (upto p i) := by
            unfold stOk; rw [k5]; simp only [show followsK 5 = false from rfl,decide_true,Bool.not_true,Bool.not_false,Bool.false_or,Bool.true_or,Bool.or_true,Bool.and_true,Bool.true_and,show ¬ (5 : Int) = 7 by decide,show ¬ (5 : Int) = 6 by decide,decide_false]
           rw [hs]
           simp +contextual -dsimp -implicitDefEqProofs (maxSteps:=5000000) only [go_sem,reduceIte,reduceCtorEq,Nat.reduceEqDiff,Nat.reduceBEq,Nat.reduceAdd,Nat.reduceLeDiff,Nat.reduceMul,Nat.reduceLT,Int.reduceEq,Int.reduceLT,Int.reduceLE,hi,k5]
           refine (c_inLoop p cl' i _ hi).det ?_
           cases hc : inLoopR (p.getD i default).depth (upto p i)
           ·simp +contextual -dsimp -implicitDefEqProofs (maxSteps:=5000000) only [go_sem,reduceIte,reduceCtorEq,Nat.reduceEqDiff,Nat.reduceBEq,Nat.reduceAdd,Nat.reduceLeDiff,Nat.reduceMul,Nat.reduceLT,Int.reduceEq,Int.reduceLT,Int.reduceLE,hi,k5]
           ·simp +contextual -dsimp -implicitDefEqProofs (maxSteps:=5000000) only [go_sem,reduceIte,reduceCtorEq,Nat.reduceEqDiff,Nat.reduceBEq,Nat.reduceAdd,Nat.reduceLeDiff,Nat.reduceMul,Nat.reduceLT,Int.reduceEq,Int.reduceLT,Int.reduceLE,hi,k5]
            refine (c_follows _ _).det ?_
            rw [show followsK 5 = false from rfl]
            simp +contextual -dsimp -implicitDefEqProofs (maxSteps:=5000000) only [go_sem,reduceIte,reduceCtorEq,Nat.reduceEqDiff,Nat.reduceBEq,Nat.reduceAdd,Nat.reduceLeDiff,Nat.reduceMul,Nat.reduceLT,Int.reduceEq,Int.reduceLT,Int.reduceLE]
          ·by_cases k6 : (p.getD i default).kind = 6
           ·have hs : stOk p i = inLoopR (p.getD i default).depth (upto p i) := by
             unfold stOk; rw [k6]; simp only [show followsK 6 = false from rfl,decide_true,Bool.not_true,Bool.not_false,Bool.false_or,Bool.true_or,Bool.or_true,Bool.and_true,Bool.true_and,show ¬ (6 : Int) = 7 by decide,show ¬ (6 : Int) = 5 by decide,decide_false]
            rw [hs]
            simp +contextual -dsimp -implicitDefEqProofs (maxSteps:=5000000) only [go_sem,reduceIte,reduceCtorEq,Nat.reduceEqDiff,Nat.reduceBEq,Nat.reduceAdd,Nat.reduceLeDiff,Nat.reduceMul,Nat.reduceLT,Int.reduceEq,Int.reduceLT,Int.reduceLE,hi,k6]
            refine (c_inLoop p cl' i _ hi).det ?_
            cases hc : inLoopR (p.getD i default).depth (upto p i)
            ·simp +contextual -dsimp -implicitDefEqProofs (maxSteps:=5000000) only [go_sem,reduceIte,reduceCtorEq,Nat.reduceEqDiff,Nat.reduceBEq,Nat.reduceAdd,Nat.reduceLeDiff,Nat.reduceMul,Nat.reduceLT,Int.reduceEq,Int.reduceLT,Int.reduceLE,hi,k6]
            ·simp +contextual -dsimp -implicitDefEqProofs (maxSteps:=5000000) only [go_sem,reduceIte,reduceCtorEq,Nat.reduceEqDiff,Nat.reduceBEq,Nat.reduceAdd,Nat.reduceLeDiff,Nat.reduceMul,Nat.reduceLT,Int.reduceEq,Int.reduceLT,Int.reduceLE,hi,k6]
             refine (c_follows _ _).det ?_
             rw [show followsK 6 = false from rfl]
             simp +contextual -dsimp -implicitDefEqProofs (maxSteps:=5000000) only [go_sem,reduceIte,reduceCtorEq,Nat.reduceEqDiff,Nat.reduceBEq,Nat.reduceAdd,Nat.reduceLeDiff,Nat.reduceMul,Nat.reduceLT,Int.reduceEq,Int.reduceLT,Int.reduceLE]
           ·have hs : stOk p i = (!followsK (p.getD i default).kind || headOkR (headR (p.getD i default).depth (upto p i))) := by
             unfold stOk; simp only [k7,k5,k6,decide_false,Bool.not_false,Bool.true_or,Bool.true_and,Bool.or_self]
            rw [hs]
            simp +contextual -dsimp -implicitDefEqProofs (maxSteps:=5000000) only [go_sem,reduceIte,reduceCtorEq,Nat.reduceEqDiff,Nat.reduceBEq,Nat.reduceAdd,Nat.reduceLeDiff,Nat.reduceMul,Nat.reduceLT,Int.reduceEq,Int.reduceLT,Int.reduceLE,hi,k5,k6,k7]
            refine (c_follows _ _).det ?_
            cases hf : followsK (p.getD i default).kind
            ·simp +contextual -dsimp -implicitDefEqProofs (maxSteps:=5000000) only [go_sem,reduceIte,reduceCtorEq,Nat.reduceEqDiff,Nat.reduceBEq,Nat.reduceAdd,Nat.reduceLeDiff,Nat.reduceMul,Nat.reduceLT,Int.reduceEq,Int.reduceLT,Int.reduceLE]
            ·simp +contextual -dsimp -implicitDefEqProofs (maxSteps:=5000000) only [go_sem,reduceIte,reduceCtorEq,Nat.reduceEqDiff,Nat.reduceBEq,Nat.reduceAdd,Nat.reduceLeDiff,Nat.reduceMul,Nat.reduceLT,Int.reduceEq,Int.reduceLT,Int.reduceLE,hi]
             refine (c_headOf p cl' i _ hi).mono ?_
             rintro _ _ ⟨v, rfl, rfl, hv⟩
             rcases hv with ⟨rfl, hv⟩ | ⟨k, rfl, hk, hv⟩
             ·rw [hv]
              have z : ¬ (0 : Int) ≤ -1 := by omega
              simp +contextual -dsimp -implicitDefEqProofs (maxSteps:=5000000) only [go_sem,reduceIte,reduceCtorEq,Nat.reduceEqDiff,Nat.reduceBEq,Nat.reduceAdd,Nat.reduceLeDiff,Nat.reduceMul,Nat.reduceLT,Int.reduceEq,Int.reduceLT,Int.reduceLE,z,headOkR]
             ·rw [hv]
              simp +contextual -dsimp -implicitDefEqProofs (maxSteps:=5000000) only [go_sem,reduceIte,reduceCtorEq,Nat.reduceEqDiff,Nat.reduceBEq,Nat.reduceAdd,Nat.reduceLeDiff,Nat.reduceMul,Nat.reduceLT,Int.reduceEq,Int.reduceLT,Int.reduceLE,hk,headOkR]
              by_cases q7 : (p.getD k default).kind = 7
              ·simp +contextual -dsimp -implicitDefEqProofs (maxSteps:=5000000) only [go_sem,reduceIte,reduceCtorEq,Nat.reduceEqDiff,Nat.reduceBEq,Nat.reduceAdd,Nat.reduceLeDiff,Nat.reduceMul,Nat.reduceLT,Int.reduceEq,Int.reduceLT,Int.reduceLE,q7]
              ·simp +contextual -dsimp -implicitDefEqProofs (maxSteps:=5000000) only [go_sem,reduceIte,reduceCtorEq,Nat.reduceEqDiff,Nat.reduceBEq,Nat.reduceAdd,Nat.reduceLeDiff,Nat.reduceMul,Nat.reduceLT,Int.reduceEq,Int.reduceLT,Int.reduceLE,q7,hk]
               refine (c_follows _ _).det ?_
               simp +contextual -dsimp -implicitDefEqProofs (maxSteps:=5000000) only [go_sem,reduceIte,reduceCtorEq,Nat.reduceEqDiff,Nat.reduceBEq,Nat.reduceAdd,Nat.reduceLeDiff,Nat.reduceMul,Nat.reduceLT,Int.reduceEq,Int.reduceLT,Int.reduceLE,q7]
               simp only [headOkR,q7,decide_false,Bool.false_or]
        ·rw [bad2 (ee true ho el)]
         simp +contextual -dsimp -implicitDefEqProofs (maxSteps:=5000000) only [go_sem,reduceIte,reduceCtorEq,Nat.reduceEqDiff,Nat.reduceBEq,Nat.reduceAdd,Nat.reduceLeDiff,Nat.reduceMul,Nat.reduceLT,Int.reduceEq,Int.reduceLT,Int.reduceLE,hi]
       ·have el' : ¬ ((i + 1 : Nat) : Int) = (p.length : Int) := by omega
        have hend := en el
        simp +contextual -dsimp -implicitDefEqProofs (maxSteps:=5000000) only [go_sem,reduceIte,reduceCtorEq,Nat.reduceEqDiff,Nat.reduceBEq,Nat.reduceAdd,Nat.reduceLeDiff,Nat.reduceMul,Nat.reduceLT,Int.reduceEq,Int.reduceLT,Int.reduceLE,hi,i0',i1,hwi,hi1,hwd,g,e,hw,el',hi2]
        rw [fin hrel hend]
        by_cases k7 : (p.getD i default).kind = 7
        ·have hs : stOk p i = tryOkF (kindsP p (tailQ p (p.getD i default).depth (endP p i))) := by
          unfold stOk; rw [k7]; simp only [show followsK 7 = false from rfl,decide_true,Bool.not_true,Bool.not_false,Bool.false_or,Bool.true_or,Bool.and_true,show ¬ (7 : Int) = 5 by decide,show ¬ (7 : Int) = 6 by decide,decide_false,Bool.or_self]
         rw [hs]
         simp +contextual -dsimp -implicitDefEqProofs (maxSteps:=5000000) only [go_sem,reduceIte,reduceCtorEq,Nat.reduceEqDiff,Nat.reduceBEq,Nat.reduceAdd,Nat.reduceLeDiff,Nat.reduceMul,Nat.reduceLT,Int.reduceEq,Int.reduceLT,Int.reduceLE,hi,k7]
         refine (c_validChain p cl' i _ hi hp).det ?_
         cases hc : tryOkF (kindsP p (tailQ p (p.getD i default).depth (endP p i)))
         ·simp +contextual -dsimp -implicitDefEqProofs (maxSteps:=5000000) only [go_sem,reduceIte,reduceCtorEq,Nat.reduceEqDiff,Nat.reduceBEq,Nat.reduceAdd,Nat.reduceLeDiff,Nat.reduceMul,Nat.reduceLT,Int.reduceEq,Int.reduceLT,Int.reduceLE,hi,k7]
         ·simp +contextual -dsimp -implicitDefEqProofs (maxSteps:=5000000) only [go_sem,reduceIte,reduceCtorEq,Nat.reduceEqDiff,Nat.reduceBEq,Nat.reduceAdd,Nat.reduceLeDiff,Nat.reduceMul,Nat.reduceLT,Int.reduceEq,Int.reduceLT,Int.reduceLE,hi,k7]
          refine (c_follows _ _).det ?_
          rw [show followsK 7 = false from rfl]
          simp +contextual -dsimp -implicitDefEqProofs (maxSteps:=5000000) only [go_sem,reduceIte,reduceCtorEq,Nat.reduceEqDiff,Nat.reduceBEq,Nat.reduceAdd,Nat.reduceLeDiff,Nat.reduceMul,Nat.reduceLT,Int.reduceEq,Int.reduceLT,Int.reduceLE]
        ·by_cases k5 : (p.getD i default).kind = 5
         ·have hs : stOk p i = inLoopR (p.getD i default).depth (upto p i) := by
           unfold stOk; rw [k5]; simp only [show followsK 5 = false from rfl,decide_true,Bool.not_true,Bool.not_false,Bool.false_or,Bool.true_or,Bool.or_true,Bool.and_true,Bool.true_and,show ¬ (5 : Int) = 7 by decide,show ¬ (5 : Int) = 6 by decide,decide_false]
          rw [hs]
          simp +contextual -dsimp -implicitDefEqProofs (maxSteps:=5000000) only [go_sem,reduceIte,reduceCtorEq,Nat.reduceEqDiff,Nat.reduceBEq,Nat.reduceAdd,Nat.reduceLeDiff,Nat.reduceMul,Nat.reduceLT,Int.reduceEq,Int.reduceLT,Int.reduceLE,hi,k5]
          refine (c_inLoop p cl' i _ hi).det ?_
          cases hc : inLoopR (p.getD i default).depth (upto p i)
          ·simp +contextual -dsimp -implicitDefEqProofs (maxSteps:=5000000) only [go_sem,reduceIte,reduceCtorEq,Nat.reduceEqDiff,Nat.reduceBEq,Nat.reduceAdd,Nat.reduceLeDiff,Nat.reduceMul,Nat.reduceLT,Int.reduceEq,Int.reduceLT,Int.reduceLE,hi,k5]
          ·simp +contextual -dsimp -implicitDefEqProofs (maxSteps:=5000000) only [go_sem,reduceIte,reduceCtorEq,Nat.reduceEqDiff,Nat.reduceBEq,Nat.reduceAdd,Nat.reduceLeDiff,Nat.reduceMul,Nat.reduceLT,Int.reduceEq,Int.reduceLT,Int.reduceLE,hi,k5]
           refine (c_follows _ _).det ?_
           rw [show followsK 5 = false from rfl]
           simp +contextual -dsimp -implicitDefEqProofs (maxSteps:=5000000) only [go_sem,reduceIte,reduceCtorEq,Nat.reduceEqDiff,Nat.reduceBEq,Nat.reduceAdd,Nat.reduceLeDiff,Nat.reduceMul,Nat.reduceLT,Int.reduceEq,Int.reduceLT,Int.reduceLE]
         ·by_cases k6 : (p.getD i default).kind = 6
          ·have hs : stOk p i = inLoopR (p.getD i default).depth (upto p i) := by
            unfold stOk; rw [k6]; simp only [show followsK 6 = false from rfl,decide_true,Bool.not_true,Bool.not_false,Bool.false_or,Bool.true_or,Bool.or_true,Bool.and_true,Bool.true_and,show ¬ (6 : Int) = 7 by decide,show ¬ (6 : Int) = 5 by decide,decide_false]
           rw [hs]
           simp +contextual -dsimp -implicitDefEqProofs (maxSteps:=5000000) only [go_sem,reduceIte,reduceCtorEq,Nat.reduceEqDiff,Nat.reduceBEq,Nat.reduceAdd,Nat.reduceLeDiff,Nat.reduceMul,Nat.reduceLT,Int.reduceEq,Int.reduceLT,Int.reduceLE,hi,k6]
           refine (c_inLoop p cl' i _ hi).det ?_
           cases hc : inLoopR (p.getD i default).depth (upto p i)
           ·simp +contextual -dsimp -implicitDefEqProofs (maxSteps:=5000000) only [go_sem,reduceIte,reduceCtorEq,Nat.reduceEqDiff,Nat.reduceBEq,Nat.reduceAdd,Nat.reduceLeDiff,Nat.reduceMul,Nat.reduceLT,Int.reduceEq,Int.reduceLT,Int.reduceLE,hi,k6]
           ·simp +contextual -dsimp -implicitDefEqProofs (maxSteps:=5000000) only [go_sem,reduceIte,reduceCtorEq,Nat.reduceEqDiff,Nat.reduceBEq,Nat.reduceAdd,Nat.reduceLeDiff,Nat.reduceMul,Nat.reduceLT,Int.reduceEq,Int.reduceLT,Int.reduceLE,hi,k6]
            refine (c_follows _ _).det ?_
            rw [show followsK 6 = false from rfl]
            simp +contextual -dsimp -implicitDefEqProofs (maxSteps:=5000000) only [go_sem,reduceIte,reduceCtorEq,Nat.reduceEqDiff,Nat.reduceBEq,Nat.reduceAdd,Nat.reduceLeDiff,Nat.reduceMul,Nat.reduceLT,Int.reduceEq,Int.reduceLT,Int.reduceLE]
          ·have hs : stOk p i = (!followsK (p.getD i default).kind || headOkR (headR (p.getD i default).depth (upto p i))) := by
            unfold stOk; simp only [k7,k5,k6,decide_false,Bool.not_false,Bool.true_or,Bool.true_and,Bool.or_self]
           rw [hs]
           simp +contextual -dsimp -implicitDefEqProofs (maxSteps:=5000000) only [go_sem,reduceIte,reduceCtorEq,Nat.reduceEqDiff,Nat.reduceBEq,Nat.reduceAdd,Nat.reduceLeDiff,Nat.reduceMul,Nat.reduceLT,Int.reduceEq,Int.reduceLT,Int.reduceLE,hi,k5,k6,k7]
           refine (c_follows _ _).det ?_
           cases hf : followsK (p.getD i default).kind
           ·simp +contextual -dsimp -implicitDefEqProofs (maxSteps:=5000000) only [go_sem,reduceIte,reduceCtorEq,Nat.reduceEqDiff,Nat.reduceBEq,Nat.reduceAdd,Nat.reduceLeDiff,Nat.reduceMul,Nat.reduceLT,Int.reduceEq,Int.reduceLT,Int.reduceLE]
           ·simp +contextual -dsimp -implicitDefEqProofs (maxSteps:=5000000) only [go_sem,reduceIte,reduceCtorEq,Nat.reduceEqDiff,Nat.reduceBEq,Nat.reduceAdd,Nat.reduceLeDiff,Nat.reduceMul,Nat.reduceLT,Int.reduceEq,Int.reduceLT,Int.reduceLE,hi]
            refine (c_headOf p cl' i _ hi).mono ?_
            rintro _ _ ⟨v, rfl, rfl, hv⟩
            rcases hv with ⟨rfl, hv⟩ | ⟨k, rfl, hk, hv⟩
            ·rw [hv]
             have z : ¬ (0 : Int) ≤ -1 := by omega
             simp +contextual -dsimp -implicitDefEqProofs (maxSteps:=5000000) only [go_sem,reduceIte,reduceCtorEq,Nat.reduceEqDiff,Nat.reduceBEq,Nat.reduceAdd,Nat.reduceLeDiff,Nat.reduceMul,Nat.reduceLT,Int.reduceEq,Int.reduceLT,Int.reduceLE,z,headOkR]
            ·rw [hv]
             simp +contextual -dsimp -implicitDefEqProofs (maxSteps:=5000000) only [go_sem,reduceIte,reduceCtorEq,Nat.reduceEqDiff,Nat.reduceBEq,Nat.reduceAdd,Nat.reduceLeDiff,Nat.reduceMul,Nat.reduceLT,Int.reduceEq,Int.reduceLT,Int.reduceLE,hk,headOkR]
             by_cases q7 : (p.getD k default).kind = 7
             ·simp +contextual -dsimp -implicitDefEqProofs (maxSteps:=5000000) only [go_sem,reduceIte,reduceCtorEq,Nat.reduceEqDiff,Nat.reduceBEq,Nat.reduceAdd,Nat.reduceLeDiff,Nat.reduceMul,Nat.reduceLT,Int.reduceEq,Int.reduceLT,Int.reduceLE,q7]
             ·simp +contextual -dsimp -implicitDefEqProofs (maxSteps:=5000000) only [go_sem,reduceIte,reduceCtorEq,Nat.reduceEqDiff,Nat.reduceBEq,Nat.reduceAdd,Nat.reduceLeDiff,Nat.reduceMul,Nat.reduceLT,Int.reduceEq,Int.reduceLT,Int.reduceLE,q7,hk]
              refine (c_follows _ _).det ?_
              simp +contextual -dsimp -implicitDefEqProofs (maxSteps:=5000000) only [go_sem,reduceIte,reduceCtorEq,Nat.reduceEqDiff,Nat.reduceBEq,Nat.reduceAdd,Nat.reduceLeDiff,Nat.reduceMul,Nat.reduceLT,Int.reduceEq,Int.reduceLT,Int.reduceLE,q7]
              simp only [headOkR,q7,decide_false,Bool.false_or]
      ·have hb : relOk p i = false := by
        rw [er]; unfold stepOk; rw [ho, if_pos rfl]; exact decide_eq_false e
       simp +contextual -dsimp -implicitDefEqProofs (maxSteps:=5000000) only [go_sem,reduceIte,reduceCtorEq,Nat.reduceEqDiff,Nat.reduceBEq,Nat.reduceAdd,Nat.reduceLeDiff,Nat.reduceMul,Nat.reduceLT,Int.reduceEq,Int.reduceLT,Int.reduceLE,hi,i0',i1,hwi,hi1,hwd,g,e,bad1 hb]
theorem lastI_eq {t : List Class} {p : List Line} : (∀ i, i < p.length → lineOk t p i = true) ↔ ((depT t p = true ∧ (p ≠ [] → (p.getD 0 default).depth = 0)) ∧ ∀ i, i < p.length → stOk p i = true) := by
 rw [depT_iff]
 simp only [lineOk,Bool.and_eq_true]
 constructor
 ·intro h
  refine ⟨⟨⟨fun i hi => (h i hi).1, fun i hi => ?_, fun hne => ?_⟩, fun hne => ?_⟩, fun i hi => (h i hi).2.2⟩
  ·have := (h (i + 1) hi).2.1.1
   unfold relOk at this
   rw [if_neg (by omega), Nat.add_sub_cancel] at this
   exact this
  ·have hl := List.length_pos_iff.2 hne
   have := (h (p.length - 1) (by omega)).2.1.2
   unfold endOk at this
   rw [decide_eq_true (show p.length - 1 + 1 = p.length by omega), Bool.true_and, Bool.not_eq_true'] at this
   exact this
  ·have hl := List.length_pos_iff.2 hne
   have := (h 0 hl).2.1.1
   unfold relOk at this
   rw [if_pos rfl] at this
   simpa using this
 ·rintro ⟨⟨⟨h1, h2, h3⟩, h4⟩, h5⟩ i hi
  have hne : p ≠ [] := fun q => by rw [q] at hi; cases hi
  refine ⟨h1 i hi, ⟨?_, ?_⟩, h5 i hi⟩
  ·unfold relOk
   split
   ·rename_i i0; subst i0; simpa using h4 hne
   ·have := h2 (i - 1) (by omega)
    rw [show i - 1 + 1 = i by omega] at this
    exact this
  ·unfold endOk
   by_cases e : i + 1 = p.length
   ·have := h3 hne
    rw [show p.length - 1 = i by omega] at this
    rw [this]; simp
   ·rw [decide_eq_false e]; rfl
theorem validP_lines (t : List Class) (p : List Line) : ValidP t p ↔ ((∀ i, i < p.length → lineOk t p i = true) ∧ validT t = true ∧ p.length ≤ 24) := by
 rw [lastI_eq]
 constructor
 ·rintro ⟨h1, h2, f, rfl, h3, h4⟩
  refine ⟨⟨⟨?_, fun hne => ?_⟩, ?_⟩, h1, h2⟩
  ·have := depT_flat (t := t) f 0 [] h3 (low_nil _) rfl
   simpa using this
  ·cases f with
   | nil => exact absurd rfl hne
   | node k a b x y => rfl
  ·have hat := at_top (f := f) rfl
   have := (st_ok f 0 0 false false hat h3 (by simp [upto, inLoopR]) (by simp [upto, headR, headOkR])).2 h4
   exact fun i hi => this i (by omega) (by rw [Nat.zero_add, ← flat_len f 0]; exact hi)
 ·rintro ⟨⟨⟨h1, h2⟩, h3⟩, h4, h5⟩
  obtain ⟨f, hf, hn⟩ := forest_top h1 h2
  refine ⟨h4, h5, f, hf, hn, ?_⟩
  have hat := at_top hf
  exact (st_ok f 0 0 false false hat hn (by simp [upto, inLoopR]) (by simp [upto, headR, headOkR])).1 fun i _ hi => h3 i (by rw [hf, flat_len]; omega)
theorem validP_blocks {t : List Class} {p : List Line} {f : Fo} (h1 : validT t = true) (h2 : p.length ≤ 24) (hf : p = f.flat 0) (hn : numsF t f 0 = true) : ValidP t p ↔ okF f false false = true := by
 constructor
 ·rintro ⟨_, _, g, hg, _, h⟩
  have : f = g := flat_one (d := 0) (by rw [← hf, ← hg])
  rw [this]; exact h
 ·exact fun h => ⟨h1, h2, f, hf, hn, h⟩
noncomputable def validB (t : List Class) (p : List Line) : Bool := @decide (ValidP t p) (Classical.propDecidable _)
theorem validB_true {t : List Class} {p : List Line} : validB t p = true ↔ ValidP t p := by unfold validB; exact @decide_eq_true_iff _ (Classical.propDecidable _)
theorem validB_false {t : List Class} {p : List Line} : validB t p = false ↔ ¬ ValidP t p := by unfold validB; exact @decide_eq_false_iff_not _ (Classical.propDecidable _)
theorem validB_is {t : List Class} {p : List Line} {b : Bool} (h : ValidP t p ↔ b = true) : validB t p = b := by
 cases b
 ·exact validB_false.2 (fun q => by cases h.1 q)
 ·exact validB_true.2 (h.2 rfl)
theorem c_svalidProgram (t : List Class) (cl : Bool) (p : List Line) (cl' : Bool) (H : AHeap) (hn : namesOk t) (hp : p.length ≤ 4398046511104) :
  ACalls Tryz.prog 51 [aTree t cl, aProg p cl'] H fun r H' => r = B (validB t p) ∧ H' = H := by
 refine acalls_of0 Tryz.func51 rfl (by kernel_rfl) rfl rfl (awp_sound (fz := fun _ => []) (im := fun s => s == 2) mixed _ _ _ _ (by kernel_rfl) ?_)
 simp +contextual -dsimp -implicitDefEqProofs (maxSteps:=5000000) only [go_sem,reduceIte,reduceCtorEq,Nat.reduceEqDiff,Nat.reduceBEq,Nat.reduceAdd,Nat.reduceLeDiff,Nat.reduceMul,Nat.reduceLT,Int.reduceEq,Int.reduceLT,Int.reduceLE]
 refine aloop mixed (fz := fun _ => []) (im := fun s => s == 2) (by kernel_rfl) (fun m tm H' => ∃ k : Nat, m = p.length - k ∧ k ≤ p.length ∧ H' = H ∧ tm 1 = aProg p cl' ∧ tm 2 = .vptr [[.vsl (t.map rClass) cl]] 0 0 ∧ tm 5 = I k ∧ ∀ i, i < k → lineOk t p i = true) p.length ⟨0, by omega, by omega, rfl, ?_⟩ ?_
 ·simp +contextual -dsimp -implicitDefEqProofs (maxSteps:=5000000) only [go_sem,reduceIte,reduceCtorEq,Nat.reduceEqDiff,Nat.reduceBEq,Nat.reduceAdd,Nat.reduceLeDiff,Nat.reduceMul,Nat.reduceLT,Int.reduceEq,Int.reduceLT,Int.reduceLE]
  exact fun i hi => by omega
 ·rintro m tm H ⟨k, rfl, hk, rfl, t1, t2, t5, hok⟩
  by_cases hlt : k < p.length
  ·simp +contextual -dsimp -implicitDefEqProofs (maxSteps:=5000000) only [go_sem,reduceIte,reduceCtorEq,Nat.reduceEqDiff,Nat.reduceBEq,Nat.reduceAdd,Nat.reduceLeDiff,Nat.reduceMul,Nat.reduceLT,Int.reduceEq,Int.reduceLT,Int.reduceLE,t1,t2,t5,hlt]
   refine (c_validLine t cl p cl' k _ hlt hp (fun k0 => ?_)).det ?_
   ·have := hok (k - 1) (by omega)
    simp only [lineOk,Bool.and_eq_true] at this
    exact (oneOk_num this.1).2
   ·cases hl : lineOk t p k
    ·simp +contextual -dsimp -implicitDefEqProofs (maxSteps:=5000000) only [go_sem,reduceIte,reduceCtorEq,Nat.reduceEqDiff,Nat.reduceBEq,Nat.reduceAdd,Nat.reduceLeDiff,Nat.reduceMul,Nat.reduceLT,Int.reduceEq,Int.reduceLT,Int.reduceLE]
     rw [validB_false.2 (fun q => by rw [((validP_lines t p).1 q).1 k hlt] at hl; cases hl)]
    ·simp +contextual -dsimp -implicitDefEqProofs (maxSteps:=5000000) only [go_sem,reduceIte,reduceCtorEq,Nat.reduceEqDiff,Nat.reduceBEq,Nat.reduceAdd,Nat.reduceLeDiff,Nat.reduceMul,Nat.reduceLT,Int.reduceEq,Int.reduceLT,Int.reduceLE,t1,t2,t5]
     exact ⟨_, by omega, k + 1, rfl, hlt, I_wrap (by omega) (by omega) (by omega), fun i hi => by
      rcases Nat.lt_or_ge i k with q | q
      ·exact hok i q
      ·rw [show i = k by omega]; exact hl⟩
  ·have hke : k = p.length := by omega
   subst hke
   simp +contextual -dsimp -implicitDefEqProofs (maxSteps:=5000000) only [go_sem,reduceIte,reduceCtorEq,Nat.reduceEqDiff,Nat.reduceBEq,Nat.reduceAdd,Nat.reduceLeDiff,Nat.reduceMul,Nat.reduceLT,Int.reduceEq,Int.reduceLT,Int.reduceLE,t1,t2,t5,hlt]
   refine (c_validTree t cl _ hn).det ?_
   cases e1 : validT t
   ·simp +contextual -dsimp -implicitDefEqProofs (maxSteps:=5000000) only [go_sem,reduceIte,reduceCtorEq,Nat.reduceEqDiff,Nat.reduceBEq,Nat.reduceAdd,Nat.reduceLeDiff,Nat.reduceMul,Nat.reduceLT,Int.reduceEq,Int.reduceLT,Int.reduceLE]
    rw [validB_false.2 (fun q => by rw [q.1] at e1; cases e1)]
   ·simp +contextual -dsimp -implicitDefEqProofs (maxSteps:=5000000) only [go_sem,reduceIte,reduceCtorEq,Nat.reduceEqDiff,Nat.reduceBEq,Nat.reduceAdd,Nat.reduceLeDiff,Nat.reduceMul,Nat.reduceLT,Int.reduceEq,Int.reduceLT,Int.reduceLE,t1]
    have : validB t p = decide ((p.length : Int) ≤ 24) := validB_is (by
     rw [validP_lines, e1, decide_eq_true_iff]
     exact ⟨fun q => by have := q.2.2; omega, fun q => ⟨hok, rfl, by omega⟩⟩)
    rw [this]
end
section
open Go Go.Sim
set_option maxRecDepth 100000
set_option maxHeartbeats 4000000

def lastL (p : List Line) (k : Nat) : Line := if k = 0 then ⟨-1, 7, 0, 0⟩ else p.getD (k - 1) default
theorem lastL_rel (p : List Line) (k : Nat) : relOk p k = stepOk (lastL p k) (p.getD k default) := by
 unfold relOk lastL
 split
 ·rfl
 ·rfl
theorem lastL_succ (p : List Line) (k : Nat) : lastL p (k + 1) = p.getD k default := by unfold lastL; rw [if_neg (by omega), Nat.add_sub_cancel]
theorem c_ValidProgram (t : List Class) (cl : Bool) (p : List Line) (cl' : Bool) (H : AHeap) (hn : namesOk t) (hp : p.length ≤ 4398046511104) :
  ACalls Tryz.prog 13 [aTree t cl, aProg p cl'] H fun r H' => r = B (validB t p) ∧ H' = H := by
 refine acalls_of1 Tryz.func13 rfl (by kernel_rfl) rfl rfl (awp_sound (fz := fun r => if r = 6 then [7] else []) (im := fun s => s == 2) mixed _ _ _ _ (by kernel_rfl) ?_)
 simp +contextual -dsimp -implicitDefEqProofs (maxSteps:=5000000) only [go_sem,reduceIte,reduceCtorEq,Nat.reduceEqDiff,Nat.reduceBEq,Nat.reduceAdd,Nat.reduceLeDiff,Nat.reduceMul,Nat.reduceLT,Int.reduceEq,Int.reduceLT,Int.reduceLE]
 refine (c_ValidTree t cl _ hn).det ?_
 cases e1 : validT t
 ·rw [validB_false.2 (fun q => by rw [q.1] at e1; cases e1)]
  simp +contextual -dsimp -implicitDefEqProofs (maxSteps:=5000000) only [go_sem,reduceIte,reduceCtorEq,Nat.reduceEqDiff,Nat.reduceBEq,Nat.reduceAdd,Nat.reduceLeDiff,Nat.reduceMul,Nat.reduceLT,Int.reduceEq,Int.reduceLT,Int.reduceLE]
  refine retR_less (l := [B false]) (H' := H) ?_ (AHeap.le_refl _) ⟨rfl, rfl⟩
  simp only [resA,go_sem,reduceIte,reduceCtorEq,Nat.reduceEqDiff,Nat.reduceBEq,Nat.reduceAdd,Nat.reduceLeDiff,Nat.reduceMul,Nat.reduceLT,Int.reduceEq,Int.reduceLT,Int.reduceLE]
 ·by_cases h24 : (24 : Int) < p.length
  ·rw [validB_false.2 (fun q => by have := q.2.1; omega)]
   simp +contextual -dsimp -implicitDefEqProofs (maxSteps:=5000000) only [go_sem,reduceIte,reduceCtorEq,Nat.reduceEqDiff,Nat.reduceBEq,Nat.reduceAdd,Nat.reduceLeDiff,Nat.reduceMul,Nat.reduceLT,Int.reduceEq,Int.reduceLT,Int.reduceLE,h24]
   refine retR_less (l := [B false]) (H' := H) ?_ (AHeap.le_refl _) ⟨rfl, rfl⟩
   simp only [resA,go_sem,reduceIte,reduceCtorEq,Nat.reduceEqDiff,Nat.reduceBEq,Nat.reduceAdd,Nat.reduceLeDiff,Nat.reduceMul,Nat.reduceLT,Int.reduceEq,Int.reduceLT,Int.reduceLE]
  ·simp +contextual -dsimp -implicitDefEqProofs (maxSteps:=5000000) only [go_sem,reduceIte,reduceCtorEq,Nat.reduceEqDiff,Nat.reduceBEq,Nat.reduceAdd,Nat.reduceLeDiff,Nat.reduceMul,Nat.reduceLT,Int.reduceEq,Int.reduceLT,Int.reduceLE,h24]
   intro b5 hb5
   refine aloop mixed (fz := fun r => if r = 6 then [7] else []) (im := fun s => s == 2) (by kernel_rfl) (fun m tm H' => ∃ k : Nat, m = p.length - k ∧ k ≤ p.length ∧ H' = H.set b5 ⟨4, 41, [rLine (lastL p k)]⟩ ∧ tm 1 = aProg p cl' ∧ tm 2 = .vptr [[.vsl (t.map rClass) cl]] 0 0 ∧ tm 5 = .ptr b5 4 0 0 ∧ tm 17 = aProg p cl' ∧ tm 18 = I p.length ∧ tm 19 = I k ∧ ∀ i, i < k → (oneOk t (p.getD i default) && relOk p i) = true) p.length ⟨0, by omega, by omega, rfl, ?_⟩ ?_
   ·simp +contextual -dsimp -implicitDefEqProofs (maxSteps:=5000000) only [go_sem,reduceIte,reduceCtorEq,Nat.reduceEqDiff,Nat.reduceBEq,Nat.reduceAdd,Nat.reduceLeDiff,Nat.reduceMul,Nat.reduceLT,Int.reduceEq,Int.reduceLT,Int.reduceLE]
    exact fun i hi => by omega
   ·rintro m tm H' ⟨k, rfl, hk, rfl, t1, t2, t5, t17, t18, t19, hok⟩
    by_cases hlt : k < p.length
    ·have hld : -1 ≤ (lastL p k).depth ∧ (lastL p k).depth ≤ 5 := by
      unfold lastL
      split
      ·exact ⟨by show (-1 : Int) ≤ -1; omega, by show (-1 : Int) ≤ 5; omega⟩
      ·have := hok (k - 1) (by omega)
       rw [Bool.and_eq_true] at this
       have := inR5 (oneOk_num this.1).2
       omega
     have hw : IntKind.i64.wrap ((lastL p k).depth + 1) = (lastL p k).depth + 1 := w64 (by omega) (by omega)
     have bad : (oneOk t (p.getD k default) && relOk p k) = false → B false = B (validB t p) := fun q => by
      rw [validB_false.2 (fun v => ?_)]
      have := ((validP_lines t p).1 v).1 k hlt
      simp only [lineOk,Bool.and_eq_true] at this
      rw [this.1, this.2.1.1] at q
      cases q
     have hrl := lastL_rel p k
     unfold oneOk at bad
     have nxt : numOk t (p.getD k default).kind (p.getD k default).a (p.getD k default).b = true → inR (p.getD k default).depth 0 5 = true → relOk p k = true → ∀ i, i < k + 1 → oneOk t (p.getD i default) = true ∧ relOk p i = true := fun q1 q2 q3 i hi => by
      rcases Nat.lt_or_ge i k with z | z
      ·have := hok i z; rw [Bool.and_eq_true] at this; exact this
      ·rw [show i = k by omega]; exact ⟨by unfold oneOk; rw [q1, q2]; rfl, q3⟩
     simp +contextual -dsimp -implicitDefEqProofs (maxSteps:=5000000) only [go_sem,reduceIte,reduceCtorEq,Nat.reduceEqDiff,Nat.reduceBEq,Nat.reduceAdd,Nat.reduceLeDiff,Nat.reduceMul,Nat.reduceLT,Int.reduceEq,Int.reduceLT,Int.reduceLE,t1,t2,t5,t17,t18,t19,hlt]
     intro b7 hb7
     refine (c_argued t cl (p.getD k default) _).det ?_
     cases h1 : numOk t (p.getD k default).kind (p.getD k default).a (p.getD k default).b
     ·have hb := bad (by rw [h1]; rfl)
      simp +contextual -dsimp -implicitDefEqProofs (maxSteps:=5000000) only [go_sem,reduceIte,reduceCtorEq,Nat.reduceEqDiff,Nat.reduceBEq,Nat.reduceAdd,Nat.reduceLeDiff,Nat.reduceMul,Nat.reduceLT,Int.reduceEq,Int.reduceLT,Int.reduceLE,t1,t2,t5,t17,t18,t19,hb7]
      rw [hb]
      refine retR_less (l := [B (validB t p)]) (H' := H) ?_ (le_set hb5) ⟨rfl, rfl⟩
      simp only [resA,go_sem,reduceIte,reduceCtorEq,Nat.reduceEqDiff,Nat.reduceBEq,Nat.reduceAdd,Nat.reduceLeDiff,Nat.reduceMul,Nat.reduceLT,Int.reduceEq,Int.reduceLT,Int.reduceLE]
     ·simp +contextual -dsimp -implicitDefEqProofs (maxSteps:=5000000) only [go_sem,reduceIte,reduceCtorEq,Nat.reduceEqDiff,Nat.reduceBEq,Nat.reduceAdd,Nat.reduceLeDiff,Nat.reduceMul,Nat.reduceLT,Int.reduceEq,Int.reduceLT,Int.reduceLE,t1,t2,t5,t17,t18,t19,hb7]
      refine (c_within _ _ _ _).det ?_
      cases h2 : inR (p.getD k default).depth 0 5
      ·have hb := bad (by rw [h1, h2]; rfl)
       simp +contextual -dsimp -implicitDefEqProofs (maxSteps:=5000000) only [go_sem,reduceIte,reduceCtorEq,Nat.reduceEqDiff,Nat.reduceBEq,Nat.reduceAdd,Nat.reduceLeDiff,Nat.reduceMul,Nat.reduceLT,Int.reduceEq,Int.reduceLT,Int.reduceLE,t1,t2,t5,t17,t18,t19,hb7]
       rw [hb]
       refine retR_less (l := [B (validB t p)]) (H' := H) ?_ (le_set hb5) ⟨rfl, rfl⟩
       simp only [resA,go_sem,reduceIte,reduceCtorEq,Nat.reduceEqDiff,Nat.reduceBEq,Nat.reduceAdd,Nat.reduceLeDiff,Nat.reduceMul,Nat.reduceLT,Int.reduceEq,Int.reduceLT,Int.reduceLE]
      ·simp +contextual -dsimp -implicitDefEqProofs (maxSteps:=5000000) only [go_sem,reduceIte,reduceCtorEq,Nat.reduceEqDiff,Nat.reduceBEq,Nat.reduceAdd,Nat.reduceLeDiff,Nat.reduceMul,Nat.reduceLT,Int.reduceEq,Int.reduceLT,Int.reduceLE,t1,t2,t5,t17,t18,t19,hb7]
       refine (c_lineOpens (lastL p k) _).det ?_
       cases ho : opensK (lastL p k).kind
       ·simp +contextual -dsimp -implicitDefEqProofs (maxSteps:=5000000) only [go_sem,reduceIte,reduceCtorEq,Nat.reduceEqDiff,Nat.reduceBEq,Nat.reduceAdd,Nat.reduceLeDiff,Nat.reduceMul,Nat.reduceLT,Int.reduceEq,Int.reduceLT,Int.reduceLE,t1,t2,t5,t17,t18,t19,hb7]
        refine (c_lineOpens (lastL p k) _).det ?_
        rw [ho]
        by_cases e : (lastL p k).depth < (p.getD k default).depth
        ·have hb := bad (by rw [h1, h2, hrl]; unfold stepOk; rw [ho, if_neg (by decide), decide_eq_false (by omega)]; rfl)
         simp +contextual -dsimp -implicitDefEqProofs (maxSteps:=5000000) only [go_sem,reduceIte,reduceCtorEq,Nat.reduceEqDiff,Nat.reduceBEq,Nat.reduceAdd,Nat.reduceLeDiff,Nat.reduceMul,Nat.reduceLT,Int.reduceEq,Int.reduceLT,Int.reduceLE,t1,t2,t5,t17,t18,t19,hb7,e]
         rw [hb]
         refine retR_less (l := [B (validB t p)]) (H' := H) ?_ (le_set hb5) ⟨rfl, rfl⟩
         simp only [resA,go_sem,reduceIte,reduceCtorEq,Nat.reduceEqDiff,Nat.reduceBEq,Nat.reduceAdd,Nat.reduceLeDiff,Nat.reduceMul,Nat.reduceLT,Int.reduceEq,Int.reduceLT,Int.reduceLE]
        ·simp +contextual -dsimp -implicitDefEqProofs (maxSteps:=5000000) only [go_sem,reduceIte,reduceCtorEq,Nat.reduceEqDiff,Nat.reduceBEq,Nat.reduceAdd,Nat.reduceLeDiff,Nat.reduceMul,Nat.reduceLT,Int.reduceEq,Int.reduceLT,Int.reduceLE,t1,t2,t5,t17,t18,t19,hb7,e]
         refine ⟨_, by omega, k + 1, rfl, hlt, by rw [lastL_succ], I_wrap (by omega) (by omega) (by omega), ?_⟩
         exact nxt h1 h2 (by rw [hrl]; unfold stepOk; rw [ho, if_neg (by decide)]; exact decide_eq_true (by omega))
       ·by_cases e : (p.getD k default).depth = (lastL p k).depth + 1
        ·simp +contextual -dsimp -implicitDefEqProofs (maxSteps:=5000000) only [go_sem,reduceIte,reduceCtorEq,Nat.reduceEqDiff,Nat.reduceBEq,Nat.reduceAdd,Nat.reduceLeDiff,Nat.reduceMul,Nat.reduceLT,Int.reduceEq,Int.reduceLT,Int.reduceLE,t1,t2,t5,t17,t18,t19,hb7,hw,e]
         refine (c_lineOpens (lastL p k) _).det ?_
         rw [ho]
         simp +contextual -dsimp -implicitDefEqProofs (maxSteps:=5000000) only [go_sem,reduceIte,reduceCtorEq,Nat.reduceEqDiff,Nat.reduceBEq,Nat.reduceAdd,Nat.reduceLeDiff,Nat.reduceMul,Nat.reduceLT,Int.reduceEq,Int.reduceLT,Int.reduceLE,t1,t2,t5,t17,t18,t19,hb7]
         refine ⟨_, by omega, k + 1, rfl, hlt, by rw [lastL_succ], I_wrap (by omega) (by omega) (by omega), ?_⟩
         exact nxt h1 h2 (by rw [hrl]; unfold stepOk; rw [ho, if_pos rfl]; exact decide_eq_true e)
        ·have hb := bad (by rw [h1, h2, hrl]; unfold stepOk; rw [ho, if_pos rfl, decide_eq_false e]; rfl)
         simp +contextual -dsimp -implicitDefEqProofs (maxSteps:=5000000) only [go_sem,reduceIte,reduceCtorEq,Nat.reduceEqDiff,Nat.reduceBEq,Nat.reduceAdd,Nat.reduceLeDiff,Nat.reduceMul,Nat.reduceLT,Int.reduceEq,Int.reduceLT,Int.reduceLE,t1,t2,t5,t17,t18,t19,hb7,hw,e]
         rw [hb]
         refine retR_less (l := [B (validB t p)]) (H' := H) ?_ (le_set hb5) ⟨rfl, rfl⟩
         simp only [resA,go_sem,reduceIte,reduceCtorEq,Nat.reduceEqDiff,Nat.reduceBEq,Nat.reduceAdd,Nat.reduceLeDiff,Nat.reduceMul,Nat.reduceLT,Int.reduceEq,Int.reduceLT,Int.reduceLE]
    ·have hke : k = p.length := by omega
     subst hke
     have hok1 : ∀ i, i < p.length → oneOk t (p.getD i default) = true := fun i hi => by have := hok i hi; rw [Bool.and_eq_true] at this; exact this.1
     have hok2 : ∀ i, i < p.length → relOk p i = true := fun i hi => by have := hok i hi; rw [Bool.and_eq_true] at this; exact this.2
     have h24' : p.length ≤ 24 := by omega
     by_cases hp0 : p.length = 0
     ·have hpn : p = [] := List.eq_nil_of_length_eq_zero hp0
      have hat := at_top (f := .nil) (p := p) hpn
      have hblk := c_blockOk p cl' hp 1 .nil 0 0 false (H.set b5 ⟨4, 41, [rLine (lastL p 0)]⟩) (by simp [Fo.size]) hat
      have e0 : ((0 + Fo.nil.size : Nat) : Int) = 0 := rfl
      have e1' : ((0 : Nat) : Int) = 0 := rfl
      rw [e0, e1'] at hblk
      have hv : validB t p = true := validB_true.2 ⟨e1, h24', .nil, hpn, rfl, rfl⟩
      have hp0' : (p.length : Int) = 0 := by omega
      rw [hv]
      simp +contextual -dsimp -implicitDefEqProofs (maxSteps:=5000000) only [go_sem,reduceIte,reduceCtorEq,Nat.reduceEqDiff,Nat.reduceBEq,Nat.reduceAdd,Nat.reduceLeDiff,Nat.reduceMul,Nat.reduceLT,Int.reduceEq,Int.reduceLT,Int.reduceLE,t1,t2,t5,t17,t18,t19,hlt,hp0,hp0']
      refine hblk.det ?_
      simp +contextual -dsimp -implicitDefEqProofs (maxSteps:=5000000) only [go_sem,reduceIte,reduceCtorEq,Nat.reduceEqDiff,Nat.reduceBEq,Nat.reduceAdd,Nat.reduceLeDiff,Nat.reduceMul,Nat.reduceLT,Int.reduceEq,Int.reduceLT,Int.reduceLE,okF]
      refine retR_less (l := [B true]) (H' := H) ?_ (le_set hb5) ⟨rfl, rfl⟩
      simp only [resA,go_sem,reduceIte,reduceCtorEq,Nat.reduceEqDiff,Nat.reduceBEq,Nat.reduceAdd,Nat.reduceLeDiff,Nat.reduceMul,Nat.reduceLT,Int.reduceEq,Int.reduceLT,Int.reduceLE]
     ·have hp0' : ¬ (p.length : Int) = 0 := by omega
      have hlast : lastL p p.length = p.getD (p.length - 1) default := by unfold lastL; rw [if_neg hp0]
      simp +contextual -dsimp -implicitDefEqProofs (maxSteps:=5000000) only [go_sem,reduceIte,reduceCtorEq,Nat.reduceEqDiff,Nat.reduceBEq,Nat.reduceAdd,Nat.reduceLeDiff,Nat.reduceMul,Nat.reduceLT,Int.reduceEq,Int.reduceLT,Int.reduceLE,t1,t2,t5,t17,t18,t19,hlt,hp0,hp0']
      refine (c_lineOpens (lastL p p.length) _).det ?_
      cases ho : opensK (lastL p p.length).kind
      ·have hd : depT t p = true := (depT_iff t p).2 ⟨hok1, fun i hi => by
        have := hok2 (i + 1) hi
        unfold relOk at this
        rw [if_neg (by omega), Nat.add_sub_cancel] at this
        exact this, fun _ => by rw [← hlast]; exact ho⟩
       obtain ⟨f, hf, hnf⟩ := forest_top hd (fun hne => by
        have := hok2 0 (by omega)
        unfold relOk at this
        rw [if_pos rfl] at this
        simpa using this)
       have hat := at_top hf
       have hfs : f.size = p.length := by rw [hf, flat_len]
       have hblk := c_blockOk p cl' hp (f.size + 1) f 0 0 false (H.set b5 ⟨4, 41, [rLine (lastL p p.length)]⟩) (by omega) hat
       have e0 : ((0 + f.size : Nat) : Int) = p.length := by omega
       have e1' : ((0 : Nat) : Int) = 0 := rfl
       rw [e0, e1'] at hblk
       have hv : validB t p = okF f false false := validB_is (validP_blocks e1 h24' hf hnf)
       rw [hv]
       simp +contextual -dsimp -implicitDefEqProofs (maxSteps:=5000000) only [go_sem,reduceIte,reduceCtorEq,Nat.reduceEqDiff,Nat.reduceBEq,Nat.reduceAdd,Nat.reduceLeDiff,Nat.reduceMul,Nat.reduceLT,Int.reduceEq,Int.reduceLT,Int.reduceLE,t1,t2,t5,t17,t18,t19,hp0']
       refine hblk.det ?_
       simp +contextual -dsimp -implicitDefEqProofs (maxSteps:=5000000) only [go_sem,reduceIte,reduceCtorEq,Nat.reduceEqDiff,Nat.reduceBEq,Nat.reduceAdd,Nat.reduceLeDiff,Nat.reduceMul,Nat.reduceLT,Int.reduceEq,Int.reduceLT,Int.reduceLE]
       refine retR_less (l := [B (okF f false false)]) (H' := H) ?_ (le_set hb5) ⟨rfl, rfl⟩
       simp only [resA,go_sem,reduceIte,reduceCtorEq,Nat.reduceEqDiff,Nat.reduceBEq,Nat.reduceAdd,Nat.reduceLeDiff,Nat.reduceMul,Nat.reduceLT,Int.reduceEq,Int.reduceLT,Int.reduceLE]
      ·have hv : validB t p = false := validB_false.2 fun v => by
        have := (lastI_eq (t := t) (p := p)).1 ((validP_lines t p).1 v).1
        have := ((depT_iff t p).1 this.1.1).2.2 (fun q => hp0 (by rw [q]; rfl))
        rw [← hlast, ho] at this
        cases this
       rw [hv]
       simp +contextual -dsimp -implicitDefEqProofs (maxSteps:=5000000) only [go_sem,reduceIte,reduceCtorEq,Nat.reduceEqDiff,Nat.reduceBEq,Nat.reduceAdd,Nat.reduceLeDiff,Nat.reduceMul,Nat.reduceLT,Int.reduceEq,Int.reduceLT,Int.reduceLE,t1,t2,t5,t17,t18,t19,hp0']
       refine retR_less (l := [B false]) (H' := H) ?_ (le_set hb5) ⟨rfl, rfl⟩
       simp only [resA,go_sem,reduceIte,reduceCtorEq,Nat.reduceEqDiff,Nat.reduceBEq,Nat.reduceAdd,Nat.reduceLeDiff,Nat.reduceMul,Nat.reduceLT,Int.reduceEq,Int.reduceLT,Int.reduceLE]
end
section
open Go Go.Sim
set_option maxRecDepth 100000
set_option maxHeartbeats 4000000

def rEn (e : En) : List AV := [I e.ed, I e.val]
abbrev MachS (F H : AHeap) (bm : Nat) (t : List Class) (cl : Bool) (P : List Line) (clp : Bool) (s : RS) : Prop := Mach F H bm (.vsl (t.map rClass) cl) (aProg P clp) s.log s.fs s.first
def LinesOk (t : List Class) (cl : Bool) (P : List Line) (clp : Bool) (n : Nat) : Prop :=
 ∀ (f : Fo) (i : Nat) (d h : Int) (s : RS) (F H : AHeap) (bm : Nat), f.size < n → At P i d f → numsF t f d = true → FsOk t s.fs → h < s.fs.length → s.log.length + cost f ≤ 900000 → s.fs.length + cost f ≤ 900000 → MachS F H bm t cl P clp s →
  ACalls Tryz.prog 49 [.ptr bm 5 0 0, I i, I (i + f.size : Nat), I h] H fun r H' => r = .agg (rEn (runF t f i none h s).1) ∧ MachS F H' bm t cl P clp (runF t f i none h s).2
theorem c_block {t : List Class} {cl : Bool} {P : List Line} {clp : Bool} {n : Nat} (ih : LinesOk t cl P clp n) {i : Nat} {d k a b h : Int} {kids rest : Fo} {s : RS} {F H : AHeap} {bm : Nat}
  (hn : kids.size < n) (hat : At P i d (.node k a b kids rest)) (hk : numsF t kids (d + 1) = true) (hs : FsOk t s.fs) (hh : h < s.fs.length) (hl : s.log.length + cost kids ≤ 900000) (hf : s.fs.length + cost kids ≤ 900000) (hM : MachS F H bm t cl P clp s) (hp : P.length ≤ 4398046511104) :
  ACalls Tryz.prog 138 [.ptr bm 5 0 0, I i, I h] H fun r H' => r = .agg (rEn (runF t kids (i + 1) none h s).1) ∧ MachS F H' bm t cl P clp (runF t kids (i + 1) none h s).2 := by
 have hi := hat.head.1
 have hw : IntKind.i64.wrap ((i : Int) + 1) = ((i + 1 : Nat) : Int) := by rw [w64 (by omega) (by omega)]; rfl
 refine acalls_of1 Tryz.func138 rfl (by kernel_rfl) rfl rfl (awp_sound (fz := fun _ => []) (im := fun _ => false) mixed _ _ _ _ (by kernel_rfl) ?_)
 simp +contextual -dsimp -implicitDefEqProofs (maxSteps:=5000000) only [go_sem,reduceIte,reduceCtorEq,Nat.reduceEqDiff,Nat.reduceBEq,Nat.reduceAdd,Nat.reduceLeDiff,Nat.reduceMul,Nat.reduceLT,Int.reduceEq,Int.reduceLT,Int.reduceLE,hw]
 intro b6 hb6
 obtain ⟨xl, xf, H1, H2, hF, hg1, hg2, hb, rfl⟩ := id hM
 have hb6' := hb6
 rw [set_none] at hb6'
 obtain ⟨n1, n2, hn2⟩ := hb6'
 simp +contextual -dsimp -implicitDefEqProofs (maxSteps:=5000000) only [go_sem,reduceIte,reduceCtorEq,Nat.reduceEqDiff,Nat.reduceBEq,Nat.reduceAdd,Nat.reduceLeDiff,Nat.reduceMul,Nat.reduceLT,Int.reduceEq,Int.reduceLT,Int.reduceLE,hw,n1,n2]
 refine (c_endOf P clp i _ hi).det ?_
 rw [hat.endP]
 simp +contextual -dsimp -implicitDefEqProofs (maxSteps:=5000000) only [go_sem,reduceIte,reduceCtorEq,Nat.reduceEqDiff,Nat.reduceBEq,Nat.reduceAdd,Nat.reduceLeDiff,Nat.reduceMul,Nat.reduceLT,Int.reduceEq,Int.reduceLT,Int.reduceLE,hw,n1,n2]
 refine (ih kids (i + 1) (d + 1) h s _ _ bm hn hat.kids hk hs hh hl hf (mach_in (K := ⟨2, 88, [[I 0, I 0]]⟩) hM hb6)).mono ?_
 rintro _ H3 ⟨rfl, hM3⟩
 obtain ⟨H4, rfl, hM4, hn4⟩ := mach_out hM3 (mach_none hM hb6)
 simp +contextual -dsimp -implicitDefEqProofs (maxSteps:=5000000) only [go_sem,reduceIte,reduceCtorEq,Nat.reduceEqDiff,Nat.reduceBEq,Nat.reduceAdd,Nat.reduceLeDiff,Nat.reduceMul,Nat.reduceLT,Int.reduceEq,Int.reduceLT,Int.reduceLE,rEn]
 refine retR_less (l := [.agg (rEn (runF t kids (i + 1) none h s).1)]) (H' := H4) ?_ (le_set hn4) ⟨rfl, hM4⟩
 simp only [resA,go_sem,reduceIte,reduceCtorEq,Nat.reduceEqDiff,Nat.reduceBEq,Nat.reduceAdd,Nat.reduceLeDiff,Nat.reduceMul,Nat.reduceLT,Int.reduceEq,Int.reduceLT,Int.reduceLE,rEn]
end
section
open Go Go.Sim
set_option maxRecDepth 100000
set_option maxHeartbeats 4000000

theorem c_line {t : List Class} {cl : Bool} {P : List Line} {clp : Bool} {n : Nat} (ht : validT t = true) (ih : LinesOk t cl P clp n) {i : Nat} {d k a b h : Int} {kids rest : Fo} {s : RS} {F H : AHeap} {bm : Nat}
  (hn : kids.size < n) (hat : At P i d (.node k a b kids rest)) (hno : numOk t k a b = true) (hk : numsF t kids (d + 1) = true) (hs : FsOk t s.fs) (hh : h < s.fs.length) (hl : s.log.length + (2 + (if k = 12 then a.toNat * cost kids else cost kids)) ≤ 900000) (hf : s.fs.length + (2 + (if k = 12 then a.toNat * cost kids else cost kids)) ≤ 900000) (hM : MachS F H bm t cl P clp s) (hp : P.length ≤ 4398046511104) :
  ACalls Tryz.prog 97 [.ptr bm 5 0 0, I i, I h] H fun r H' => r = .agg (rEn (lineR k a b i h (fun s => runF t kids (i + 1) none h s) s).1) ∧ MachS F H' bm t cl P clp (lineR k a b i h (fun s => runF t kids (i + 1) none h s) s).2 := by
 have hi := hat.head.1
 have hx := hat.head.2
 obtain ⟨xl, xf, H1, H2, hF, hg1, hg2, hb, rfl⟩ := id hM
 refine acalls_of1 Tryz.func97 rfl (by kernel_rfl) rfl rfl (awp_sound (fz := fun r => if r = 1 then [7] else if r = 21 then [8] else if r = 29 then [9] else []) (im := fun _ => false) mixed _ _ _ _ (by kernel_rfl) ?_)
 simp +contextual -dsimp -implicitDefEqProofs (maxSteps:=5000000) only [go_sem,reduceIte,reduceCtorEq,Nat.reduceEqDiff,Nat.reduceBEq,Nat.reduceAdd,Nat.reduceLeDiff,Nat.reduceMul,Nat.reduceLT,Int.reduceEq,Int.reduceLT,Int.reduceLE,hi,hx]
 rintro b6 ⟨n1, n2, hn2⟩
 rintro b7 hb7
 refine (c_lineJumps ⟨d, k, a, b⟩ _).det ?_
 have nb6 : ∀ K, (H2.set bm K) b6 = none := fun K => by rw [set_other n1]; exact hn2
 have hF6 : F b6 = none := grow_none hg1 (grow_none hg2 hn2)
 have jump1 : s.first < 0 → jumpsK k = true → s.jump k i = ⟨s.log, s.fs, (i : Int)⟩ := fun q1 q2 => by unfold RS.jump; rw [if_pos ⟨q2, q1⟩]
 have jump0 : ¬ s.first < 0 → s.jump k i = ⟨s.log, s.fs, s.first⟩ := fun q1 => by unfold RS.jump; rw [if_neg (fun q => q1 q.2)]
 have jumpn : jumpsK k = false → s.jump k i = ⟨s.log, s.fs, s.first⟩ := fun q1 => by unfold RS.jump; rw [if_neg (fun q => by rw [q1] at q; cases q.1)]
 have hMi : ∀ v : Int, Mach F (H2.set bm ⟨5, 129, [[.vsl (t.map rClass) cl, aProg P clp, xl, xf, I v]]⟩) bm (.vsl (t.map rClass) cl) (aProg P clp) s.log s.fs v := fun v => ⟨xl, xf, H1, H2, hF, hg1, hg2, hb, rfl⟩
 have hfl : s.fs.length < 999999 := by omega
 by_cases k2 : k = 2
 ·have hj : jumpsK k = true := by rw [k2]; rfl
  by_cases hf0 : s.first < 0
  ·have e : lineR k a b i h (fun s => runF t kids (i + 1) none h s) s = (⟨2, s.fs.length⟩, ⟨s.log, raiseF s.fs a b h, (i : Int)⟩) := by
    unfold lineR lineS; rw [jump1 hf0 hj, if_neg (by omega), if_neg (by omega), if_neg (by omega), if_pos k2]; rfl
   rw [e]
   simp +contextual -dsimp -implicitDefEqProofs (maxSteps:=5000000) only [go_sem,reduceIte,reduceCtorEq,Nat.reduceEqDiff,Nat.reduceBEq,Nat.reduceAdd,Nat.reduceLeDiff,Nat.reduceMul,Nat.reduceLT,Int.reduceEq,Int.reduceLT,Int.reduceLE,hi,hx,n1,n2,k2,hf0,hj,show jumpsK 2 = true from rfl]
   refine (c_raise _ _ bm _ _ s.log s.fs (i : Int) a b h (mach_in (K := ⟨2, 88, [[I 0, I 0]]⟩) (hMi (i : Int)) (nb6 _)) hfl hs.ho (by omega)).mono ?_
   rintro _ H9 ⟨rfl, hM9⟩
   obtain ⟨H10, rfl, hM10, hn10⟩ := mach_out hM9 hF6
   simp +contextual -dsimp -implicitDefEqProofs (maxSteps:=5000000) only [go_sem,reduceIte,reduceCtorEq,Nat.reduceEqDiff,Nat.reduceBEq,Nat.reduceAdd,Nat.reduceLeDiff,Nat.reduceMul,Nat.reduceLT,Int.reduceEq,Int.reduceLT,Int.reduceLE,hi,hx,n1,n2,k2,hf0,hj,show jumpsK 2 = true from rfl]
   refine retR_less (l := [.agg (rEn ⟨2, s.fs.length⟩)]) (H' := H10) ?_ (le_set hn10) ⟨rfl, hM10⟩
   simp only [resA,go_sem,reduceIte,reduceCtorEq,Nat.reduceEqDiff,Nat.reduceBEq,Nat.reduceAdd,Nat.reduceLeDiff,Nat.reduceMul,Nat.reduceLT,Int.reduceEq,Int.reduceLT,Int.reduceLE,rEn]
  ·have e : lineR k a b i h (fun s => runF t kids (i + 1) none h s) s = (⟨2, s.fs.length⟩, ⟨s.log, raiseF s.fs a b h, s.first⟩) := by
    unfold lineR lineS; rw [jump0 hf0, if_neg (by omega), if_neg (by omega), if_neg (by omega), if_pos k2]; rfl
   rw [e]
   simp +contextual -dsimp -implicitDefEqProofs (maxSteps:=5000000) only [go_sem,reduceIte,reduceCtorEq,Nat.reduceEqDiff,Nat.reduceBEq,Nat.reduceAdd,Nat.reduceLeDiff,Nat.reduceMul,Nat.reduceLT,Int.reduceEq,Int.reduceLT,Int.reduceLE,hi,hx,n1,n2,k2,hf0,hj,show jumpsK 2 = true from rfl]
   refine (c_raise _ _ bm _ _ s.log s.fs s.first a b h (mach_in (K := ⟨2, 88, [[I 0, I 0]]⟩) (hMi s.first) (nb6 _)) hfl hs.ho (by omega)).mono ?_
   rintro _ H9 ⟨rfl, hM9⟩
   obtain ⟨H10, rfl, hM10, hn10⟩ := mach_out hM9 hF6
   simp +contextual -dsimp -implicitDefEqProofs (maxSteps:=5000000) only [go_sem,reduceIte,reduceCtorEq,Nat.reduceEqDiff,Nat.reduceBEq,Nat.reduceAdd,Nat.reduceLeDiff,Nat.reduceMul,Nat.reduceLT,Int.reduceEq,Int.reduceLT,Int.reduceLE,hi,hx,n1,n2,k2,hf0,hj,show jumpsK 2 = true from rfl]
   refine retR_less (l := [.agg (rEn ⟨2, s.fs.length⟩)]) (H' := H10) ?_ (le_set hn10) ⟨rfl, hM10⟩
   simp only [resA,go_sem,reduceIte,reduceCtorEq,Nat.reduceEqDiff,Nat.reduceBEq,Nat.reduceAdd,Nat.reduceLeDiff,Nat.reduceMul,Nat.reduceLT,Int.reduceEq,Int.reduceLT,Int.reduceLE,rEn]
 by_cases k3 : k = 3
 ·have hj : jumpsK k = true := by rw [k3]; rfl
  by_cases hf0 : s.first < 0
  ·by_cases hh0 : h < 0
   ·have e : lineR k a b i h (fun s => runF t kids (i + 1) none h s) s = (⟨2, s.fs.length⟩, ⟨s.log, raiseF s.fs 0 0 (-1), (i : Int)⟩) := by
     unfold lineR lineS; rw [jump1 hf0 hj, if_neg (by omega), if_neg (by omega), if_neg (by omega), if_neg (by omega), if_pos k3, if_pos hh0]; rfl
    rw [e]
    simp +contextual -dsimp -implicitDefEqProofs (maxSteps:=5000000) only [go_sem,reduceIte,reduceCtorEq,Nat.reduceEqDiff,Nat.reduceBEq,Nat.reduceAdd,Nat.reduceLeDiff,Nat.reduceMul,Nat.reduceLT,Int.reduceEq,Int.reduceLT,Int.reduceLE,hi,hx,n1,n2,k3,hf0,hj,show jumpsK 3 = true from rfl,hh0]
    refine (c_raise _ _ bm _ _ s.log s.fs (i : Int) 0 0 (-1) (mach_in (K := ⟨2, 88, [[I 0, I 0]]⟩) (hMi (i : Int)) (nb6 _)) hfl hs.ho (by omega)).mono ?_
    rintro _ H9 ⟨rfl, hM9⟩
    obtain ⟨H10, rfl, hM10, hn10⟩ := mach_out hM9 hF6
    simp +contextual -dsimp -implicitDefEqProofs (maxSteps:=5000000) only [go_sem,reduceIte,reduceCtorEq,Nat.reduceEqDiff,Nat.reduceBEq,Nat.reduceAdd,Nat.reduceLeDiff,Nat.reduceMul,Nat.reduceLT,Int.reduceEq,Int.reduceLT,Int.reduceLE,hi,hx,n1,n2,k3,hf0,hj,show jumpsK 3 = true from rfl,hh0]
    refine retR_less (l := [.agg (rEn ⟨2, s.fs.length⟩)]) (H' := H10) ?_ (le_set hn10) ⟨rfl, hM10⟩
    simp only [resA,go_sem,reduceIte,reduceCtorEq,Nat.reduceEqDiff,Nat.reduceBEq,Nat.reduceAdd,Nat.reduceLeDiff,Nat.reduceMul,Nat.reduceLT,Int.reduceEq,Int.reduceLT,Int.reduceLE,rEn]
   ·have e : lineR k a b i h (fun s => runF t kids (i + 1) none h s) s = (⟨2, h⟩, ⟨s.log, s.fs, (i : Int)⟩) := by
     unfold lineR lineS; rw [jump1 hf0 hj, if_neg (by omega), if_neg (by omega), if_neg (by omega), if_neg (by omega), if_pos k3, if_neg hh0]
    rw [e]
    simp +contextual -dsimp -implicitDefEqProofs (maxSteps:=5000000) only [go_sem,reduceIte,reduceCtorEq,Nat.reduceEqDiff,Nat.reduceBEq,Nat.reduceAdd,Nat.reduceLeDiff,Nat.reduceMul,Nat.reduceLT,Int.reduceEq,Int.reduceLT,Int.reduceLE,hi,hx,n1,n2,k3,hf0,hj,show jumpsK 3 = true from rfl,hh0]
    refine retR_less (l := [.agg (rEn ⟨2, h⟩)]) (H' := H2.set bm _) ?_ (le_set (nb6 _)) ⟨rfl, hMi (i : Int)⟩
    simp only [resA,go_sem,reduceIte,reduceCtorEq,Nat.reduceEqDiff,Nat.reduceBEq,Nat.reduceAdd,Nat.reduceLeDiff,Nat.reduceMul,Nat.reduceLT,Int.reduceEq,Int.reduceLT,Int.reduceLE,rEn]
  ·by_cases hh0 : h < 0
   ·have e : lineR k a b i h (fun s => runF t kids (i + 1) none h s) s = (⟨2, s.fs.length⟩, ⟨s.log, raiseF s.fs 0 0 (-1), s.first⟩) := by
     unfold lineR lineS; rw [jump0 hf0, if_neg (by omega), if_neg (by omega), if_neg (by omega), if_neg (by omega), if_pos k3, if_pos hh0]; rfl
    rw [e]
    simp +contextual -dsimp -implicitDefEqProofs (maxSteps:=5000000) only [go_sem,reduceIte,reduceCtorEq,Nat.reduceEqDiff,Nat.reduceBEq,Nat.reduceAdd,Nat.reduceLeDiff,Nat.reduceMul,Nat.reduceLT,Int.reduceEq,Int.reduceLT,Int.reduceLE,hi,hx,n1,n2,k3,hf0,hj,show jumpsK 3 = true from rfl,hh0]
    refine (c_raise _ _ bm _ _ s.log s.fs s.first 0 0 (-1) (mach_in (K := ⟨2, 88, [[I 0, I 0]]⟩) (hMi s.first) (nb6 _)) hfl hs.ho (by omega)).mono ?_
    rintro _ H9 ⟨rfl, hM9⟩
    obtain ⟨H10, rfl, hM10, hn10⟩ := mach_out hM9 hF6
    simp +contextual -dsimp -implicitDefEqProofs (maxSteps:=5000000) only [go_sem,reduceIte,reduceCtorEq,Nat.reduceEqDiff,Nat.reduceBEq,Nat.reduceAdd,Nat.reduceLeDiff,Nat.reduceMul,Nat.reduceLT,Int.reduceEq,Int.reduceLT,Int.reduceLE,hi,hx,n1,n2,k3,hf0,hj,show jumpsK 3 = true from rfl,hh0]
    refine retR_less (l := [.agg (rEn ⟨2, s.fs.length⟩)]) (H' := H10) ?_ (le_set hn10) ⟨rfl, hM10⟩
    simp only [resA,go_sem,reduceIte,reduceCtorEq,Nat.reduceEqDiff,Nat.reduceBEq,Nat.reduceAdd,Nat.reduceLeDiff,Nat.reduceMul,Nat.reduceLT,Int.reduceEq,Int.reduceLT,Int.reduceLE,rEn]
   ·have e : lineR k a b i h (fun s => runF t kids (i + 1) none h s) s = (⟨2, h⟩, ⟨s.log, s.fs, s.first⟩) := by
     unfold lineR lineS; rw [jump0 hf0, if_neg (by omega), if_neg (by omega), if_neg (by omega), if_neg (by omega), if_pos k3, if_neg hh0]
    rw [e]
    simp +contextual -dsimp -implicitDefEqProofs (maxSteps:=5000000) only [go_sem,reduceIte,reduceCtorEq,Nat.reduceEqDiff,Nat.reduceBEq,Nat.reduceAdd,Nat.reduceLeDiff,Nat.reduceMul,Nat.reduceLT,Int.reduceEq,Int.reduceLT,Int.reduceLE,hi,hx,n1,n2,k3,hf0,hj,show jumpsK 3 = true from rfl,hh0]
    refine retR_less (l := [.agg (rEn ⟨2, h⟩)]) (H' := H2.set bm _) ?_ (le_set (nb6 _)) ⟨rfl, hMi s.first⟩
    simp only [resA,go_sem,reduceIte,reduceCtorEq,Nat.reduceEqDiff,Nat.reduceBEq,Nat.reduceAdd,Nat.reduceLeDiff,Nat.reduceMul,Nat.reduceLT,Int.reduceEq,Int.reduceLT,Int.reduceLE,rEn]
 by_cases k4 : k = 4
 ·have hj : jumpsK k = true := by rw [k4]; rfl
  by_cases hf0 : s.first < 0
  ·have e : lineR k a b i h (fun s => runF t kids (i + 1) none h s) s = (⟨1, a⟩, ⟨s.log, s.fs, (i : Int)⟩) := by
    unfold lineR lineS; rw [jump1 hf0 hj, if_neg (by omega), if_neg (by omega), if_neg (by omega), if_neg (by omega), if_neg (by omega), if_pos k4]
   rw [e]
   simp +contextual -dsimp -implicitDefEqProofs (maxSteps:=5000000) only [go_sem,reduceIte,reduceCtorEq,Nat.reduceEqDiff,Nat.reduceBEq,Nat.reduceAdd,Nat.reduceLeDiff,Nat.reduceMul,Nat.reduceLT,Int.reduceEq,Int.reduceLT,Int.reduceLE,hi,hx,n1,n2,k4,hf0,hj,show jumpsK 4 = true from rfl]
   refine retR_less (l := [.agg (rEn ⟨1, a⟩)]) (H' := H2.set bm _) ?_ (le_set (nb6 _)) ⟨rfl, hMi (i : Int)⟩
   simp only [resA,go_sem,reduceIte,reduceCtorEq,Nat.reduceEqDiff,Nat.reduceBEq,Nat.reduceAdd,Nat.reduceLeDiff,Nat.reduceMul,Nat.reduceLT,Int.reduceEq,Int.reduceLT,Int.reduceLE,rEn]
  ·have e : lineR k a b i h (fun s => runF t kids (i + 1) none h s) s = (⟨1, a⟩, ⟨s.log, s.fs, s.first⟩) := by
    unfold lineR lineS; rw [jump0 hf0, if_neg (by omega), if_neg (by omega), if_neg (by omega), if_neg (by omega), if_neg (by omega), if_pos k4]
   rw [e]
   simp +contextual -dsimp -implicitDefEqProofs (maxSteps:=5000000) only [go_sem,reduceIte,reduceCtorEq,Nat.reduceEqDiff,Nat.reduceBEq,Nat.reduceAdd,Nat.reduceLeDiff,Nat.reduceMul,Nat.reduceLT,Int.reduceEq,Int.reduceLT,Int.reduceLE,hi,hx,n1,n2,k4,hf0,hj,show jumpsK 4 = true from rfl]
   refine retR_less (l := [.agg (rEn ⟨1, a⟩)]) (H' := H2.set bm _) ?_ (le_set (nb6 _)) ⟨rfl, hMi s.first⟩
   simp only [resA,go_sem,reduceIte,reduceCtorEq,Nat.reduceEqDiff,Nat.reduceBEq,Nat.reduceAdd,Nat.reduceLeDiff,Nat.reduceMul,Nat.reduceLT,Int.reduceEq,Int.reduceLT,Int.reduceLE,rEn]
 by_cases k5 : k = 5
 ·have hj : jumpsK k = true := by rw [k5]; rfl
  by_cases hf0 : s.first < 0
  ·have e : lineR k a b i h (fun s => runF t kids (i + 1) none h s) s = (⟨3, 0⟩, ⟨s.log, s.fs, (i : Int)⟩) := by
    unfold lineR lineS; rw [jump1 hf0 hj, if_neg (by omega), if_neg (by omega), if_neg (by omega), if_neg (by omega), if_neg (by omega), if_neg (by omega), if_pos k5]
   rw [e]
   simp +contextual -dsimp -implicitDefEqProofs (maxSteps:=5000000) only [go_sem,reduceIte,reduceCtorEq,Nat.reduceEqDiff,Nat.reduceBEq,Nat.reduceAdd,Nat.reduceLeDiff,Nat.reduceMul,Nat.reduceLT,Int.reduceEq,Int.reduceLT,Int.reduceLE,hi,hx,n1,n2,k5,hf0,hj,show jumpsK 5 = true from rfl]
   refine retR_less (l := [.agg (rEn ⟨3, 0⟩)]) (H' := H2.set bm _) ?_ (le_set (nb6 _)) ⟨rfl, hMi (i : Int)⟩
   simp only [resA,go_sem,reduceIte,reduceCtorEq,Nat.reduceEqDiff,Nat.reduceBEq,Nat.reduceAdd,Nat.reduceLeDiff,Nat.reduceMul,Nat.reduceLT,Int.reduceEq,Int.reduceLT,Int.reduceLE,rEn]
  ·have e : lineR k a b i h (fun s => runF t kids (i + 1) none h s) s = (⟨3, 0⟩, ⟨s.log, s.fs, s.first⟩) := by
    unfold lineR lineS; rw [jump0 hf0, if_neg (by omega), if_neg (by omega), if_neg (by omega), if_neg (by omega), if_neg (by omega), if_neg (by omega), if_pos k5]
   rw [e]
   simp +contextual -dsimp -implicitDefEqProofs (maxSteps:=5000000) only [go_sem,reduceIte,reduceCtorEq,Nat.reduceEqDiff,Nat.reduceBEq,Nat.reduceAdd,Nat.reduceLeDiff,Nat.reduceMul,Nat.reduceLT,Int.reduceEq,Int.reduceLT,Int.reduceLE,hi,hx,n1,n2,k5,hf0,hj,show jumpsK 5 = true from rfl]
   refine retR_less (l := [.agg (rEn ⟨3, 0⟩)]) (H' := H2.set bm _) ?_ (le_set (nb6 _)) ⟨rfl, hMi s.first⟩
   simp only [resA,go_sem,reduceIte,reduceCtorEq,Nat.reduceEqDiff,Nat.reduceBEq,Nat.reduceAdd,Nat.reduceLeDiff,Nat.reduceMul,Nat.reduceLT,Int.reduceEq,Int.reduceLT,Int.reduceLE,rEn]
 by_cases k6 : k = 6
 ·have hj : jumpsK k = true := by rw [k6]; rfl
  by_cases hf0 : s.first < 0
  ·have e : lineR k a b i h (fun s => runF t kids (i + 1) none h s) s = (⟨4, 0⟩, ⟨s.log, s.fs, (i : Int)⟩) := by
    unfold lineR lineS; rw [jump1 hf0 hj, if_neg (by omega), if_neg (by omega), if_neg (by omega), if_neg (by omega), if_neg (by omega), if_neg (by omega), if_neg (by omega), if_pos k6]
   rw [e]
   simp +contextual -dsimp -implicitDefEqProofs (maxSteps:=5000000) only [go_sem,reduceIte,reduceCtorEq,Nat.reduceEqDiff,Nat.reduceBEq,Nat.reduceAdd,Nat.reduceLeDiff,Nat.reduceMul,Nat.reduceLT,Int.reduceEq,Int.reduceLT,Int.reduceLE,hi,hx,n1,n2,k6,hf0,hj,show jumpsK 6 = true from rfl]
   refine retR_less (l := [.agg (rEn ⟨4, 0⟩)]) (H' := H2.set bm _) ?_ (le_set (nb6 _)) ⟨rfl, hMi (i : Int)⟩
   simp only [resA,go_sem,reduceIte,reduceCtorEq,Nat.reduceEqDiff,Nat.reduceBEq,Nat.reduceAdd,Nat.reduceLeDiff,Nat.reduceMul,Nat.reduceLT,Int.reduceEq,Int.reduceLT,Int.reduceLE,rEn]
  ·have e : lineR k a b i h (fun s => runF t kids (i + 1) none h s) s = (⟨4, 0⟩, ⟨s.log, s.fs, s.first⟩) := by
    unfold lineR lineS; rw [jump0 hf0, if_neg (by omega), if_neg (by omega), if_neg (by omega), if_neg (by omega), if_neg (by omega), if_neg (by omega), if_neg (by omega), if_pos k6]
   rw [e]
   simp +contextual -dsimp -implicitDefEqProofs (maxSteps:=5000000) only [go_sem,reduceIte,reduceCtorEq,Nat.reduceEqDiff,Nat.reduceBEq,Nat.reduceAdd,Nat.reduceLeDiff,Nat.reduceMul,Nat.reduceLT,Int.reduceEq,Int.reduceLT,Int.reduceLE,hi,hx,n1,n2,k6,hf0,hj,show jumpsK 6 = true from rfl]
   refine retR_less (l := [.agg (rEn ⟨4, 0⟩)]) (H' := H2.set bm _) ?_ (le_set (nb6 _)) ⟨rfl, hMi s.first⟩
   simp only [resA,go_sem,reduceIte,reduceCtorEq,Nat.reduceEqDiff,Nat.reduceBEq,Nat.reduceAdd,Nat.reduceLeDiff,Nat.reduceMul,Nat.reduceLT,Int.reduceEq,Int.reduceLT,Int.reduceLE,rEn]
 have hj : jumpsK k = false := by
  simp only [jumpsK,inR,Bool.and_eq_false_iff,decide_eq_false_iff_not]; omega
 by_cases k1 : k = 1
 ·have e : lineR k a b i h (fun s => runF t kids (i + 1) none h s) s = (.next, ⟨s.log ++ [a], s.fs, s.first⟩) := by
   unfold lineR lineS; rw [jumpn hj, if_neg (by omega), if_neg (by omega), if_pos k1]; rfl
  rw [e]
  simp +contextual -dsimp -implicitDefEqProofs (maxSteps:=5000000) only [go_sem,reduceIte,reduceCtorEq,Nat.reduceEqDiff,Nat.reduceBEq,Nat.reduceAdd,Nat.reduceLeDiff,Nat.reduceMul,Nat.reduceLT,Int.reduceEq,Int.reduceLT,Int.reduceLE,hi,hx,n1,n2,k1,show jumpsK 1 = false from rfl]
  refine draw_intro [0, 0, 0, 0, 0, 0, 0, 0, 2, 0, 0, 2] AHeap.none (by kernel_rfl) none_le ?_
  simp +contextual -dsimp -implicitDefEqProofs (maxSteps:=5000000) only [go_sem,reduceIte,reduceCtorEq,Nat.reduceEqDiff,Nat.reduceBEq,Nat.reduceAdd,Nat.reduceLeDiff,Nat.reduceMul,Nat.reduceLT,Int.reduceEq,Int.reduceLT,Int.reduceLE,hi,hx,n1,n2,k1]
  refine mach_app1 hg1 hg2 hb n1 hn2 (by omega) fun x2 G G1 y1 y2 y3 y4 y5 => ?_
  obtain ⟨r1, r2⟩ := y5
  simp +contextual -dsimp -implicitDefEqProofs (maxSteps:=5000000) only [go_sem,reduceIte,reduceCtorEq,Nat.reduceEqDiff,Nat.reduceBEq,Nat.reduceAdd,Nat.reduceLeDiff,Nat.reduceMul,Nat.reduceLT,Int.reduceEq,Int.reduceLT,Int.reduceLE,n1,n2,r1,r2]
  refine retR_less (l := [.agg (rEn .next)]) (H' := G.set bm _) ?_ (le_set (by rw [set_other n1]; exact y4)) ⟨rfl, ⟨x2, xf, G1, G, hF, y1, y2, y3, rfl⟩⟩
  simp only [resA,go_sem,reduceIte,reduceCtorEq,Nat.reduceEqDiff,Nat.reduceBEq,Nat.reduceAdd,Nat.reduceLeDiff,Nat.reduceMul,Nat.reduceLT,Int.reduceEq,Int.reduceLT,Int.reduceLE,rEn,En.next]
 by_cases k11 : k = 11
 ·simp +contextual -dsimp -implicitDefEqProofs (maxSteps:=5000000) only [go_sem,reduceIte,reduceCtorEq,Nat.reduceEqDiff,Nat.reduceBEq,Nat.reduceAdd,Nat.reduceLeDiff,Nat.reduceMul,Nat.reduceLT,Int.reduceEq,Int.reduceLT,Int.reduceLE,hi,hx,n1,n2,k11,show jumpsK 11 = false from rfl]
  refine draw_intro [0, 0, 0, 0, 0, 0, 0, 0, 0, 2, 0, 0, 2] AHeap.none (by kernel_rfl) none_le ?_
  have ha := hno
  unfold numOk at ha
  rw [if_neg (by omega), if_neg (by omega), if_neg (by omega), if_pos k11, Bool.and_eq_true] at ha
  simp only [inR,Bool.and_eq_true,decide_eq_true_eq] at ha
  rw [if_neg (by omega)] at hl hf
  have hw1 : IntKind.i64.wrap (100 + a) = 100 + a := w64 (by omega) (by omega)
  have hw2 : IntKind.i64.wrap (200 + a) = 200 + a := w64 (by omega) (by omega)
  simp +contextual -dsimp -implicitDefEqProofs (maxSteps:=5000000) only [go_sem,reduceIte,reduceCtorEq,Nat.reduceEqDiff,Nat.reduceBEq,Nat.reduceAdd,Nat.reduceLeDiff,Nat.reduceMul,Nat.reduceLT,Int.reduceEq,Int.reduceLT,Int.reduceLE,hi,hx,n1,n2,k11,hw1]
  refine mach_app1 hg1 hg2 hb n1 hn2 (by omega) fun x2 G G1 y1 y2 y3 y4 y5 => ?_
  obtain ⟨r1, r2⟩ := y5
  simp +contextual -dsimp -implicitDefEqProofs (maxSteps:=5000000) only [go_sem,reduceIte,reduceCtorEq,Nat.reduceEqDiff,Nat.reduceBEq,Nat.reduceAdd,Nat.reduceLeDiff,Nat.reduceMul,Nat.reduceLT,Int.reduceEq,Int.reduceLT,Int.reduceLE,n1,n2,r1,r2]
  have hMt : MachS F (G.set bm ⟨5, 129, [[.vsl (t.map rClass) cl, aProg P clp, x2, xf, I s.first]]⟩) bm t cl P clp (s.tell (100 + a)) := ⟨x2, xf, G1, G, hF, y1, y2, y3, rfl⟩
  have hGb6 : (G.set bm ⟨5, 129, [[.vsl (t.map rClass) cl, aProg P clp, x2, xf, I s.first]]⟩) b6 = none := by rw [set_other n1]; exact y4
  have tl : (s.tell (100 + a)).log.length = s.log.length + 1 := by simp [RS.tell]
  have hgo := goes_run ht kids (i + 1) none (d + 1) h (s.tell (100 + a)) hk hs hh trivial
  have hgl := hgo.len
  refine (c_block ih hn hat hk (s := s.tell (100 + a)) hs hh (by rw [tl]; omega) (by show s.fs.length + _ ≤ _; omega) (mach_in (K := ⟨2, 88, [[I 0, I 0]]⟩) hMt hGb6) hp).mono ?_
  rintro _ H3 ⟨rfl, hM3⟩
  have e : lineR k a b i h (fun s => runF t kids (i + 1) none h s) s = withS a b (runF t kids (i + 1) none h (s.tell (100 + a))) := by
   unfold lineR; rw [if_pos k11]
  rw [e]
  generalize runF t kids (i + 1) none h (s.tell (100 + a)) = r at hM3 hgo hgl ⊢
  obtain ⟨H4, rfl, hM4, hn4⟩ := mach_out hM3 hF6
  obtain ⟨xl', xf', G2, G3, hF', hg1', hg2', hb', rfl⟩ := id hM4
  have hn5 := hn4
  rw [set_none] at hn5
  have hn6 := hn5.2.2
  simp +contextual -dsimp -implicitDefEqProofs (maxSteps:=5000000) only [go_sem,reduceIte,reduceCtorEq,Nat.reduceEqDiff,Nat.reduceBEq,Nat.reduceAdd,Nat.reduceLeDiff,Nat.reduceMul,Nat.reduceLT,Int.reduceEq,Int.reduceLT,Int.reduceLE,rEn,n1,n2,hi,hx]
  rintro b8 hb8
  refine draw_intro [0, 0, 0, 0, 0, 0, 0, 0, 0, 2, 0, 0, 2] AHeap.none (by kernel_rfl) none_le ?_
  simp +contextual -dsimp -implicitDefEqProofs (maxSteps:=5000000) only [go_sem,reduceIte,reduceCtorEq,Nat.reduceEqDiff,Nat.reduceBEq,Nat.reduceAdd,Nat.reduceLeDiff,Nat.reduceMul,Nat.reduceLT,Int.reduceEq,Int.reduceLT,Int.reduceLE,rEn,n1,n2,hi,hx,hw2]
  refine mach_app1 hg1' hg2' hb' n1 hn6 (by omega) fun x3 G4 G5 z1 z2 z3 z4 z5 => ?_
  obtain ⟨q1, q2⟩ := z5
  simp +contextual -dsimp -implicitDefEqProofs (maxSteps:=5000000) only [go_sem,reduceIte,reduceCtorEq,Nat.reduceEqDiff,Nat.reduceBEq,Nat.reduceAdd,Nat.reduceLeDiff,Nat.reduceMul,Nat.reduceLT,Int.reduceEq,Int.reduceLT,Int.reduceLE,n1,n2,q1,q2]
  have hMf : MachS F (G4.set bm ⟨5, 129, [[.vsl (t.map rClass) cl, aProg P clp, x3, xf', I r.2.first]]⟩) bm t cl P clp (r.2.tell (200 + a)) := ⟨x3, xf', G5, G4, hF', z1, z2, z3, rfl⟩
  unfold withS
  have hGf : (G4.set bm ⟨5, 129, [[.vsl (t.map rClass) cl, aProg P clp, x3, xf', I r.2.first]]⟩) b6 = none := by rw [set_other n1]; exact z4
  by_cases hc : r.1.ed = 2 ∧ b = 1
  ·rw [if_pos hc]
   simp +contextual -dsimp -implicitDefEqProofs (maxSteps:=5000000) only [go_sem,reduceIte,reduceCtorEq,Nat.reduceEqDiff,Nat.reduceBEq,Nat.reduceAdd,Nat.reduceLeDiff,Nat.reduceMul,Nat.reduceLT,Int.reduceEq,Int.reduceLT,Int.reduceLE,n1,n2,q1,q2,hc.1,hc.2]
   refine retR_less (l := [.agg (rEn .next)]) (H' := G4.set bm _) ?_ (le_set hGf) ⟨rfl, hMf⟩
   simp only [resA,go_sem,reduceIte,reduceCtorEq,Nat.reduceEqDiff,Nat.reduceBEq,Nat.reduceAdd,Nat.reduceLeDiff,Nat.reduceMul,Nat.reduceLT,Int.reduceEq,Int.reduceLT,Int.reduceLE,rEn,En.next]
  ·rw [if_neg hc]
   by_cases hc1 : r.1.ed = 2
   ·have hc2 : ¬ b = 1 := fun q => hc ⟨hc1, q⟩
    simp +contextual -dsimp -implicitDefEqProofs (maxSteps:=5000000) only [go_sem,reduceIte,reduceCtorEq,Nat.reduceEqDiff,Nat.reduceBEq,Nat.reduceAdd,Nat.reduceLeDiff,Nat.reduceMul,Nat.reduceLT,Int.reduceEq,Int.reduceLT,Int.reduceLE,n1,n2,q1,q2,hc1,hc2]
    refine retR_less (l := [.agg (rEn r.1)]) (H' := G4.set bm _) ?_ (le_set hGf) ⟨rfl, hMf⟩
    simp only [resA,go_sem,reduceIte,reduceCtorEq,Nat.reduceEqDiff,Nat.reduceBEq,Nat.reduceAdd,Nat.reduceLeDiff,Nat.reduceMul,Nat.reduceLT,Int.reduceEq,Int.reduceLT,Int.reduceLE,rEn,hc1]
   ·simp +contextual -dsimp -implicitDefEqProofs (maxSteps:=5000000) only [go_sem,reduceIte,reduceCtorEq,Nat.reduceEqDiff,Nat.reduceBEq,Nat.reduceAdd,Nat.reduceLeDiff,Nat.reduceMul,Nat.reduceLT,Int.reduceEq,Int.reduceLT,Int.reduceLE,n1,n2,q1,q2,hc1]
    refine retR_less (l := [.agg (rEn r.1)]) (H' := G4.set bm _) ?_ (le_set hGf) ⟨rfl, hMf⟩
    simp only [resA,go_sem,reduceIte,reduceCtorEq,Nat.reduceEqDiff,Nat.reduceBEq,Nat.reduceAdd,Nat.reduceLeDiff,Nat.reduceMul,Nat.reduceLT,Int.reduceEq,Int.reduceLT,Int.reduceLE,rEn]
 by_cases k12 : k = 12
 ·have ha := hno
  unfold numOk at ha
  rw [if_neg (by omega), if_neg (by omega), if_neg (by omega), if_neg (by omega), if_pos k12, Bool.and_eq_true] at ha
  simp only [inR,Bool.and_eq_true,decide_eq_true_eq] at ha
  rw [if_pos k12] at hl hf
  have e : lineR k a b i h (fun s => runF t kids (i + 1) none h s) s = loopS (fun s => runF t kids (i + 1) none h s) a.toNat s := by
   unfold lineR; rw [if_neg (by omega), if_pos k12]
  rw [e]
  simp +contextual -dsimp -implicitDefEqProofs (maxSteps:=5000000) only [go_sem,reduceIte,reduceCtorEq,Nat.reduceEqDiff,Nat.reduceBEq,Nat.reduceAdd,Nat.reduceLeDiff,Nat.reduceMul,Nat.reduceLT,Int.reduceEq,Int.reduceLT,Int.reduceLE,hi,hx,n1,n2,k12,show jumpsK 12 = false from rfl]
  refine aloop mixed (fz := fun r => if r = 1 then [7] else if r = 21 then [8] else if r = 29 then [9] else []) (im := fun _ => false) (by kernel_rfl) (fun m tm H' => ∃ (s' : RS) (H'' : AHeap), m ≤ a.toNat ∧ H' = H''.set b6 ⟨2, 88, [[I 0, I 0]]⟩ ∧ H'' b6 = none ∧ MachS F H'' bm t cl P clp s' ∧ FsOk t s'.fs ∧ s.fs.length ≤ s'.fs.length ∧ s'.fs.length ≤ s.fs.length + (a.toNat - m) * cost kids ∧ s'.log.length ≤ s.log.length + (a.toNat - m) * cost kids ∧ loopS (fun s => runF t kids (i + 1) none h s) a.toNat s = loopS (fun s => runF t kids (i + 1) none h s) m s' ∧ tm 0 = .ptr bm 5 0 0 ∧ tm 1 = I i ∧ tm 2 = I h ∧ tm 6 = .ptr b6 2 0 0 ∧ tm 117 = I a ∧ tm 118 = I (a.toNat - m : Nat)) a.toNat ⟨s, H2.set bm _, Nat.le_refl _, rfl, nb6 _, hM, hs, Nat.le_refl _, by omega, by omega, rfl, ?_⟩ ?_
  ·simp +contextual -dsimp -implicitDefEqProofs (maxSteps:=5000000) only [go_sem,reduceIte,reduceCtorEq,Nat.reduceEqDiff,Nat.reduceBEq,Nat.reduceAdd,Nat.reduceLeDiff,Nat.reduceMul,Nat.reduceLT,Int.reduceEq,Int.reduceLT,Int.reduceLE,n1,n2]
   rw [Nat.sub_self]; rfl
  ·rintro m tm _ ⟨s', H'', hm, rfl, hb6, hM', hs', g1, g2, g3, he, t0, t1, t2, t6, t117, t118⟩
   cases m with
   | zero =>
    have z : ¬ ((a.toNat - 0 : Nat) : Int) < a := by omega
    simp +contextual -dsimp -implicitDefEqProofs (maxSteps:=5000000) only [go_sem,reduceIte,reduceCtorEq,Nat.reduceEqDiff,Nat.reduceBEq,Nat.reduceAdd,Nat.reduceLeDiff,Nat.reduceMul,Nat.reduceLT,Int.reduceEq,Int.reduceLT,Int.reduceLE,n1,n2,t0,t1,t2,t6,t117,t118,z]
    rw [he]
    refine retR_less (l := [.agg (rEn .next)]) (H' := H'') ?_ (le_set hb6) ⟨rfl, hM'⟩
    simp only [resA,go_sem,reduceIte,reduceCtorEq,Nat.reduceEqDiff,Nat.reduceBEq,Nat.reduceAdd,Nat.reduceLeDiff,Nat.reduceMul,Nat.reduceLT,Int.reduceEq,Int.reduceLT,Int.reduceLE,rEn,En.next,t6]
   | succ m =>
    have z : ((a.toNat - (m + 1) : Nat) : Int) < a := by omega
    have w1 : (a.toNat - (m + 1)) * cost kids + cost kids ≤ a.toNat * cost kids := by
     rw [← Nat.succ_mul]; exact Nat.mul_le_mul_right _ (by omega)
    have w2 : (a.toNat - m) * cost kids = (a.toNat - (m + 1)) * cost kids + cost kids := by
     rw [← Nat.succ_mul]; congr 1; omega
    simp +contextual -dsimp -implicitDefEqProofs (maxSteps:=5000000) only [go_sem,reduceIte,reduceCtorEq,Nat.reduceEqDiff,Nat.reduceBEq,Nat.reduceAdd,Nat.reduceLeDiff,Nat.reduceMul,Nat.reduceLT,Int.reduceEq,Int.reduceLT,Int.reduceLE,n1,n2,t0,t1,t2,t6,t117,t118,z]
    have hgo := goes_run ht kids (i + 1) none (d + 1) h s' hk hs' (by omega) trivial
    have hgl := hgo.len
    refine (c_block ih hn hat hk (s := s') hs' (by omega) (by omega) (by omega) (mach_in (K := ⟨2, 88, [[I 0, I 0]]⟩) hM' hb6) hp).mono ?_
    rintro _ H3 ⟨rfl, hM3⟩
    simp only [loopS] at he
    generalize runF t kids (i + 1) none h s' = r at hM3 hgo hgl he ⊢
    obtain ⟨H4, rfl, hM4, hn4⟩ := mach_out hM3 hF6
    by_cases c1 : r.1.ed = 1
    ·rw [if_pos (.inl c1)] at he
     simp +contextual -dsimp -implicitDefEqProofs (maxSteps:=5000000) only [go_sem,reduceIte,reduceCtorEq,Nat.reduceEqDiff,Nat.reduceBEq,Nat.reduceAdd,Nat.reduceLeDiff,Nat.reduceMul,Nat.reduceLT,Int.reduceEq,Int.reduceLT,Int.reduceLE,rEn,n1,n2,t0,t1,t2,t6,t117,t118,c1]
     rintro b9 hb9
     rw [he]
     refine retR_less (l := [.agg (rEn r.1)]) (H' := H4) ?_ (le_set hn4) ⟨rfl, hM4⟩
     simp only [resA,go_sem,reduceIte,reduceCtorEq,Nat.reduceEqDiff,Nat.reduceBEq,Nat.reduceAdd,Nat.reduceLeDiff,Nat.reduceMul,Nat.reduceLT,Int.reduceEq,Int.reduceLT,Int.reduceLE,rEn,c1,t6]
    by_cases c2 : r.1.ed = 2
    ·rw [if_pos (.inr c2)] at he
     simp +contextual -dsimp -implicitDefEqProofs (maxSteps:=5000000) only [go_sem,reduceIte,reduceCtorEq,Nat.reduceEqDiff,Nat.reduceBEq,Nat.reduceAdd,Nat.reduceLeDiff,Nat.reduceMul,Nat.reduceLT,Int.reduceEq,Int.reduceLT,Int.reduceLE,rEn,n1,n2,t0,t1,t2,t6,t117,t118,c2]
     rintro b9 hb9
     rw [he]
     refine retR_less (l := [.agg (rEn r.1)]) (H' := H4) ?_ (le_set hn4) ⟨rfl, hM4⟩
     simp only [resA,go_sem,reduceIte,reduceCtorEq,Nat.reduceEqDiff,Nat.reduceBEq,Nat.reduceAdd,Nat.reduceLeDiff,Nat.reduceMul,Nat.reduceLT,Int.reduceEq,Int.reduceLT,Int.reduceLE,rEn,c2,t6]
    rw [if_neg (fun q => q.elim c1 c2)] at he
    by_cases c3 : r.1.ed = 3
    ·rw [if_pos c3] at he
     simp +contextual -dsimp -implicitDefEqProofs (maxSteps:=5000000) only [go_sem,reduceIte,reduceCtorEq,Nat.reduceEqDiff,Nat.reduceBEq,Nat.reduceAdd,Nat.reduceLeDiff,Nat.reduceMul,Nat.reduceLT,Int.reduceEq,Int.reduceLT,Int.reduceLE,rEn,n1,n2,t0,t1,t2,t6,t117,t118,c3]
     rintro b9 hb9
     rw [he]
     refine retR_less (l := [.agg (rEn .next)]) (H' := H4) ?_ (le_set hn4) ⟨rfl, hM4⟩
     simp only [resA,go_sem,reduceIte,reduceCtorEq,Nat.reduceEqDiff,Nat.reduceBEq,Nat.reduceAdd,Nat.reduceLeDiff,Nat.reduceMul,Nat.reduceLT,Int.reduceEq,Int.reduceLT,Int.reduceLE,rEn,En.next,t6]
    ·rw [if_neg c3] at he
     simp +contextual -dsimp -implicitDefEqProofs (maxSteps:=5000000) only [go_sem,reduceIte,reduceCtorEq,Nat.reduceEqDiff,Nat.reduceBEq,Nat.reduceAdd,Nat.reduceLeDiff,Nat.reduceMul,Nat.reduceLT,Int.reduceEq,Int.reduceLT,Int.reduceLE,rEn,n1,n2,t0,t1,t2,t6,t117,t118,c1,c2,c3]
     rintro b9 hb9
     exact ⟨m, by omega, r.2, H4, by omega, rfl, hn4, hM4, hgo.ok, by omega, by omega, by omega, he, I_wrap (by omega) (by omega) (by omega)⟩
 ·have e : lineR k a b i h (fun s => runF t kids (i + 1) none h s) s = (.next, ⟨s.log, s.fs, s.first⟩) := by
   unfold lineR lineS; rw [jumpn hj, if_neg k11, if_neg k12, if_neg k1, if_neg k2, if_neg k3, if_neg k4, if_neg k5, if_neg k6]
  rw [e]
  simp +contextual -dsimp -implicitDefEqProofs (maxSteps:=5000000) only [go_sem,reduceIte,reduceCtorEq,Nat.reduceEqDiff,Nat.reduceBEq,Nat.reduceAdd,Nat.reduceLeDiff,Nat.reduceMul,Nat.reduceLT,Int.reduceEq,Int.reduceLT,Int.reduceLE,hi,hx,n1,n2,k1,k2,k3,k4,k5,k6,k11,k12,hj]
  refine retR_less (l := [.agg (rEn .next)]) (H' := H2.set bm _) ?_ (le_set (nb6 _)) ⟨rfl, hMi s.first⟩
  simp only [resA,go_sem,reduceIte,reduceCtorEq,Nat.reduceEqDiff,Nat.reduceBEq,Nat.reduceAdd,Nat.reduceLeDiff,Nat.reduceMul,Nat.reduceLT,Int.reduceEq,Int.reduceLT,Int.reduceLE,rEn,En.next]
end
section
open Go Go.Sim
set_option maxRecDepth 100000
set_option maxHeartbeats 4000000

section
variable {F H : AHeap} {bm c6 c7 c8 : Nat} {t p : AV} {log : List Int} {fs : List Fault} {first : Int} {K6 K7 K8 : ABlk}
theorem mach_in3 (hM : Mach F H bm t p log fs first) (h6 : H c6 = none) (h7 : H c7 = none) (h8 : H c8 = none) (d67 : ¬ c7 = c6) (d68 : ¬ c8 = c6) (d78 : ¬ c8 = c7) :
  Mach (((F.set c6 K6).set c7 K7).set c8 K8) (((H.set c6 K6).set c7 K7).set c8 K8) bm t p log fs first :=
 mach_in (mach_in (mach_in hM h6) (by rw [set_other d67]; exact h7)) (by rw [set_other d78, set_other d68]; exact h8)
theorem mach_out3 (hM : Mach (((F.set c6 K6).set c7 K7).set c8 K8) H bm t p log fs first) (h6 : F c6 = none) (h7 : F c7 = none) (h8 : F c8 = none) (d67 : ¬ c7 = c6) (d68 : ¬ c8 = c6) (d78 : ¬ c8 = c7) :
  ∃ H', H = ((H'.set c6 K6).set c7 K7).set c8 K8 ∧ Mach F H' bm t p log fs first ∧ H' c6 = none ∧ H' c7 = none ∧ H' c8 = none := by
 obtain ⟨H1, rfl, m1, n1⟩ := mach_out hM (by rw [set_other d78, set_other d68]; exact h8)
 obtain ⟨H2, rfl, m2, n2⟩ := mach_out m1 (by rw [set_other d67]; exact h7)
 obtain ⟨H3, rfl, m3, n3⟩ := mach_out m2 h6
 rw [set_other d78, set_other d68] at n1
 rw [set_other d67] at n2
 exact ⟨H3, rfl, m3, n3, n2, n1⟩
end
theorem c_try {t : List Class} {cl : Bool} {P : List Line} {clp : Bool} {n : Nat} (ht : validT t = true) (ih : LinesOk t cl P clp n) {i : Nat} {d k a b h : Int} {kids rest : Fo} {s : RS} {F H : AHeap} {bm : Nat} (cl2 : Bool)
  (hn : kids.size + rest.size < n) (hat : At P i d (.node k a b kids rest)) (hk : numsF t kids (d + 1) = true) (hr : numsF t rest d = true) (hs : FsOk t s.fs) (hh : h < s.fs.length) (hl : s.log.length + (cost kids + cost rest) ≤ 900000) (hf : s.fs.length + (cost kids + cost rest) ≤ 900000) (hM : MachS F H bm t cl P clp s) (hp : P.length ≤ 4398046511104) :
  ACalls Tryz.prog 96 [.ptr bm 5 0 0, .vsl ((toI (i :: chainN rest (i + 1 + kids.size))).map rI) cl2, I h] H fun r H' =>
   r = .agg (rEn (chainR t rest (i + 1 + kids.size) (runF t kids (i + 1) none h s).1 (runF t kids (i + 1) none h s).1 h (runF t kids (i + 1) none h s).2).1) ∧
   MachS F H' bm t cl P clp (chainR t rest (i + 1 + kids.size) (runF t kids (i + 1) none h s).1 (runF t kids (i + 1) none h s).1 h (runF t kids (i + 1) none h s).2).2 := by
 have ed : ∀ k : Nat, (toI (i :: chainN rest (i + 1 + kids.size))).drop k = toI ((i :: chainN rest (i + 1 + kids.size)).drop k) := fun k => toI_drop _ _
 have e0 : (i :: chainN rest (i + 1 + kids.size)).getD 0 default = i := rfl
 refine acalls_of1 Tryz.func96 rfl (by kernel_rfl) rfl rfl (awp_sound (fz := fun r => if r = 6 then [11] else if r = 19 then [13] else []) (im := fun _ => false) mixed _ _ _ _ (by kernel_rfl) ?_)
 simp +contextual -dsimp -implicitDefEqProofs (maxSteps:=5000000) only [go_sem,reduceIte,reduceCtorEq,Nat.reduceEqDiff,Nat.reduceBEq,Nat.reduceAdd,Nat.reduceLeDiff,Nat.reduceMul,Nat.reduceLT,Int.reduceEq,Int.reduceLT,Int.reduceLE,toI_len,toI_at,List.length_cons,e0]
 intro b6 hb6
 have hF6 := mach_none hM hb6
 have hgo := goes_run ht kids (i + 1) none (d + 1) h s hk hs hh trivial
 have hgl := hgo.len
 refine ⟨by omega, by omega, ?_⟩
 refine (c_block ih (by omega) hat hk hs hh (by omega) (by omega) (mach_in (K := ⟨2, 88, [[I 0, I 0]]⟩) hM hb6) hp).mono ?_
 rintro _ H3 ⟨rfl, hM3⟩
 generalize runF t kids (i + 1) none h s = r at hM3 hgo hgl ⊢
 obtain ⟨H4, rfl, hM4, hn4⟩ := mach_out hM3 hF6
 simp +contextual -dsimp -implicitDefEqProofs (maxSteps:=5000000) only [go_sem,reduceIte,reduceCtorEq,Nat.reduceEqDiff,Nat.reduceBEq,Nat.reduceAdd,Nat.reduceLeDiff,Nat.reduceMul,Nat.reduceLT,Int.reduceEq,Int.reduceLT,Int.reduceLE,rEn]
 rintro b7 ⟨d76, d67, n7⟩ b8 ⟨d87, d78, d86, d68, n8⟩
 rw [show (1 : Int).toNat = 1 from rfl, ed, List.drop_succ_cons, List.drop_zero, toI_len]
 refine ⟨by rw [List.length_cons]; omega, ?_⟩
 have hrat := hat.rest
 have hF7 : F b7 = none := mach_none hM4 n7
 have hF8 : F b8 = none := mach_none hM4 n8
 generalize i + 1 + kids.size = j at hrat ⊢
 have hch := chain_len rest j
 have hrl := hrat.len
 refine aloop mixed (fz := fun r => if r = 6 then [11] else if r = 19 then [13] else []) (im := fun _ => false) (by kernel_rfl) (fun m tm H' => ∃ (g : Fo) (q x : Nat) (st e : En) (s' : RS) (H'' : AHeap), m = g.size ∧ At P q d g ∧ numsF t g d = true ∧ g.size ≤ rest.size ∧ (chainN rest j).drop x = chainN g q ∧ x ≤ (chainN rest j).length ∧ FsOk t s'.fs ∧ s.fs.length ≤ s'.fs.length ∧ PdOk s' (some (st, e)) ∧ s'.log.length + cost g ≤ 900000 ∧ s'.fs.length + cost g ≤ 900000 ∧ chainR t rest j r.1 r.1 h r.2 = chainR t g q st e h s' ∧
   H' = ((H''.set b6 ⟨2, 88, [[I 0, I 0]]⟩).set b7 ⟨2, 88, [rEn e]⟩).set b8 ⟨2, 88, [rEn st]⟩ ∧ H'' b6 = none ∧ H'' b7 = none ∧ H'' b8 = none ∧ MachS F H'' bm t cl P clp s' ∧
   tm 0 = .ptr bm 5 0 0 ∧ tm 2 = I h ∧ tm 6 = .ptr b6 2 0 0 ∧ tm 7 = .ptr b7 2 0 0 ∧ tm 8 = .ptr b8 2 0 0 ∧ tm 22 = .vsl ((toI (chainN rest j)).map rI) cl2 ∧ tm 23 = I (chainN rest j).length ∧ tm 24 = I x) rest.size ⟨rest, j, 0, r.1, r.1, r.2, H4, rfl, hrat, hr, Nat.le_refl _, rfl, Nat.zero_le _, hgo.ok, hgl.1, ⟨hgo.val, hgo.val⟩, by omega, by omega, rfl, rfl, hn4, n7, n8, hM4, ?_⟩ ?_
 ·simp +contextual -dsimp -implicitDefEqProofs (maxSteps:=5000000) only [go_sem,reduceIte,reduceCtorEq,Nat.reduceEqDiff,Nat.reduceBEq,Nat.reduceAdd,Nat.reduceLeDiff,Nat.reduceMul,Nat.reduceLT,Int.reduceEq,Int.reduceLT,Int.reduceLE,rEn]
  rw [toI_len]
 ·rintro m tm _ ⟨g, q, x, st, e, s', H'', rfl, hgat, hgn, hgs, hdx, hxl, hs', hsl, hpd, bl, bf, he, rfl, h6, h7, h8, hM', t0, t2, t6, t7, t8, t22, t23, t24⟩
  have hexit : chainN g q = [] → chainR t g q st e h s' = (e, s') := by
   intro hq
   cases g with
   | nil => rfl
   | node k2 a2 b2 ks re =>
    simp only [chainN] at hq
    split at hq
    ·cases hq
    ·rename_i hk2
     simp only [chainR]; rw [if_neg hk2]
  cases hcq : chainN g q with
  | nil =>
   rw [hcq] at hdx
   have hx := drop_nil hdx
   rw [he, hexit hcq]
   simp +contextual -dsimp -implicitDefEqProofs (maxSteps:=5000000) only [go_sem,reduceIte,reduceCtorEq,Nat.reduceEqDiff,Nat.reduceBEq,Nat.reduceAdd,Nat.reduceLeDiff,Nat.reduceMul,Nat.reduceLT,Int.reduceEq,Int.reduceLT,Int.reduceLE,rEn,d76,d67,d87,d78,d86,d68,t0,t2,t6,t7,t8,t22,t23,t24,hx]
   refine retR_less (l := [.agg (rEn e)]) (H' := H'') ?_ (le_s1 (le_s1 (le_s1 (AHeap.le_refl _) h6) h7) h8) ⟨rfl, hM'⟩
   simp only [resA,go_sem,reduceIte,reduceCtorEq,Nat.reduceEqDiff,Nat.reduceBEq,Nat.reduceAdd,Nat.reduceLeDiff,Nat.reduceMul,Nat.reduceLT,Int.reduceEq,Int.reduceLT,Int.reduceLE,rEn,d76,d67,d87,d78,d86,d68,t6]
  | cons q' tl =>
   cases g with
   | nil => simp [chainN] at hcq
   | node k2 a2 b2 ks re =>
    have hk2 : followsK k2 = true := by
     simp only [chainN] at hcq
     split at hcq
     ·assumption
     ·cases hcq
    have hdx' : (chainN rest j).drop x = q :: chainN re (q + 1 + ks.size) := by
     rw [hdx]; simp only [chainN]; rw [if_pos hk2]
    obtain ⟨hx1, hx2, hx3⟩ := drop_cons hdx'
    have hf' := hk2
    simp only [followsK,inR,Bool.and_eq_true,decide_eq_true_eq] at hf'
    obtain ⟨n1, n2, n3, n4, n5⟩ := numsF_node hgn
    have hc := cost_node_le (k := k2) (a := a2) (b := b2) (kids := ks) (rest := re) (by omega)
    have hh2 := hgat.head
    have hsz : (Fo.node k2 a2 b2 ks re).size = 1 + ks.size + re.size := rfl
    have hch2 : chainR t (.node k2 a2 b2 ks re) q st e h s' = chainR t (.node k2 a2 b2 ks re) q st e h s' := rfl
    conv at hch2 => rhs; simp only [chainR]; rw [if_pos hk2]
    obtain ⟨xl, xf, H1, H2, hFm, hg1, hg2, hb, rfl⟩ := id hM'
    have h6' := h6
    have h7' := h7
    have h8' := h8
    rw [set_none] at h6' h7' h8'
    obtain ⟨m1, m2, m3⟩ := h6'
    obtain ⟨m4, m5, m6⟩ := h7'
    obtain ⟨m7, m8, m9⟩ := h8'
    have hgol : h < s'.fs.length := by omega
    have adv : ∀ (SZ : Nat) (st' e' : En) (s'' : RS) (H3 : AHeap), re.size < SZ → chainR t (.node k2 a2 b2 ks re) q st e h s' = chainR t re (q + 1 + ks.size) st' e' h s'' → FsOk t s''.fs → s.fs.length ≤ s''.fs.length → PdOk s'' (some (st', e')) → s''.log.length + cost re ≤ 900000 → s''.fs.length + cost re ≤ 900000 → H3 b6 = none → H3 b7 = none → H3 b8 = none → MachS F H3 bm t cl P clp s'' →
      ∃ m', m' < SZ ∧ ∃ (g : Fo) (q x_1 : Nat) (st_1 e_1 : En) (s'_1 : RS) (H'' : AHeap), m' = g.size ∧ At P q d g ∧ numsF t g d = true ∧ g.size ≤ rest.size ∧ (chainN rest j).drop x_1 = chainN g q ∧ x_1 ≤ (chainN rest j).length ∧ FsOk t s'_1.fs ∧ s.fs.length ≤ s'_1.fs.length ∧ PdOk s'_1 (some (st_1, e_1)) ∧ s'_1.log.length + cost g ≤ 900000 ∧ s'_1.fs.length + cost g ≤ 900000 ∧ chainR t rest j r.1 r.1 h r.2 = chainR t g q st_1 e_1 h s'_1 ∧
       ((H3.set b6 ⟨2, 88, [[I 0, I 0]]⟩).set b7 ⟨2, 88, [[I e'.ed, I e'.val]]⟩).set b8 ⟨2, 88, [[I st'.ed, I st'.val]]⟩ = ((H''.set b6 ⟨2, 88, [[I 0, I 0]]⟩).set b7 ⟨2, 88, [[I e_1.ed, I e_1.val]]⟩).set b8 ⟨2, 88, [[I st_1.ed, I st_1.val]]⟩ ∧ H'' b6 = none ∧ H'' b7 = none ∧ H'' b8 = none ∧ MachS F H'' bm t cl P clp s'_1 ∧ AV.lit (.int .i64 (IntKind.i64.wrap ((x : Int) + 1))) = I x_1 :=
     fun SZ st' e' s'' H3 q1 q2 q3 q4 q5 q6 q7 q8 q9 q10 q11 => ⟨re.size, q1, re, q + 1 + ks.size, x + 1, st', e', s'', H3, rfl, hgat.rest, n5, by omega, hx3, hx1, q3, q4, q5, q6, q7, by rw [he]; exact q2, rfl, q8, q9, q10, q11, I_wrap (by omega) (by omega) (by omega)⟩
    have szl : ∀ k : Int, re.size < (Fo.node k a2 b2 ks re).size := fun k => by simp only [Fo.size]; omega
    by_cases k9 : k2 = 9
    ·rw [if_neg (by omega), if_pos k9] at hch2
     by_cases c0 : st.ed = 0
     ·rw [if_pos c0] at hch2
      simp +contextual -dsimp -implicitDefEqProofs (maxSteps:=5000000) only [go_sem,reduceIte,reduceCtorEq,Nat.reduceEqDiff,Nat.reduceBEq,Nat.reduceAdd,Nat.reduceLeDiff,Nat.reduceMul,Nat.reduceLT,Int.reduceEq,Int.reduceLT,Int.reduceLE,rEn,d76,d67,d87,d78,d86,d68,m1,m2,m4,m5,m7,m8,t0,t2,t6,t7,t8,t22,t23,t24,toI_len,toI_at,hx1,hx2,hh2.1,hh2.2,k9,c0]
      rintro b11 hb11
      have hgo2 := goes_run ht ks (q + 1) none (d + 1) h s' n4 hs' hgol trivial
      have hgl2 := hgo2.len
      refine (c_block ih (by omega) hgat n4 hs' hgol (by omega) (by omega) (mach_in3 (K6 := ⟨2, 88, [[I 0, I 0]]⟩) (K7 := ⟨2, 88, [rEn e]⟩) (K8 := ⟨2, 88, [[I 0, I st.val]]⟩) hM' h6 h7 h8 d76 d86 d87) hp).mono ?_
      rintro _ H3 ⟨rfl, hM3⟩
      generalize runF t ks (q + 1) none h s' = r2 at hM3 hgo2 hgl2 hch2
      obtain ⟨H5, rfl, hM5, w6, w7, w8⟩ := mach_out3 hM3 hF6 hF7 hF8 d76 d86 d87
      simp +contextual -dsimp -implicitDefEqProofs (maxSteps:=5000000) only [go_sem,reduceIte,reduceCtorEq,Nat.reduceEqDiff,Nat.reduceBEq,Nat.reduceAdd,Nat.reduceLeDiff,Nat.reduceMul,Nat.reduceLT,Int.reduceEq,Int.reduceLT,Int.reduceLE,rEn,d76,d67,d87,d78,d86,d68,m1,m2,m4,m5,m7,m8,t0,t2,t6,t7,t8,t22,t23,t24,toI_len,toI_at,hx1,hx2,hh2.1,hh2.2,k9,c0]
      have fin := adv _ st r2.1 r2.2 H5 (szl 9) hch2 hgo2.ok (by omega) ⟨fun z => absurd (show st.ed = 2 from z) (by omega), hgo2.val⟩ (by omega) (by omega) w6 w7 w8 hM5
      rw [c0] at fin
      exact fin
     ·rw [if_neg c0] at hch2
      simp +contextual -dsimp -implicitDefEqProofs (maxSteps:=5000000) only [go_sem,reduceIte,reduceCtorEq,Nat.reduceEqDiff,Nat.reduceBEq,Nat.reduceAdd,Nat.reduceLeDiff,Nat.reduceMul,Nat.reduceLT,Int.reduceEq,Int.reduceLT,Int.reduceLE,rEn,d76,d67,d87,d78,d86,d68,m1,m2,m4,m5,m7,m8,t0,t2,t6,t7,t8,t22,t23,t24,toI_len,toI_at,hx1,hx2,hh2.1,hh2.2,k9,c0]
      rintro b11 hb11
      exact adv _ st e s' _ (szl 9) hch2 hs' hsl hpd (by omega) (by omega) h6 h7 h8 hM'
    ·by_cases k8 : k2 = 8
     ·rw [if_pos k8] at hch2
      by_cases c2 : st.ed = 2
      ·have hsv := hpd.1 c2
       simp only at hsv
       have sv0 := hsv.1
       have sv1 := hsv.2
       have sv2 : st.val.toNat < s'.fs.length := by omega
       have hcl := (hs'.cls st.val.toNat sv2).1
       have hcl2 := hasF_spec hcl
       simp +contextual -dsimp -implicitDefEqProofs (maxSteps:=5000000) only [go_sem,reduceIte,reduceCtorEq,Nat.reduceEqDiff,Nat.reduceBEq,Nat.reduceAdd,Nat.reduceLeDiff,Nat.reduceMul,Nat.reduceLT,Int.reduceEq,Int.reduceLT,Int.reduceLE,rEn,d76,d67,d87,d78,d86,d68,m1,m2,m4,m5,m7,m8,t0,t2,t6,t7,t8,t22,t23,t24,toI_len,toI_at,hx1,hx2,hh2.1,hh2.2,k8,c2]
       rintro b11 hb11
       refine draw_intro [0, 0, 0, 0, 0, 0, 0, 0, 0, 0, 0, 0, 0, 0, 0, 0, 0, 0, 0, 0, 2, 0] AHeap.none (by kernel_rfl) none_le ?_
       rcases hg2 with ⟨ee, _, _⟩ | ⟨bf, clf, hbf, rfl, rfl⟩
       ·rw [ee] at sv1; simp at sv1; omega
       have ub := hb
       have u6 := m3
       have u7 := m6
       have u8 := m9
       rw [set_none] at ub u6 u7 u8
       obtain ⟨v1, v2, _⟩ := ub
       obtain ⟨v3, v4, _⟩ := u6
       obtain ⟨v5, v6, _⟩ := u7
       obtain ⟨v7, v8, _⟩ := u8
       simp +contextual -dsimp -implicitDefEqProofs (maxSteps:=5000000) only [go_sem,reduceIte,reduceCtorEq,Nat.reduceEqDiff,Nat.reduceBEq,Nat.reduceAdd,Nat.reduceLeDiff,Nat.reduceMul,Nat.reduceLT,Int.reduceEq,Int.reduceLT,Int.reduceLE,rEn,d76,d67,d87,d78,d86,d68,m1,m2,m4,m5,m7,m8,t0,t2,t6,t7,t8,t22,t23,t24,toI_len,toI_at,hx1,hx2,hh2.1,hh2.2,k8,c2,v1,v2,v3,v4,v5,v6,v7,v8,sv0,sv1,sv2]
       refine (c_is t cl _ a2 _ ht hcl2.2).det ?_
       simp +contextual -dsimp -implicitDefEqProofs (maxSteps:=5000000) only [go_sem,reduceIte,reduceCtorEq,Nat.reduceEqDiff,Nat.reduceBEq,Nat.reduceAdd,Nat.reduceLeDiff,Nat.reduceMul,Nat.reduceLT,Int.reduceEq,Int.reduceLT,Int.reduceLE,rEn,d76,d67,d87,d78,d86,d68,m1,m2,m4,m5,m7,m8,t0,t2,t6,t7,t8,t22,t23,t24,toI_len,toI_at,hx1,hx2,hh2.1,hh2.2,k8,c2,v1,v2,v3,v4,v5,v6,v7,v8,sv0,sv1,sv2]
       refine ⟨fun hq => ?_, fun hq => ?_⟩
       ·rw [if_pos ⟨c2, hq⟩] at hch2
        have hgo2 := goes_run ht ks (q + 1) none (d + 1) st.val s' n4 hs' sv1 trivial
        have hgl2 := hgo2.len
        refine (c_block ih (by omega) hgat n4 hs' sv1 (by omega) (by omega) (mach_in3 (K6 := ⟨2, 88, [[I 0, I 0]]⟩) (K7 := ⟨2, 88, [rEn e]⟩) (K8 := ⟨2, 88, [[I 2, I st.val]]⟩) hM' h6 h7 h8 d76 d86 d87) hp).mono ?_
        rintro _ H3 ⟨rfl, hM3⟩
        generalize runF t ks (q + 1) none st.val s' = r2 at hM3 hgo2 hgl2 hch2
        obtain ⟨H5, rfl, hM5, w6, w7, w8⟩ := mach_out3 hM3 hF6 hF7 hF8 d76 d86 d87
        simp +contextual -dsimp -implicitDefEqProofs (maxSteps:=5000000) only [go_sem,reduceIte,reduceCtorEq,Nat.reduceEqDiff,Nat.reduceBEq,Nat.reduceAdd,Nat.reduceLeDiff,Nat.reduceMul,Nat.reduceLT,Int.reduceEq,Int.reduceLT,Int.reduceLE,rEn,d76,d67,d87,d78,d86,d68,m1,m2,m4,m5,m7,m8,t0,t2,t6,t7,t8,t22,t23,t24,toI_len,toI_at,hx1,hx2,hh2.1,hh2.2,k8,c2]
        exact adv _ ⟨-1, 0⟩ r2.1 r2.2 H5 (szl 8) hch2 hgo2.ok (by omega) ⟨(fun z => by cases z), hgo2.val⟩ (by omega) (by omega) w6 w7 w8 hM5
       ·rw [if_neg (fun z => by have := z.2; unfold isF clsOf at this; rw [hq] at this; cases this)] at hch2
        have fin := adv _ st e s' _ (szl 8) hch2 hs' hsl hpd (by omega) (by omega) h6 h7 h8 hM'
        rw [c2] at fin
        exact fin
      ·rw [if_neg (fun z => c2 z.1)] at hch2
       simp +contextual -dsimp -implicitDefEqProofs (maxSteps:=5000000) only [go_sem,reduceIte,reduceCtorEq,Nat.reduceEqDiff,Nat.reduceBEq,Nat.reduceAdd,Nat.reduceLeDiff,Nat.reduceMul,Nat.reduceLT,Int.reduceEq,Int.reduceLT,Int.reduceLE,rEn,d76,d67,d87,d78,d86,d68,m1,m2,m4,m5,m7,m8,t0,t2,t6,t7,t8,t22,t23,t24,toI_len,toI_at,hx1,hx2,hh2.1,hh2.2,k8,c2]
       rintro b11 hb11
       refine draw_intro [0, 0, 0, 0, 0, 0, 0, 0, 0, 0, 0, 0, 0, 0, 0, 0, 0, 0, 0, 0, 2, 0] AHeap.none (by kernel_rfl) none_le ?_
       simp +contextual -dsimp -implicitDefEqProofs (maxSteps:=5000000) only [go_sem,reduceIte,reduceCtorEq,Nat.reduceEqDiff,Nat.reduceBEq,Nat.reduceAdd,Nat.reduceLeDiff,Nat.reduceMul,Nat.reduceLT,Int.reduceEq,Int.reduceLT,Int.reduceLE,rEn,d76,d67,d87,d78,d86,d68,m1,m2,m4,m5,m7,m8,t0,t2,t6,t7,t8,t22,t23,t24,toI_len,toI_at,hx1,hx2,hh2.1,hh2.2,k8,c2]
       exact adv _ st e s' _ (szl 8) hch2 hs' hsl hpd (by omega) (by omega) h6 h7 h8 hM'
     ·have k10 : k2 = 10 := by omega
      rw [if_neg k8, if_neg k9] at hch2
      by_cases c2 : e.ed = 2
      ·have hev := hpd.2 c2
       simp only at hev
       rw [if_pos c2] at hch2
       simp +contextual -dsimp -implicitDefEqProofs (maxSteps:=5000000) only [go_sem,reduceIte,reduceCtorEq,Nat.reduceEqDiff,Nat.reduceBEq,Nat.reduceAdd,Nat.reduceLeDiff,Nat.reduceMul,Nat.reduceLT,Int.reduceEq,Int.reduceLT,Int.reduceLE,rEn,d76,d67,d87,d78,d86,d68,m1,m2,m4,m5,m7,m8,t0,t2,t6,t7,t8,t22,t23,t24,toI_len,toI_at,hx1,hx2,hh2.1,hh2.2,k10,c2]
       rintro b11 hb11
       have hgo2 := goes_run ht ks (q + 1) none (d + 1) e.val s' n4 hs' hev.2 trivial
       have hgl2 := hgo2.len
       refine (c_block ih (by omega) hgat n4 hs' hev.2 (by omega) (by omega) (mach_in3 (K6 := ⟨2, 88, [[I 0, I 0]]⟩) (K7 := ⟨2, 88, [[I 2, I e.val]]⟩) (K8 := ⟨2, 88, [rEn st]⟩) hM' h6 h7 h8 d76 d86 d87) hp).mono ?_
       rintro _ H3 ⟨rfl, hM3⟩
       generalize runF t ks (q + 1) none e.val s' = r2 at hM3 hgo2 hgl2 hch2
       obtain ⟨H5, rfl, hM5, w6, w7, w8⟩ := mach_out3 hM3 hF6 hF7 hF8 d76 d86 d87
       by_cases c0 : r2.1.ed = 0
       ·rw [if_pos c0] at hch2
        simp +contextual -dsimp -implicitDefEqProofs (maxSteps:=5000000) only [go_sem,reduceIte,reduceCtorEq,Nat.reduceEqDiff,Nat.reduceBEq,Nat.reduceAdd,Nat.reduceLeDiff,Nat.reduceMul,Nat.reduceLT,Int.reduceEq,Int.reduceLT,Int.reduceLE,rEn,d76,d67,d87,d78,d86,d68,m1,m2,m4,m5,m7,m8,t0,t2,t6,t7,t8,t22,t23,t24,toI_len,toI_at,hx1,hx2,hh2.1,hh2.2,k10,c2,c0]
        rintro b13 hb13
        have fin := adv _ st e r2.2 H5 (szl 10) hch2 hgo2.ok (by omega) ⟨fun z => by have := hpd.1 z; simp only at this; show 0 ≤ st.val ∧ st.val < (r2.2.fs.length : Int); omega, fun z => by have := hpd.2 z; simp only at this; show 0 ≤ e.val ∧ e.val < (r2.2.fs.length : Int); omega⟩ (by omega) (by omega) w6 w7 w8 hM5
        rw [c2] at fin
        exact fin
       ·rw [if_neg c0] at hch2
        simp +contextual -dsimp -implicitDefEqProofs (maxSteps:=5000000) only [go_sem,reduceIte,reduceCtorEq,Nat.reduceEqDiff,Nat.reduceBEq,Nat.reduceAdd,Nat.reduceLeDiff,Nat.reduceMul,Nat.reduceLT,Int.reduceEq,Int.reduceLT,Int.reduceLE,rEn,d76,d67,d87,d78,d86,d68,m1,m2,m4,m5,m7,m8,t0,t2,t6,t7,t8,t22,t23,t24,toI_len,toI_at,hx1,hx2,hh2.1,hh2.2,k10,c2,c0]
        rintro b13 hb13
        exact adv _ st r2.1 r2.2 H5 (szl 10) hch2 hgo2.ok (by omega) ⟨fun z => by have := hpd.1 z; simp only at this; show 0 ≤ st.val ∧ st.val < (r2.2.fs.length : Int); omega, hgo2.val⟩ (by omega) (by omega) w6 w7 w8 hM5
      ·rw [if_neg c2] at hch2
       simp +contextual -dsimp -implicitDefEqProofs (maxSteps:=5000000) only [go_sem,reduceIte,reduceCtorEq,Nat.reduceEqDiff,Nat.reduceBEq,Nat.reduceAdd,Nat.reduceLeDiff,Nat.reduceMul,Nat.reduceLT,Int.reduceEq,Int.reduceLT,Int.reduceLE,rEn,d76,d67,d87,d78,d86,d68,m1,m2,m4,m5,m7,m8,t0,t2,t6,t7,t8,t22,t23,t24,toI_len,toI_at,hx1,hx2,hh2.1,hh2.2,k10,c2]
       rintro b11 hb11
       have hgo2 := goes_run ht ks (q + 1) none (d + 1) h s' n4 hs' hgol trivial
       have hgl2 := hgo2.len
       refine (c_block ih (by omega) hgat n4 hs' hgol (by omega) (by omega) (mach_in3 (K6 := ⟨2, 88, [[I 0, I 0]]⟩) (K7 := ⟨2, 88, [rEn e]⟩) (K8 := ⟨2, 88, [rEn st]⟩) hM' h6 h7 h8 d76 d86 d87) hp).mono ?_
       rintro _ H3 ⟨rfl, hM3⟩
       generalize runF t ks (q + 1) none h s' = r2 at hM3 hgo2 hgl2 hch2
       obtain ⟨H5, rfl, hM5, w6, w7, w8⟩ := mach_out3 hM3 hF6 hF7 hF8 d76 d86 d87
       by_cases c0 : r2.1.ed = 0
       ·rw [if_pos c0] at hch2
        simp +contextual -dsimp -implicitDefEqProofs (maxSteps:=5000000) only [go_sem,reduceIte,reduceCtorEq,Nat.reduceEqDiff,Nat.reduceBEq,Nat.reduceAdd,Nat.reduceLeDiff,Nat.reduceMul,Nat.reduceLT,Int.reduceEq,Int.reduceLT,Int.reduceLE,rEn,d76,d67,d87,d78,d86,d68,m1,m2,m4,m5,m7,m8,t0,t2,t6,t7,t8,t22,t23,t24,toI_len,toI_at,hx1,hx2,hh2.1,hh2.2,k10,c2,c0]
        rintro b13 hb13
        exact adv _ st e r2.2 H5 (szl 10) hch2 hgo2.ok (by omega) ⟨fun z => by have := hpd.1 z; simp only at this; show 0 ≤ st.val ∧ st.val < (r2.2.fs.length : Int); omega, fun z => absurd z c2⟩ (by omega) (by omega) w6 w7 w8 hM5
       ·rw [if_neg c0] at hch2
        simp +contextual -dsimp -implicitDefEqProofs (maxSteps:=5000000) only [go_sem,reduceIte,reduceCtorEq,Nat.reduceEqDiff,Nat.reduceBEq,Nat.reduceAdd,Nat.reduceLeDiff,Nat.reduceMul,Nat.reduceLT,Int.reduceEq,Int.reduceLT,Int.reduceLE,rEn,d76,d67,d87,d78,d86,d68,m1,m2,m4,m5,m7,m8,t0,t2,t6,t7,t8,t22,t23,t24,toI_len,toI_at,hx1,hx2,hh2.1,hh2.2,k10,c2,c0]
        rintro b13 hb13
        exact adv _ st r2.1 r2.2 H5 (szl 10) hch2 hgo2.ok (by omega) ⟨fun z => by have := hpd.1 z; simp only at this; show 0 ≤ st.val ∧ st.val < (r2.2.fs.length : Int); omega, hgo2.val⟩ (by omega) (by omega) w6 w7 w8 hM5
end
section
open Go Go.Sim
set_option maxRecDepth 100000
set_option maxHeartbeats 4000000

theorem goes_chain {t : List Class} (ht : validT t = true) : ∀ (f : Fo) (i : Nat) (st e : En) (d h : Int) (s : RS), numsF t f d = true → FsOk t s.fs → h < s.fs.length → PdOk s (some (st, e)) →
  ∃ c, c + cost (skipF f) ≤ cost f ∧ Goes t c s (chainR t f i st e h s).1 (chainR t f i st e h s).2
 | .nil, i, st, e, d, h, s, _, hs, _, hp => ⟨0, Nat.le_refl _, goes_self hs hp.2⟩
 | .node k a b kids rest, i, st, e, d, h, s, hn, hs, hh, hp => by
  obtain ⟨n1, n2, n3, n4, n5⟩ := numsF_node hn
  simp only [chainR,skipF]
  by_cases hk : followsK k = true
  ·simp only [hk,if_true]
   have hk' := hk
   simp only [followsK,inR,Bool.and_eq_true,decide_eq_true_eq] at hk'
   have hc := cost_node_le (k := k) (a := a) (b := b) (kids := kids) (rest := rest) (by omega)
   have pass : ∀ (q : En × En), PdOk s (some q) → ∃ c, c + cost (skipF rest) ≤ cost (.node k a b kids rest) ∧ Goes t c s (chainR t rest (i + 1 + kids.size) q.1 q.2 h s).1 (chainR t rest (i + 1 + kids.size) q.1 q.2 h s).2 := by
    intro q hq
    obtain ⟨c, h1, h2⟩ := goes_chain ht rest (i + 1 + kids.size) q.1 q.2 d h s n5 hs hh hq
    exact ⟨c, by omega, h2⟩
   have go : ∀ (g : Int) (st : En) (e : En × RS → En), g < s.fs.length → (st.ed = 2 → 0 ≤ st.val ∧ st.val < s.fs.length) → (∀ r : En × RS, (r.1.ed = 2 → 0 ≤ r.1.val ∧ r.1.val < r.2.fs.length) → s.fs.length ≤ r.2.fs.length → (e r).ed = 2 → 0 ≤ (e r).val ∧ (e r).val < r.2.fs.length) →
     ∃ c, c + cost (skipF rest) ≤ cost (.node k a b kids rest) ∧ Goes t c s ((fun r : En × RS => chainR t rest (i + 1 + kids.size) st (e r) h r.2) (runF t kids (i + 1) none g s)).1 ((fun r : En × RS => chainR t rest (i + 1 + kids.size) st (e r) h r.2) (runF t kids (i + 1) none g s)).2 := by
    intro g st e hg hst he
    have h1 := goes_run ht kids (i + 1) none (d + 1) g s n4 hs hg trivial
    generalize runF t kids (i + 1) none g s = r at h1 ⊢
    have hl := h1.len
    obtain ⟨c, h2, h3⟩ := goes_chain ht rest (i + 1 + kids.size) st (e r) d h r.2 n5 h1.ok (by omega) ⟨fun q => by have := hst q; show 0 ≤ st.val ∧ st.val < (r.2.fs.length : Int); omega, he r h1.val hl.1⟩
    exact ⟨cost kids + c, by omega, h1.trans h3 (Nat.le_refl _)⟩
   split
   ·split
    ·rename_i hq
     exact go st.val ⟨-1, 0⟩ (fun r => r.1) (hp.1 hq.1).2 (fun q => by cases q) (fun r hr _ => hr)
    ·exact pass (st, e) hp
   ·split
    ·split
     ·exact go h st (fun r => r.1) hh hp.1 (fun r hr _ => hr)
     ·exact pass (st, e) hp
    ·refine go _ st (fun r => if r.1.ed = 0 then e else r.1) ?_ hp.1 (fun r hr hl => ?_)
     ·split
      ·exact (hp.2 ‹_›).2
      ·exact hh
     ·split
      ·exact fun z => by have := hp.2 z; simp only at this; omega
      ·exact hr
  ·rw [if_neg hk, if_neg hk]
   exact ⟨0, by omega, goes_self hs hp.2⟩
theorem numsF_skip {t : List Class} {d : Int} : ∀ (f : Fo), numsF t f d = true → numsF t (skipF f) d = true
 | .nil, h => h
 | .node k a b kids rest, h => by
  simp only [skipF]
  split
  ·exact numsF_skip rest (numsF_node h).2.2.2.2
  ·exact h
theorem getD_last (i : Nat) (l : List Nat) : (i :: l).getD l.length default = (i :: l).getLastD 0 := by
 rw [List.getLastD_cons]
 induction l generalizing i with
 | nil => rfl
 | cons x l ih => rw [List.length_cons, List.getD_cons_succ, List.getLastD_cons]; exact ih x
theorem c_linesStep {t : List Class} {cl : Bool} {P : List Line} {clp : Bool} {n : Nat} (ht : validT t = true) (hp : P.length ≤ 4398046511104) (ih : LinesOk t cl P clp n) : LinesOk t cl P clp (n + 1) := by
 intro f i d h s F H bm hfn hat hnf hs hh hl hf hM
 have hfl := hat.len
 refine acalls_of1 Tryz.func49 rfl (by kernel_rfl) rfl rfl (awp_sound (fz := fun r => if r = 12 then [11] else []) (im := fun _ => false) mixed _ _ _ _ (by kernel_rfl) ?_)
 simp +contextual -dsimp -implicitDefEqProofs (maxSteps:=5000000) only [go_sem,reduceIte,reduceCtorEq,Nat.reduceEqDiff,Nat.reduceBEq,Nat.reduceAdd,Nat.reduceLeDiff,Nat.reduceMul,Nat.reduceLT,Int.reduceEq,Int.reduceLT,Int.reduceLE]
 intro b8 hb8
 have hF8 := mach_none hM hb8
 refine aloop mixed (fz := fun r => if r = 12 then [11] else []) (im := fun _ => false) (by kernel_rfl) (fun m tm H' => ∃ (g : Fo) (q : Nat) (s' : RS) (H'' : AHeap), m = g.size ∧ At P q d g ∧ numsF t g d = true ∧ g.size ≤ f.size ∧ q + g.size = i + f.size ∧ FsOk t s'.fs ∧ s.fs.length ≤ s'.fs.length ∧ s'.log.length + cost g ≤ 900000 ∧ s'.fs.length + cost g ≤ 900000 ∧ runF t f i none h s = runF t g q none h s' ∧ H' = H''.set b8 ⟨2, 88, [[I 0, I 0]]⟩ ∧ H'' b8 = none ∧ MachS F H'' bm t cl P clp s' ∧ tm 0 = .ptr bm 5 0 0 ∧ tm 2 = I (i + f.size : Nat) ∧ tm 3 = I h ∧ tm 8 = .ptr b8 2 0 0 ∧ tm 9 = I q) f.size ⟨f, i, s, H, rfl, hat, hnf, Nat.le_refl _, rfl, hs, Nat.le_refl _, hl, hf, rfl, rfl, hb8, hM, ?_⟩ ?_
 ·simp +contextual -dsimp -implicitDefEqProofs (maxSteps:=5000000) only [go_sem,reduceIte,reduceCtorEq,Nat.reduceEqDiff,Nat.reduceBEq,Nat.reduceAdd,Nat.reduceLeDiff,Nat.reduceMul,Nat.reduceLT,Int.reduceEq,Int.reduceLT,Int.reduceLE]
 ·rintro m tm _ ⟨g, q, s', H'', rfl, hgat, hgn, hgs, hgq, hs', hsl, bl, bf, he, rfl, h8, hM', t0, t2, t3, t8, t9⟩
  cases g with
  | nil =>
   have z : ¬ q < i + f.size := by simp only [Fo.size] at hgq; omega
   rw [he]
   simp +contextual -dsimp -implicitDefEqProofs (maxSteps:=5000000) only [go_sem,reduceIte,reduceCtorEq,Nat.reduceEqDiff,Nat.reduceBEq,Nat.reduceAdd,Nat.reduceLeDiff,Nat.reduceMul,Nat.reduceLT,Int.reduceEq,Int.reduceLT,Int.reduceLE,t0,t2,t3,t8,t9,z]
   refine retR_less (l := [.agg (rEn .next)]) (H' := H'') ?_ (le_set h8) ⟨rfl, hM'⟩
   simp only [resA,go_sem,reduceIte,reduceCtorEq,Nat.reduceEqDiff,Nat.reduceBEq,Nat.reduceAdd,Nat.reduceLeDiff,Nat.reduceMul,Nat.reduceLT,Int.reduceEq,Int.reduceLT,Int.reduceLE,rEn,En.next,t8]
  | node k a b kids rest =>
   have hsz : (Fo.node k a b kids rest).size = 1 + kids.size + rest.size := rfl
   have z : q < i + f.size := by omega
   have hq := hgat.head
   obtain ⟨xl, xf, H1, H2, hFm, hg1, hg2, hb, rfl⟩ := id hM'
   have h8' := h8
   rw [set_none] at h8'
   obtain ⟨m1, m2, m3⟩ := h8'
   obtain ⟨n1, n2, n3, n4, n5⟩ := numsF_node hgn
   simp +contextual -dsimp -implicitDefEqProofs (maxSteps:=5000000) only [go_sem,reduceIte,reduceCtorEq,Nat.reduceEqDiff,Nat.reduceBEq,Nat.reduceAdd,Nat.reduceLeDiff,Nat.reduceMul,Nat.reduceLT,Int.reduceEq,Int.reduceLT,Int.reduceLE,t0,t2,t3,t8,t9,z,m1,m2]
   refine (c_endOf P clp q _ hq.1).det ?_
   rw [hgat.endP]
   simp +contextual -dsimp -implicitDefEqProofs (maxSteps:=5000000) only [go_sem,reduceIte,reduceCtorEq,Nat.reduceEqDiff,Nat.reduceBEq,Nat.reduceAdd,Nat.reduceLeDiff,Nat.reduceMul,Nat.reduceLT,Int.reduceEq,Int.reduceLT,Int.reduceLE,t0,t2,t3,t8,t9,z,m1,m2,hq.1,hq.2]
   rintro b11 ⟨d1, d2, d3, d4, m4⟩
   have h11 : (H2.set bm ⟨5, 129, [[.vsl (t.map rClass) cl, aProg P clp, xl, xf, I s'.first]]⟩) b11 = none := by rw [set_other d3]; exact m4
   have hF11 := mach_none hM' h11
   have adv : ∀ (SZ : Nat) (g' : Fo) (q' : Nat) (s'' : RS) (H3 : AHeap), g'.size < SZ → g'.size ≤ rest.size → At P q' d g' → numsF t g' d = true → q' + g'.size = i + f.size → runF t (.node k a b kids rest) q none h s' = runF t g' q' none h s'' → FsOk t s''.fs → s.fs.length ≤ s''.fs.length → s''.log.length + cost g' ≤ 900000 → s''.fs.length + cost g' ≤ 900000 → H3 b8 = none → MachS F H3 bm t cl P clp s'' →
     ∃ m', m' < SZ ∧ ∃ (g : Fo) (q : Nat) (s' : RS) (H'' : AHeap), m' = g.size ∧ At P q d g ∧ numsF t g d = true ∧ g.size ≤ f.size ∧ q + g.size = i + f.size ∧ FsOk t s'.fs ∧ s.fs.length ≤ s'.fs.length ∧ s'.log.length + cost g ≤ 900000 ∧ s'.fs.length + cost g ≤ 900000 ∧ runF t f i none h s = runF t g q none h s' ∧ H3.set b8 ⟨2, 88, [[I 0, I 0]]⟩ = H''.set b8 ⟨2, 88, [[I 0, I 0]]⟩ ∧ H'' b8 = none ∧ MachS F H'' bm t cl P clp s' ∧ I q' = I q :=
    fun SZ g' q' s'' H3 w1 w0 w2 w3 w4 w5 w6 w7 w8 w9 w10 w11 => ⟨g'.size, w1, g', q', s'', H3, rfl, w2, w3, by omega, w4, w6, w7, w8, w9, by rw [he]; exact w5, rfl, w10, w11, rfl⟩
   have hMin := mach_in (K := ⟨2, 88, [[I 0, I 0]]⟩) (mach_in (K := ⟨2, 88, [[I 0, I 0]]⟩) hM' h8) (show ((H2.set bm _).set b8 _) b11 = none by rw [set_other d1]; exact h11)
   have mout : ∀ (s'' : RS) (H3 : AHeap), MachS ((F.set b8 ⟨2, 88, [[I 0, I 0]]⟩).set b11 ⟨2, 88, [[I 0, I 0]]⟩) H3 bm t cl P clp s'' → ∃ H4, H3 = (H4.set b8 ⟨2, 88, [[I 0, I 0]]⟩).set b11 ⟨2, 88, [[I 0, I 0]]⟩ ∧ MachS F H4 bm t cl P clp s'' ∧ H4 b8 = none ∧ H4 b11 = none := by
    intro s'' H3 hM3
    obtain ⟨H4, rfl, hM4, w1⟩ := mach_out hM3 (by rw [set_other d1]; exact hF11)
    obtain ⟨H5, rfl, hM5, w2⟩ := mach_out hM4 hF8
    rw [set_other d1] at w1
    exact ⟨H5, rfl, hM5, w2, w1⟩
   by_cases k7 : k = 7
   ·subst k7
    have hc : cost (.node 7 a b kids rest) = 2 + cost kids + cost rest := cost_node_le (by omega)
    simp +contextual -dsimp -implicitDefEqProofs (maxSteps:=5000000) only [go_sem,reduceIte,reduceCtorEq,Nat.reduceEqDiff,Nat.reduceBEq,Nat.reduceAdd,Nat.reduceLeDiff,Nat.reduceMul,Nat.reduceLT,Int.reduceEq,Int.reduceLT,Int.reduceLE,t0,t2,t3,t8,t9,z,m1,m2,hq.1,hq.2,d1,d2,d3,d4]
    refine acalls_frz (c_tryFrom P clp q _ hq.1 hp) fun cl2 => ?_
    rw [chainP_at hgat]
    simp +contextual -dsimp -implicitDefEqProofs (maxSteps:=5000000) only [go_sem,reduceIte,reduceCtorEq,Nat.reduceEqDiff,Nat.reduceBEq,Nat.reduceAdd,Nat.reduceLeDiff,Nat.reduceMul,Nat.reduceLT,Int.reduceEq,Int.reduceLT,Int.reduceLE,t0,t2,t3,t8,t9,z,m1,m2,hq.1,hq.2,d1,d2,d3,d4]
    refine draw_intro [0, 0, 0, 0, 0, 0, 0, 0, 0, 0, 2, 0] AHeap.none (by kernel_rfl) none_le ?_
    have hce := chain_end rest (q + 1 + kids.size) q hgat.rest hgat.endP
    have hgl := getD_last q (chainN rest (q + 1 + kids.size))
    have hmem := chainP_mem hq.1 ((q :: chainN rest (q + 1 + kids.size)).getLastD 0) (by
     rw [chainP_at hgat, ← hgl, List.getD_eq_getElem?_getD, List.getElem?_eq_getElem (by simp)]
     exact List.getElem_mem _)
    have hwl : IntKind.i64.wrap (((chainN rest (q + 1 + kids.size)).length + 1 : Nat) - 1) = ((chainN rest (q + 1 + kids.size)).length : Int) := by
     have := chain_len rest (q + 1 + kids.size)
     rw [w64 (by omega) (by omega)]; omega
    have hlt1 : ((chainN rest (q + 1 + kids.size)).length : Int) < (((chainN rest (q + 1 + kids.size)).length + 1 : Nat) : Int) := by omega
    have hlt2 : (chainN rest (q + 1 + kids.size)).length < (chainN rest (q + 1 + kids.size)).length + 1 := by omega
    simp +contextual -dsimp -implicitDefEqProofs (maxSteps:=5000000) only [go_sem,reduceIte,reduceCtorEq,Nat.reduceEqDiff,Nat.reduceBEq,Nat.reduceAdd,Nat.reduceLeDiff,Nat.reduceMul,Nat.reduceLT,Int.reduceEq,Int.reduceLT,Int.reduceLE,t0,t2,t3,t8,t9,z,m1,m2,hq.1,hq.2,d1,d2,d3,d4,toI_len,toI_at,List.length_cons,hwl,hgl,hlt1,hlt2]
    refine (c_endOf P clp _ _ hmem).det ?_
    rw [hce]
    simp +contextual -dsimp -implicitDefEqProofs (maxSteps:=5000000) only [go_sem,reduceIte,reduceCtorEq,Nat.reduceEqDiff,Nat.reduceBEq,Nat.reduceAdd,Nat.reduceLeDiff,Nat.reduceMul,Nat.reduceLT,Int.reduceEq,Int.reduceLT,Int.reduceLE,t0,t2,t3,t8,t9,z,m1,m2,hq.1,hq.2,d1,d2,d3,d4]
    have hgo0 := goes_run ht kids (q + 1) none (d + 1) h s' n4 hs' (by omega) trivial
    have hgl0 := hgo0.len
    have hss := skipN_add rest (q + 1 + kids.size)
    have hsf := skipF_size rest
    refine (c_try ht ih cl2 (by omega) hgat n4 n5 hs' (by omega) (by omega) (by omega) hMin hp).mono ?_
    rintro _ H3 ⟨rfl, hM3⟩
    have hrun := runF_try (t := t) (a := a) (b := b) (kids := kids) (rest := rest) (i := q) (h := h) (s := s')
    simp only [runF_some] at hrun
    generalize runF t kids (q + 1) none h s' = r0 at hM3 hgo0 hgl0 hrun ⊢
    obtain ⟨c, hc1, hgo⟩ := goes_chain ht rest (q + 1 + kids.size) r0.1 r0.1 d h r0.2 n5 hgo0.ok (by omega) ⟨hgo0.val, hgo0.val⟩
    have hgl := hgo.len
    generalize chainR t rest (q + 1 + kids.size) r0.1 r0.1 h r0.2 = r at hM3 hgo hgl hrun ⊢
    obtain ⟨H4, rfl, hM4, w1, w2⟩ := mout _ _ hM3
    by_cases c0 : r.1.ed = 0
    ·simp only [c0,if_true] at hrun
     simp +contextual -dsimp -implicitDefEqProofs (maxSteps:=5000000) only [go_sem,reduceIte,reduceCtorEq,Nat.reduceEqDiff,Nat.reduceBEq,Nat.reduceAdd,Nat.reduceLeDiff,Nat.reduceMul,Nat.reduceLT,Int.reduceEq,Int.reduceLT,Int.reduceLE,rEn,t0,t2,t3,t8,t9,z,m1,m2,hq.1,hq.2,d1,d2,d3,d4,c0,w2]
     exact adv _ (skipF rest) (skipN rest (q + 1 + kids.size)) r.2 H4 (by simp only [Fo.size]; omega) hsf hgat.rest.skip (numsF_skip rest n5) (by omega) hrun hgo.ok (by omega) (by omega) (by omega) w1 hM4
    ·simp only [c0,if_false] at hrun
     simp +contextual -dsimp -implicitDefEqProofs (maxSteps:=5000000) only [go_sem,reduceIte,reduceCtorEq,Nat.reduceEqDiff,Nat.reduceBEq,Nat.reduceAdd,Nat.reduceLeDiff,Nat.reduceMul,Nat.reduceLT,Int.reduceEq,Int.reduceLT,Int.reduceLE,rEn,t0,t2,t3,t8,t9,z,m1,m2,hq.1,hq.2,d1,d2,d3,d4,c0]
     rw [he, hrun]
     refine retR_less (l := [.agg (rEn r.1)]) (H' := H4) ?_ (le_s1 (le_s1 (AHeap.le_refl _) w1) w2) ⟨rfl, hM4⟩
     simp only [resA,go_sem,reduceIte,reduceCtorEq,Nat.reduceEqDiff,Nat.reduceBEq,Nat.reduceAdd,Nat.reduceLeDiff,Nat.reduceMul,Nat.reduceLT,Int.reduceEq,Int.reduceLT,Int.reduceLE,rEn,d1,d2,t8]
   ·have hgo := goes_lineR (h := h) (i := q) (body := fun s => runF t kids (q + 1) none h s) (n := cost kids) ht hs' n1 (by omega) (fun s2 hs2 hl2 => goes_run ht kids (q + 1) none (d + 1) h s2 n4 hs2 (by omega) trivial)
    have hgl := hgo.len
    have hrun := runF_line (t := t) (a := a) (b := b) (kids := kids) (rest := rest) (i := q) (h := h) (s := s') k7
    have hcn : cost (.node k a b kids rest) = 2 + (if k = 12 then a.toNat * cost kids else cost kids) + cost rest := rfl
    simp +contextual -dsimp -implicitDefEqProofs (maxSteps:=5000000) only [go_sem,reduceIte,reduceCtorEq,Nat.reduceEqDiff,Nat.reduceBEq,Nat.reduceAdd,Nat.reduceLeDiff,Nat.reduceMul,Nat.reduceLT,Int.reduceEq,Int.reduceLT,Int.reduceLE,t0,t2,t3,t8,t9,z,m1,m2,hq.1,hq.2,d1,d2,d3,d4,k7]
    refine (c_line ht ih (by omega) hgat n1 n4 hs' (by omega) (by omega) (by omega) hMin hp).mono ?_
    rintro _ H3 ⟨rfl, hM3⟩
    generalize lineR k a b q h (fun s => runF t kids (q + 1) none h s) s' = r at hM3 hgo hgl hrun ⊢
    obtain ⟨H4, rfl, hM4, w1, w2⟩ := mout _ _ hM3
    by_cases c0 : r.1.ed = 0
    ·simp only [c0,if_true] at hrun
     simp +contextual -dsimp -implicitDefEqProofs (maxSteps:=5000000) only [go_sem,reduceIte,reduceCtorEq,Nat.reduceEqDiff,Nat.reduceBEq,Nat.reduceAdd,Nat.reduceLeDiff,Nat.reduceMul,Nat.reduceLT,Int.reduceEq,Int.reduceLT,Int.reduceLE,rEn,t0,t2,t3,t8,t9,z,m1,m2,hq.1,hq.2,d1,d2,d3,d4,c0,w2]
     exact adv _ rest (q + 1 + kids.size) r.2 H4 (by simp only [Fo.size]; omega) (Nat.le_refl _) hgat.rest n5 (by omega) hrun hgo.ok (by omega) (by omega) (by omega) w1 hM4
    ·simp only [c0,if_false] at hrun
     simp +contextual -dsimp -implicitDefEqProofs (maxSteps:=5000000) only [go_sem,reduceIte,reduceCtorEq,Nat.reduceEqDiff,Nat.reduceBEq,Nat.reduceAdd,Nat.reduceLeDiff,Nat.reduceMul,Nat.reduceLT,Int.reduceEq,Int.reduceLT,Int.reduceLE,rEn,t0,t2,t3,t8,t9,z,m1,m2,hq.1,hq.2,d1,d2,d3,d4,c0]
     rw [he, hrun]
     refine retR_less (l := [.agg (rEn r.1)]) (H' := H4) ?_ (le_s1 (le_s1 (AHeap.le_refl _) w1) w2) ⟨rfl, hM4⟩
     simp only [resA,go_sem,reduceIte,reduceCtorEq,Nat.reduceEqDiff,Nat.reduceBEq,Nat.reduceAdd,Nat.reduceLeDiff,Nat.reduceMul,Nat.reduceLT,Int.reduceEq,Int.reduceLT,Int.reduceLE,rEn,d1,d2,t8]
theorem c_linesAll {t : List Class} {cl : Bool} {P : List Line} {clp : Bool} (ht : validT t = true) (hp : P.length ≤ 4398046511104) : ∀ n, LinesOk t cl P clp n
 | 0 => fun f i d h s F H bm hn => by omega
 | n + 1 => c_linesStep ht hp (c_linesAll ht hp n)
end
section
open Go Go.Sim
set_option maxRecDepth 100000
set_option maxHeartbeats 4000000

noncomputable def forestP (p : List Line) : Fo := @dite _ (∃ f : Fo, p = f.flat 0) (Classical.propDecidable _) (fun h => h.choose) (fun _ => .nil)
theorem forestP_flat (f : Fo) : forestP (f.flat 0) = f := by
 have h : ∃ g : Fo, f.flat 0 = g.flat 0 := ⟨f, rfl⟩
 unfold forestP
 rw [dif_pos h]
 exact (flat_one h.choose_spec).symm
def rs0 : RS := ⟨[], [], -1⟩
noncomputable def runP (t : List Class) (p : List Line) : En × RS := runF t (forestP p) 0 none (-1) rs0
def resOf (r : En × RS) : Res :=
 if r.1.ed = 2 then ⟨r.2.log, 2, idxF (fun x => decide (r.1.val = x)) (sortI (bfsF r.2.fs r.1.val)), isoL r.2.fs (sortI (bfsF r.2.fs r.1.val))⟩ else ⟨r.2.log, r.1.ed, r.1.val, []⟩
theorem validP_forest {t : List Class} {p : List Line} (h : ValidP t p) : validT t = true ∧ p = (forestP p).flat 0 ∧ numsF t (forestP p) 0 = true ∧ okF (forestP p) false false = true ∧ (forestP p).size = p.length ∧ (forestP p).size ≤ 24 := by
 obtain ⟨h1, h2, f, rfl, h3, h4⟩ := h
 rw [forestP_flat]
 rw [flat_len] at h2
 exact ⟨h1, rfl, h3, h4, (flat_len f 0).symm, h2⟩
theorem runP_goes {t : List Class} {p : List Line} (h : ValidP t p) : Goes t 34992 rs0 (runP t p).1 (runP t p).2 := by
 obtain ⟨h1, h2, h3, h4, h5, h6⟩ := validP_forest h
 exact (goes_run h1 (forestP p) 0 none 0 (-1) rs0 h3 (fsOk_nil t) (by show (-1 : Int) < 0; omega) trivial).le (cost_small h3 h6)
theorem c_mRunProgram (t : List Class) (cl : Bool) (p : List Line) (cl' : Bool) (H : AHeap) (hn : namesOk t) (hp : p.length ≤ 4398046511104) :
  ACalls Tryz.prog 10 [aTree t cl, aProg p cl'] H fun r H' => OwnRes H H' r (if validB t p = true then resOf (runP t p) else res0) := by
 refine acalls_of1 Tryz.func10 rfl (by kernel_rfl) rfl rfl (awp_sound (fz := fun _ => []) (im := fun s => s == 2) mixed _ _ _ _ (by kernel_rfl) ?_)
 simp +contextual -dsimp -implicitDefEqProofs (maxSteps:=5000000) only [go_sem,reduceIte,reduceCtorEq,Nat.reduceEqDiff,Nat.reduceBEq,Nat.reduceAdd,Nat.reduceLeDiff,Nat.reduceMul,Nat.reduceLT,Int.reduceEq,Int.reduceLT,Int.reduceLE]
 intro b4 hb4
 refine (c_ValidProgram t cl p cl' _ hn hp).det ?_
 cases hv : validB t p
 ·simp +contextual -dsimp -implicitDefEqProofs (maxSteps:=5000000) only [go_sem,reduceIte,reduceCtorEq,Nat.reduceEqDiff,Nat.reduceBEq,Nat.reduceAdd,Nat.reduceLeDiff,Nat.reduceMul,Nat.reduceLT,Int.reduceEq,Int.reduceLT,Int.reduceLE]
  refine retR_less (l := [.agg [.vsl [] true, I 0, I 0, .vsl [] true]]) (H' := H) ?_ (le_set hb4) (own0 H)
  simp only [resA,go_sem,reduceIte,reduceCtorEq,Nat.reduceEqDiff,Nat.reduceBEq,Nat.reduceAdd,Nat.reduceLeDiff,Nat.reduceMul,Nat.reduceLT,Int.reduceEq,Int.reduceLT,Int.reduceLE]
 ·have hval := validB_true.1 hv
  obtain ⟨h1, h2, h3, h4, h5, h6⟩ := validP_forest hval
  have hgo := runP_goes hval
  have hgl := hgo.len
  have hat := at_top h2
  have hcs := cost_small h3 h6
  have hlen : ((0 + (forestP p).size : Nat) : Int) = (p.length : Int) := by omega
  simp +contextual -dsimp -implicitDefEqProofs (maxSteps:=5000000) only [go_sem,reduceIte,reduceCtorEq,Nat.reduceEqDiff,Nat.reduceBEq,Nat.reduceAdd,Nat.reduceLeDiff,Nat.reduceMul,Nat.reduceLT,Int.reduceEq,Int.reduceLT,Int.reduceLE]
  refine (c_machineOf t cl _ (p.map rLine) cl').mono ?_
  rintro _ H1 ⟨bm, rfl, hM⟩
  simp +contextual -dsimp -implicitDefEqProofs (maxSteps:=5000000) only [go_sem,reduceIte,reduceCtorEq,Nat.reduceEqDiff,Nat.reduceBEq,Nat.reduceAdd,Nat.reduceLeDiff,Nat.reduceMul,Nat.reduceLT,Int.reduceEq,Int.reduceLT,Int.reduceLE]
  have key := c_linesAll (cl := cl) (P := p) (clp := cl') h1 hp ((forestP p).size + 1) (forestP p) 0 0 (-1) rs0 (H.set b4 ⟨4, 34, [[.vsl [] true, I 0, I 0, .vsl [] true]]⟩) H1 bm (by omega) hat h3 (fsOk_nil t) (by show (-1 : Int) < 0; omega) (by show 0 + _ ≤ _; omega) (by show 0 + _ ≤ _; omega) hM
  rw [hlen, show ((0 : Nat) : Int) = 0 from rfl] at key
  refine key.mono ?_
  rintro _ H2 ⟨rfl, hM2⟩
  have er : runF t (forestP p) 0 none (-1) rs0 = runP t p := rfl
  rw [er] at hM2 ⊢
  generalize runP t p = r at hM2 hgo hgl ⊢
  simp +contextual -dsimp -implicitDefEqProofs (maxSteps:=5000000) only [go_sem,reduceIte,reduceCtorEq,Nat.reduceEqDiff,Nat.reduceBEq,Nat.reduceAdd,Nat.reduceLeDiff,Nat.reduceMul,Nat.reduceLT,Int.reduceEq,Int.reduceLT,Int.reduceLE,rEn]
  refine (c_mresult _ H2 bm _ _ r.2.log r.2.fs r.2.first r.1.ed r.1.val hM2 hgo.ok.ho (by have : (rs0 : RS).fs.length = 0 := rfl; omega) hgo.val).mono ?_
  rintro x H3 hr
  have hr' : OwnRes (H.set b4 ⟨4, 34, [[.vsl [] true, I 0, I 0, .vsl [] true]]⟩) H3 x (resOf r) := by
   obtain ⟨xl, xh, G1, e1, e2, e3⟩ := hr
   refine ⟨xl, xh, G1, ?_, ?_, ?_⟩
   ·rw [e1]; unfold resOf; split
    ·rename_i q; rw [q]
    ·rfl
   ·unfold resOf; split <;> exact e2
   ·unfold resOf; split
    ·rename_i q; rw [if_pos q] at e3; exact e3
    ·rename_i q; rw [if_neg q] at e3; exact e3
  obtain ⟨H4, rfl, hown, hn4⟩ := own_out hr' hb4
  obtain ⟨xl, xh, rfl, o1, o2⟩ := own_row hown
  simp +contextual -dsimp -implicitDefEqProofs (maxSteps:=5000000) only [go_sem,reduceIte,reduceCtorEq,Nat.reduceEqDiff,Nat.reduceBEq,Nat.reduceAdd,Nat.reduceLeDiff,Nat.reduceMul,Nat.reduceLT,Int.reduceEq,Int.reduceLT,Int.reduceLE,o1,o2]
  refine retR_less (l := [.agg [xl, I (resOf r).ed, I (resOf r).val, xh]]) (H' := H4) ?_ (le_set hn4) hown
  simp only [resA,go_sem,reduceIte,reduceCtorEq,Nat.reduceEqDiff,Nat.reduceBEq,Nat.reduceAdd,Nat.reduceLeDiff,Nat.reduceMul,Nat.reduceLT,Int.reduceEq,Int.reduceLT,Int.reduceLE]
end
section
open Go Go.Sim
set_option maxRecDepth 100000

def elseF : Fo → Nat → Option (Nat × Fo)
 | .nil, _ => none
 | .node k _ _ kids rest, i => if followsK k = true then (if k = 9 then some (i, kids) else elseF rest (i + 1 + kids.size)) else none
def lastB : Fo → Nat → Option (Nat × Int × Fo)
 | .nil, _ => none
 | .node k _ _ kids rest, i => if followsK k = true then (match lastB rest (i + 1 + kids.size) with | some x => some x | none => some (i, k, kids)) else none
def catchF (t : List Class) (c : Int) : Fo → Nat → Option (Nat × Fo)
 | .nil, _ => none
 | .node k a _ kids rest, i => if followsK k = true then (if k = 8 ∧ isF t c a = true then some (i, kids) else catchF t c rest (i + 1 + kids.size)) else none
def finR (t : List Class) (f : Fo) (i : Nat) (e : En) (h : Int) (s : RS) : En × RS :=
 match lastB f i with
 | some (q, k, ks) => if k = 10 then (fun l : En × RS => (if l.1.ed = 0 then e else l.1, l.2)) (runF t ks (q + 1) none (if e.ed = 2 then e.val else h) s) else (e, s)
 | none => (e, s)
def midR (t : List Class) (f : Fo) (i : Nat) (e : En) (h : Int) (s : RS) : En × RS :=
 if e.ed = 0 then (match elseF f i with | some (q, ks) => runF t ks (q + 1) none h s | none => (e, s))
 else if e.ed = 2 then (match catchF t (clsOf s e.val) f i with | some (q, ks) => runF t ks (q + 1) none e.val s | none => (e, s))
 else (e, s)
theorem headsK_mem {k : Int} : ∀ {f : Fo}, k ∈ headsK f → followsK k = true
 | .nil, h => by cases h
 | .node k' a b kids rest, h => by
  simp only [headsK] at h
  split at h
  ·rename_i hk
   rcases List.mem_cons.1 h with rfl | h
   ·exact hk
   ·exact headsK_mem h
  ·cases h
theorem tryG_ten {ks : List Int} (hf : ∀ k ∈ ks, followsK k = true) (h : tryG 10 ks = true) : ks = [] := by
 cases ks with
 | nil => rfl
 | cons k ks =>
  simp only [tryG,Bool.and_eq_true,Bool.or_eq_true,decide_eq_true_eq] at h
  omega
theorem chain_empty {t : List Class} {f : Fo} (h : headsK f = []) {i : Nat} {st e : En} {g : Int} {s : RS} : chainR t f i st e g s = (e, s) ∧ lastB f i = none ∧ elseF f i = none ∧ ∀ c, catchF t c f i = none := by
 cases f with
 | nil => exact ⟨rfl, rfl, rfl, fun _ => rfl⟩
 | node k a b kids rest =>
  simp only [headsK] at h
  split at h
  ·cases h
  ·rename_i hk
   simp [chainR, lastB, elseF, catchF, hk]
theorem chain_fin {t : List Class} : ∀ (f : Fo) (i : Nat) (st e : En) (h : Int) (s : RS) (last : Int), tryG last (headsK f) = true → (st.ed ≠ 2 ∨ 8 < last) → (st.ed ≠ 0 ∨ 9 ≤ last) → chainR t f i st e h s = finR t f i e h s
 | .nil, i, st, e, h, s, last, _, _, _ => rfl
 | .node k a b kids rest, i, st, e, h, s, last, hg, c1, c2 => by
  by_cases hk : followsK k = true
  ·have hk' := hk
   simp only [followsK,inR,Bool.and_eq_true,decide_eq_true_eq] at hk'
   simp only [headsK,hk,if_true,tryG,Bool.and_eq_true,Bool.or_eq_true,decide_eq_true_eq] at hg
   obtain ⟨g1, g2⟩ := hg
   by_cases k10 : k = 10
   ·subst k10
    have he := tryG_ten (fun k hk => headsK_mem hk) g2
    simp only [chainR,hk,if_true,show ¬ (10 : Int) = 8 by decide,show ¬ (10 : Int) = 9 by decide,if_false]
    rw [(chain_empty (t := t) he).1]
    have hl : lastB (.node 10 a b kids rest) i = some (i, 10, kids) := by
     simp only [lastB,hk,if_true]; rw [(chain_empty (t := t) (e := e) (st := st) (g := h) (s := s) he).2.1]
    unfold finR
    rw [hl]
    simp
   ·have hrest : chainR t (.node k a b kids rest) i st e h s = chainR t rest (i + 1 + kids.size) st e h s := by
     simp only [chainR,hk,if_true]
     by_cases k8 : k = 8
     ·rw [if_pos k8, if_neg (by omega)]
     ·have k9 : k = 9 := by omega
      rw [if_neg k8, if_pos k9, if_neg (by omega)]
    rw [hrest]
    have hfin : finR t (.node k a b kids rest) i e h s = finR t rest (i + 1 + kids.size) e h s := by
     unfold finR
     simp only [lastB,hk,if_true]
     cases hl : lastB rest (i + 1 + kids.size) with
     | none => simp [k10]
     | some x => rfl
    rw [hfin]
    exact chain_fin rest _ st e h s k g2 (by omega) (by omega)
  ·have he : headsK (.node k a b kids rest) = [] := by simp [headsK, hk]
   have := chain_empty (t := t) (i := i) (st := st) (e := e) (g := h) (s := s) he
   rw [this.1]
   unfold finR
   rw [this.2.1]
theorem finR_skip {t : List Class} {k a b : Int} {kids rest : Fo} {i : Nat} {e : En} {h : Int} {s : RS} (hk : followsK k = true) (k10 : k ≠ 10) : finR t (.node k a b kids rest) i e h s = finR t rest (i + 1 + kids.size) e h s := by
 unfold finR
 simp only [lastB,hk,if_true]
 cases hl : lastB rest (i + 1 + kids.size) with
 | none => simp [k10]
 | some x => rfl
theorem chain_spec {t : List Class} : ∀ (f : Fo) (i : Nat) (e : En) (h : Int) (s : RS) (last : Int), tryG last (headsK f) = true → chainR t f i e e h s = finR t f i (midR t f i e h s).1 h (midR t f i e h s).2
 | .nil, i, e, h, s, last, _ => by
  unfold midR; simp [elseF, catchF, chainR, finR, lastB]
 | .node k a b kids rest, i, e, h, s, last, hg => by
  by_cases hk : followsK k = true
  ·have hk' := hk
   simp only [followsK,inR,Bool.and_eq_true,decide_eq_true_eq] at hk'
   simp only [headsK,hk,if_true,tryG,Bool.and_eq_true,Bool.or_eq_true,decide_eq_true_eq] at hg
   obtain ⟨g1, g2⟩ := hg
   by_cases k8 : k = 8
   ·subst k8
    by_cases hc : e.ed = 2 ∧ isF t (clsOf s e.val) a = true
    ·have hm : midR t (.node 8 a b kids rest) i e h s = runF t kids (i + 1) none e.val s := by
      unfold midR
      rw [if_neg (by omega), if_pos hc.1]
      simp only [catchF,hk,if_true,hc.2,and_self]
     rw [hm, finR_skip hk (by decide)]
     simp only [chainR,hk,if_true,hc,and_self]
     exact chain_fin rest _ ⟨-1, 0⟩ _ h _ 8 g2 (.inl (by show (-1 : Int) ≠ 2; decide)) (.inl (by show (-1 : Int) ≠ 0; decide))
    ·have hm : midR t (.node 8 a b kids rest) i e h s = midR t rest (i + 1 + kids.size) e h s := by
      unfold midR
      by_cases e0 : e.ed = 0
      ·rw [if_pos e0, if_pos e0]
       simp only [elseF,hk,if_true,show ¬ (8 : Int) = 9 by decide,if_false]
      ·rw [if_neg e0, if_neg e0]
       by_cases e2 : e.ed = 2
       ·rw [if_pos e2, if_pos e2]
        have hn : ¬ (isF t (clsOf s e.val) a = true) := fun q => hc ⟨e2, q⟩
        simp only [catchF,hk,if_true,hn,Bool.false_eq_true,and_false,if_false]
       ·rw [if_neg e2, if_neg e2]
     rw [hm, finR_skip hk (by decide)]
     have hr : chainR t (.node 8 a b kids rest) i e e h s = chainR t rest (i + 1 + kids.size) e e h s := by
      simp only [chainR,hk,if_true]; rw [if_neg hc]
     rw [hr]
     exact chain_spec rest _ e h s 8 g2
   ·by_cases k9 : k = 9
    ·subst k9
     by_cases e0 : e.ed = 0
     ·have hm : midR t (.node 9 a b kids rest) i e h s = runF t kids (i + 1) none h s := by
       unfold midR
       rw [if_pos e0]
       simp only [elseF,hk,if_true]
      rw [hm, finR_skip hk (by decide)]
      simp only [chainR,hk,if_true,show ¬ (9 : Int) = 8 by decide,if_false,e0]
      exact chain_fin rest _ e _ h _ 9 g2 (.inl (by omega)) (.inr (by omega))
     ·have hr : chainR t (.node 9 a b kids rest) i e e h s = chainR t rest (i + 1 + kids.size) e e h s := by
       simp only [chainR,hk,if_true,show ¬ (9 : Int) = 8 by decide,if_false]; rw [if_neg e0]
      have hm : midR t (.node 9 a b kids rest) i e h s = midR t rest (i + 1 + kids.size) e h s := by
       unfold midR
       rw [if_neg e0, if_neg e0]
       split
       ·simp only [catchF,hk,if_true,show ¬ (9 : Int) = 8 by decide,false_and,if_false]
       ·rfl
      rw [hm, hr, finR_skip hk (by decide)]
      exact chain_spec rest _ e h s 9 g2
    ·have k10 : k = 10 := by omega
     subst k10
     have he := tryG_ten (fun k hk => headsK_mem hk) g2
     have ce := chain_empty (t := t) (i := i + 1 + kids.size) (st := e) (e := e) (g := h) (s := s) he
     have hm : midR t (.node 10 a b kids rest) i e h s = (e, s) := by
      unfold midR
      simp only [elseF,catchF,hk,if_true,show ¬ (10 : Int) = 9 by decide,show ¬ (10 : Int) = 8 by decide,false_and,if_false,ce.2.2.1,ce.2.2.2]
      split
      ·rfl
      ·split <;> rfl
     rw [hm]
     exact chain_fin (.node 10 a b kids rest) i e e h s 9 (by simp [headsK, hk, tryG, g2]) (.inr (by omega)) (.inr (by omega))
  ·have he : headsK (.node k a b kids rest) = [] := by simp [headsK, hk]
   have ce := chain_empty (t := t) (i := i) (st := e) (e := e) (g := h) (s := s) he
   have hm : midR t (.node k a b kids rest) i e h s = (e, s) := by
    unfold midR
    simp only [ce.2.2.1,ce.2.2.2]
    split
    ·rfl
    ·split <;> rfl
   rw [hm, ce.1]
   unfold finR
   rw [ce.2.1]
theorem lastB_pos : ∀ (f : Fo) (i : Nat) (j : Nat), (j :: chainN f i).getLastD 0 = match lastB f i with | some (q, _, _) => q | none => j
 | .nil, i, j => rfl
 | .node k a b kids rest, i, j => by
  simp only [chainN,lastB]
  split
  ·have := lastB_pos rest (i + 1 + kids.size) i
   rw [List.getLastD_cons] at this
   rw [List.getLastD_cons, List.getLastD_cons, this]
   cases lastB rest (i + 1 + kids.size) <;> rfl
  ·rfl
def headNo : Fo → Bool
 | .nil => true
 | .node k _ _ _ _ => !followsK k
theorem chainR_no {t : List Class} {f : Fo} (hf : headNo f = true) {i : Nat} {st e : En} {h : Int} {s : RS} : chainR t f i st e h s = (e, s) ∧ skipF f = f ∧ skipN f i = i := by
 cases f with
 | nil => exact ⟨rfl, rfl, rfl⟩
 | node k a b kids rest =>
  have hk : followsK k = false := by simpa [headNo] using hf
  simp [chainR, skipF, skipN, hk]
theorem runF_no {t : List Class} {f : Fo} (hf : headNo f = true) {i : Nat} {st e : En} {h : Int} {s : RS} : runF t f i (some (st, e)) h s = if e.ed = 0 then runF t f i none h s else (e, s) := by
 have := chainR_no (t := t) (i := i) (st := st) (e := e) (h := h) (s := s) hf
 rw [runF_some, this.1, this.2.1, this.2.2]
theorem okF_node {k a b : Int} {kids rest : Fo} {lp m : Bool} (h : okF (.node k a b kids rest) lp m = true) :
  (followsK k = true ∧ m = true ∧ okF kids lp false = true ∧ okF rest lp true = true) ∨
  (followsK k = false ∧ ((k = 7 ∧ tryOkF (headsK rest) = true ∧ okF kids lp false = true ∧ okF rest lp true = true) ∨
   (k ≠ 7 ∧ okF rest lp false = true ∧ (k = 11 → okF kids lp false = true) ∧ (k = 12 → okF kids true false = true) ∧ (k = 5 ∨ k = 6 → lp = true)))) := by
 simp only [okF] at h
 by_cases hf : followsK k = true
 ·rw [if_pos hf] at h
  simp only [Bool.and_eq_true] at h
  exact .inl ⟨hf, h.1, h.2.1, h.2.2⟩
 ·right
  refine ⟨by simpa using hf, ?_⟩
  rw [if_neg hf] at h
  by_cases h56 : k = 5 ∨ k = 6
  ·rw [if_pos h56, Bool.and_eq_true] at h
   exact .inr ⟨by omega, h.2, fun q => by omega, fun q => by omega, fun _ => h.1⟩
  ·rw [if_neg h56] at h
   by_cases h7 : k = 7
   ·rw [if_pos h7] at h
    simp only [Bool.and_eq_true] at h
    exact .inl ⟨h7, h.1, h.2.1, h.2.2⟩
   ·rw [if_neg h7] at h
    by_cases h11 : k = 11
    ·rw [if_pos h11, Bool.and_eq_true] at h
     exact .inr ⟨h7, h.2, fun _ => h.1, fun q => by omega, fun q => absurd q h56⟩
    ·rw [if_neg h11] at h
     by_cases h12 : k = 12
     ·rw [if_pos h12, Bool.and_eq_true] at h
      exact .inr ⟨h7, h.2, fun q => absurd q h11, fun _ => h.1, fun q => absurd q h56⟩
     ·rw [if_neg h12] at h
      exact .inr ⟨h7, h, fun q => absurd q h11, fun q => absurd q h12, fun q => absurd q h56⟩
end
end
end Go.Proofs.YtjpfgafdjlkblaaGreat
