/- Walks and plain laws that the claims of this seat lean on. No condition. -/
import Derived.Test.YtjpfgafdjlkblaaGreatFacts
import Derived.Test.YtjpfgafdjlkblaaGreatShelf
set_option linter.unusedVariables false
set_option linter.unusedSimpArgs false
namespace Go.Proofs.YtjpfgafdjlkblaaGreat
open Go Go.Sim
section
set_option maxRecDepth 100000
attribute [local go_sem ↓] aw_skip aw_ret aw_exit aw_region aw_draw aw_seq aw_block aw_loop aw_cond frz_nil frz_cons sq_normal sq_ret sq_exit exB_normal exB_ret exB_same exB_other retQ_ret retQ_normal ret0_ret ret0_normal ao_nil go1 g_move g_assign g_pick g_build g_load g_binOp g_unOp g_convert g_fieldAddr g_field g_indexAddr g_index g_extract g_lookup g_slice g_nilCheck g_len g_makeFunc h_call h_append h_alloc h_box h_buildSlice h_makeSlice h_store gV i_box i_buildSlice i_move i_assign i_build i_load i_binOp i_unOp i_convert i_fieldAddr i_field i_indexAddr i_index i_extract i_lookup i_makeMap i_mapUpdate i_slice i_nilCheck i_makeFunc i_len i_max i_min i_alloc i_makeSlice i_store i_append i_call i_pick boxI boxA buildSliceI buildSliceA makeSliceA makeMapA allocA storeA p_move p_assign p_pick p_build p_load p_binOp p_unOp p_convert p_fieldAddr p_field p_indexAddr p_index p_extract p_lookup p_makeMap p_mapUpdate p_slice p_nilCheck p_makeFunc p_len p_max p_min p_alloc p_box p_buildSlice p_makeSlice p_store p_append p_call x_nil x_go1 x_g0 x_g1 x_g2 x_g3 x_s0 x_s1 x_s2 x_s3 u_move u_assign u_pick u_build u_load u_binOp u_unOp u_convert u_fieldAddr u_field u_indexAddr u_index u_extract u_lookup u_slice u_nilCheck u_makeFunc u_len u_buildSlice
attribute [local go_sem] frzV_ptr frzV_sl frzK_some set_none set_other AHeap.set_self set_del set_set cnd_t cnd_f cnd_b retA_one retA_two retA_three retA_four retA_nil gIf_b mrgV_b mrgV_wh mrgV_U gIf_U gIf_wh mrgB_f mrgB_some mrgB_if wh_true wh_false keepA_some keepA_if gD_zero gD_succ gT_some bxA_t bxA_f callA_fn ev_tmp ev_const ev_global ev_func oc_bool oc_int oc_string oc_nil oc_nilptr oc_nilfunc cl_bool cl_int cl_string cl_nil updO_some updO_none upd_same upd_other init_at pickA_b pickA_wh selA_t selA_f selA_and selA_or selA_orn selA_orm selA_bb selA_ii beqt b_add b_sub b_mul b_and b_or b_xor b_eql b_neq b_lss b_leq b_gtr b_geq b_quo b_rem b_shr b_seql b_sneq b_sadd b_beql b_bneq b_aeql b_aneq u_not u_neg isConstOp eqA eqCellV List.getD_cons_zero List.getD_cons_succ List.map_cons List.map_nil List.nil_append List.cons_append List.append_nil if_true if_false Option.map_some Option.map_none ne_eq not_false_eq_true oneA ldv ld1v ld1s wr1s ldRow stRow row_lit row_agg row_vsl row_sl row_ptr row_fn one_I one_B one_S one_vsl one_sl one_ptr one_fn extractA okA rI rS rU rClass rFault rExit rStart rLine Int.toNat_natCast List.length_cons List.length_nil List.length_map List.all_cons List.all_nil Bool.and_true Nat.zero_add List.getElem?_cons_zero List.getElem?_cons_succ List.take_succ_cons List.take_zero List.drop_succ_cons List.drop_zero and_self true_and and_true implies_true decide_eq_true_eq decide_eq_false_iff_not Bool.or_eq_true Bool.or_eq_false_iff Bool.and_eq_true Bool.not_eq_true' Bool.not_eq_false' beq_false decide_true decide_false Int.ofNat_lt Int.ofNat_le Int.natCast_nonneg Bool.or_true Bool.or_false Bool.true_or Bool.false_or beq_self_eq_true List.drop_one Bool.not_true Bool.not_false Bool.not_not Bool.false_eq_true Bool.true_eq_false false_implies true_implies Bool.true_and Bool.false_and Bool.and_false not_true_eq_false Int.natCast_eq_zero Int.natCast_pos Int.natCast_zero false_and and_false or_false false_or or_true true_or Bool.or_self none_le_iff List.replicate_zero Int.toNat_zero List.replicate_succ buildRows List.set_cons_zero List.set_cons_succ List.set_nil List.mapM_nil maxLen_eq Nat.zero_le Nat.mul_one Nat.one_mul bldA fillA spliceA List.take_nil List.drop_nil List.getElem?_nil ld1o wr1o bldSliceA le_same ti1 ti2 tk2 ti3 te3 ts3 tk3 tz3 ti4 tb4 ti5 tk5 tz5 ti9 te9 ts9 tk9 tz9 ti20 ti22 te22 tz22 ti23 te23 ti25 tp25 tf25_0 ti26 te26 ti29 te29 ti30 te30 ti32 tp32 tf32_0 ti34 tp34 tf34_0 tf34_1 tf34_2 tf34_3 ti41 tq41 tp41 tf41_0 tf41_1 tf41_2 tf41_3 ti44 tq44 tp44 tf44_0 tf44_1 tf44_2 ti45 te45 ti47 tq47 tp47 tf47_0 tf47_1 tf47_2 ti82 ti84 ti88 tq88 tp88 tf88_0 tf88_1 ti103 tq103 tp103 tf103_0 tf103_1 tf103_2 tf103_3 tf103_4 ti106 ti109 ti124 ti127 tp127 tf127_0 tf127_1 ti129 tp129 tf129_0 tf129_1 tf129_2 tf129_3 tf129_4 ti136 ti138 tp138 tf138_0 tf138_1 tf138_2 tf138_3 ti140 tq140 tp140 tf140_0 tf140_1 ti144 tq144 tp144 tf144_0 tf144_1 ti149 te149 ti151 te151 ti164 ti165 ti167 ti177 te177 ti186 ti202 ti205 tk205 tz205 ti209 tk209 ti217 tk217 tz217 ti219 tk219 tz219 ti220 tk220 ti224 ti226 fp13_0 fv13_0 fp13_1 fv13_1 fp24_0 fv24_0 fp25_0 fv25_0 fp31_0 fv31_0 fp32_0 fv32_0 fp33_0 fv33_0 fp33_1 fv33_1 fp33_2 fv33_2 fp33_3 fv33_3 fp34_0 fv34_0 fp34_1 fv34_1 fp34_2 fv34_2 fp34_3 fv34_3 fp40_0 fv40_0 fp40_1 fv40_1 fp40_2 fv40_2 fp40_3 fv40_3 fp41_0 fv41_0 fp41_1 fv41_1 fp41_2 fv41_2 fp41_3 fv41_3 fp43_0 fv43_0 fp43_1 fv43_1 fp43_2 fv43_2 fp44_0 fv44_0 fp44_1 fv44_1 fp44_2 fv44_2 fp46_0 fv46_0 fp46_1 fv46_1 fp46_2 fv46_2 fp47_0 fv47_0 fp47_1 fv47_1 fp47_2 fv47_2 fp57_0 fv57_0 fp58_0 fv58_0 fp72_0 fv72_0 fp72_1 fv72_1 fp72_2 fv72_2 fp87_0 fv87_0 fp87_1 fv87_1 fp88_0 fv88_0 fp88_1 fv88_1 fp102_0 fv102_0 fp102_1 fv102_1 fp102_2 fv102_2 fp102_3 fv102_3 fp102_4 fv102_4 fp103_0 fv103_0 fp103_1 fv103_1 fp103_2 fv103_2 fp103_3 fv103_3 fp103_4 fv103_4 fp113_0 fv113_0 fp113_1 fv113_1 fp113_2 fv113_2 fp113_3 fv113_3 fp120_0 fv120_0 fp120_1 fv120_1 fp120_2 fv120_2 fp126_0 fv126_0 fp126_1 fv126_1 fp127_0 fv127_0 fp127_1 fv127_1 fp128_0 fv128_0 fp128_1 fv128_1 fp128_2 fv128_2 fp128_3 fv128_3 fp128_4 fv128_4 fp129_0 fv129_0 fp129_1 fv129_1 fp129_2 fv129_2 fp129_3 fv129_3 fp129_4 fv129_4 fp137_0 fv137_0 fp137_1 fv137_1 fp137_2 fv137_2 fp137_3 fv137_3 fp138_0 fv138_0 fp138_1 fv138_1 fp138_2 fv138_2 fp138_3 fv138_3 fp139_0 fv139_0 fp139_1 fv139_1 fp140_0 fv140_0 fp140_1 fv140_1 fp143_0 fv143_0 fp143_1 fv143_1 fp144_0 fv144_0 fp144_1 fv144_1 fp158_0 fv158_0 fp158_1 fv158_1 fp158_2 fv158_2 fp159_0 fv159_0 fp159_1 fv159_1 fp159_2 fv159_2 fp169_0 fv169_0 fp169_1 fv169_1 lv22 ll22 is22 ix22 sh22 so22 sb22 sm22 sp22 lv23 ll23 is23 ix23 sh23 so23 sb23 sm23 sp23 lv26 ll26 is26 ix26 sh26 so26 sb26 sm26 sp26 lv29 ll29 is29 ix29 sh29 so29 sb29 sm29 sp29 lv30 ll30 is30 ix30 sh30 so30 sb30 sm30 sp30 lv45 ll45 is45 ix45 sh45 so45 sb45 sm45 sp45 lv56 ll56 is56 sp56 lv59 ll59 is59 sp59 lv71 ll71 is71 sp71 lv149 ll149 is149 sp149 lv151 ll151 is151 sp151 lv177 ll177 is177 ix177 sh177 so177 sb177 sm177 sp177 xs9 ls9 sx9 sy9 sz9
section
open Go Go.Sim
set_option maxRecDepth 100000

def inR (n lo hi : Int) : Bool := decide (lo ≤ n) && decide (n ≤ hi)
theorem c_within (n lo hi : Int) (H : AHeap) : ACalls Tryz.prog 55 [I n, I lo, I hi] H fun r H' => r = B (inR n lo hi) ∧ H' = H := by
 refine acalls_of0 Tryz.func55 rfl (by kernel_rfl) rfl rfl (awp_sound (fz := fun _ => []) (im := fun _ => false) mixed _ _ _ _ (by kernel_rfl) ?_)
 simp +contextual -dsimp -implicitDefEqProofs (maxSteps:=5000000) only [go_sem,reduceIte,reduceCtorEq,Nat.reduceEqDiff,Nat.reduceBEq,Nat.reduceAdd,Nat.reduceLeDiff,Nat.reduceMul,Nat.reduceLT,Int.reduceEq,Int.reduceLT,Int.reduceLE,inR]
theorem c_inRange (n lo hi : Int) (H : AHeap) : ACalls Tryz.prog 141 [I n, I lo, I hi] H fun r H' => r = B (inR n lo hi) ∧ H' = H := by
 refine acalls_of0 Tryz.func141 rfl (by kernel_rfl) rfl rfl (awp_sound (fz := fun _ => []) (im := fun _ => false) mixed _ _ _ _ (by kernel_rfl) ?_)
 simp +contextual -dsimp -implicitDefEqProofs (maxSteps:=5000000) only [go_sem,reduceIte,reduceCtorEq,Nat.reduceEqDiff,Nat.reduceBEq,Nat.reduceAdd,Nat.reduceLeDiff,Nat.reduceMul,Nat.reduceLT,Int.reduceEq,Int.reduceLT,Int.reduceLE,inR]
theorem c_codeOk (n : Int) (H : AHeap) : ACalls Tryz.prog 104 [I n] H fun r H' => r = B (inR n 0 99) ∧ H' = H := by
 refine acalls_of0 Tryz.func104 rfl (by kernel_rfl) rfl rfl (awp_sound (fz := fun _ => []) (im := fun _ => false) mixed _ _ _ _ (by kernel_rfl) ?_)
 simp +contextual -dsimp -implicitDefEqProofs (maxSteps:=5000000) only [go_sem,reduceIte,reduceCtorEq,Nat.reduceEqDiff,Nat.reduceBEq,Nat.reduceAdd,Nat.reduceLeDiff,Nat.reduceMul,Nat.reduceLT,Int.reduceEq,Int.reduceLT,Int.reduceLE]
 refine (c_within _ _ _ _).det ?_
 simp +contextual -dsimp -implicitDefEqProofs (maxSteps:=5000000) only [go_sem,reduceIte,reduceCtorEq,Nat.reduceEqDiff,Nat.reduceBEq,Nat.reduceAdd,Nat.reduceLeDiff,Nat.reduceMul,Nat.reduceLT,Int.reduceEq,Int.reduceLT,Int.reduceLE]

def letter (c : UInt8) : Bool := decide (97 ≤ c.toNat) && decide (c.toNat ≤ 122)
def nameF (s : Str) : Bool := s.all letter && inR s.length 1 6
theorem c_nameOk (s : Str) (H : AHeap) (hs : s.length < 4611686018427387904) : ACalls Tryz.prog 102 [S s] H fun r H' => r = B (nameF s) ∧ H' = H := by
 refine acalls_of0 Tryz.func102 rfl (by kernel_rfl) rfl rfl (awp_sound (fz := fun _ => []) (im := fun _ => false) mixed _ _ _ _ (by kernel_rfl) ?_)
 simp +contextual -dsimp -implicitDefEqProofs (maxSteps:=5000000) only [go_sem,reduceIte,reduceCtorEq,Nat.reduceEqDiff,Nat.reduceBEq,Nat.reduceAdd,Nat.reduceLeDiff,Nat.reduceMul,Nat.reduceLT,Int.reduceEq,Int.reduceLT,Int.reduceLE]
 refine aloop mixed (fz := fun _ => []) (im := fun _ => false) (by kernel_rfl) (fun m tm H' => ∃ k : Nat, m = s.length - k ∧ k ≤ s.length ∧ H' = H ∧ tm 0 = S s ∧ tm 5 = I s.length ∧ tm 6 = I k ∧ (s.take k).all letter = true) s.length ⟨0, ?_⟩ ?_
 ·simp +contextual -dsimp -implicitDefEqProofs (maxSteps:=5000000) only [go_sem,reduceIte,reduceCtorEq,Nat.reduceEqDiff,Nat.reduceBEq,Nat.reduceAdd,Nat.reduceLeDiff,Nat.reduceMul,Nat.reduceLT,Int.reduceEq,Int.reduceLT,Int.reduceLE]
  simp
 ·rintro m tm _ ⟨k, rfl, hk, rfl, h0, h5, h6, hl⟩
  simp +contextual -dsimp -implicitDefEqProofs (maxSteps:=5000000) only [go_sem,reduceIte,reduceCtorEq,Nat.reduceEqDiff,Nat.reduceBEq,Nat.reduceAdd,Nat.reduceLeDiff,Nat.reduceMul,Nat.reduceLT,Int.reduceEq,Int.reduceLT,Int.reduceLE,h0,h5,h6]
  refine ⟨fun h => ⟨fun hb => ?_, fun h1 => ⟨_, ?_, k + 1, rfl, h, ?_, ?_⟩⟩, fun h => ?_⟩
  ·have : letter (s.getD k 0) = false := by simp only [letter,Bool.and_eq_false_iff,decide_eq_false_iff_not]; omega
   simp [nameF, all_not h this]
  ·omega
  ·rw [w64 (by omega) (by omega)]; rfl
  ·exact all_take h hl (d := 0) (by simp only [letter,Bool.and_eq_true,decide_eq_true_eq]; omega)
  ·refine (c_within _ _ _ _).det ?_
   have : k = s.length := by omega
   subst this
   rw [List.take_length] at hl
   simp +contextual -dsimp -implicitDefEqProofs (maxSteps:=5000000) only [go_sem,reduceIte,reduceCtorEq,Nat.reduceEqDiff,Nat.reduceBEq,Nat.reduceAdd,Nat.reduceLeDiff,Nat.reduceMul,Nat.reduceLT,Int.reduceEq,Int.reduceLT,Int.reduceLE,nameF,hl,Bool.true_and]
theorem c_validName (s : Str) (H : AHeap) (hs : s.length < 4611686018427387904) : ACalls Tryz.prog 147 [S s] H fun r H' => r = B (nameF s) ∧ H' = H := by
 refine acalls_of0 Tryz.func147 rfl (by kernel_rfl) rfl rfl (awp_sound (fz := fun _ => []) (im := fun _ => false) mixed _ _ _ _ (by kernel_rfl) ?_)
 simp +contextual -dsimp -implicitDefEqProofs (maxSteps:=5000000) only [go_sem,reduceIte,reduceCtorEq,Nat.reduceEqDiff,Nat.reduceBEq,Nat.reduceAdd,Nat.reduceLeDiff,Nat.reduceMul,Nat.reduceLT,Int.reduceEq,Int.reduceLT,Int.reduceLE]
 refine aloop mixed (fz := fun _ => []) (im := fun _ => false) (by kernel_rfl) (fun m tm H' => ∃ k : Nat, m = s.length - k ∧ k ≤ s.length ∧ H' = H ∧ tm 0 = S s ∧ tm 3 = I k ∧ (s.take k).all letter = true) s.length ⟨0, ?_⟩ ?_
 ·simp +contextual -dsimp -implicitDefEqProofs (maxSteps:=5000000) only [go_sem,reduceIte,reduceCtorEq,Nat.reduceEqDiff,Nat.reduceBEq,Nat.reduceAdd,Nat.reduceLeDiff,Nat.reduceMul,Nat.reduceLT,Int.reduceEq,Int.reduceLT,Int.reduceLE]
  simp
 ·rintro m tm _ ⟨k, rfl, hk, rfl, h0, h3, hl⟩
  simp +contextual -dsimp -implicitDefEqProofs (maxSteps:=5000000) only [go_sem,reduceIte,reduceCtorEq,Nat.reduceEqDiff,Nat.reduceBEq,Nat.reduceAdd,Nat.reduceLeDiff,Nat.reduceMul,Nat.reduceLT,Int.reduceEq,Int.reduceLT,Int.reduceLE,h0,h3]
  refine ⟨fun h => ⟨fun hb => ?_, fun h1 => ⟨_, ?_, k + 1, rfl, h, ?_, ?_⟩⟩, fun h => ?_⟩
  ·have : letter (s.getD k 0) = false := by simp only [letter,Bool.and_eq_false_iff,decide_eq_false_iff_not]; omega
   simp [nameF, all_not h this]
  ·omega
  ·rw [w64 (by omega) (by omega)]; rfl
  ·exact all_take h hl (d := 0) (by simp only [letter,Bool.and_eq_true,decide_eq_true_eq]; omega)
  ·refine (c_inRange _ _ _ _).det ?_
   have : k = s.length := by omega
   subst this
   rw [List.take_length] at hl
   simp +contextual -dsimp -implicitDefEqProofs (maxSteps:=5000000) only [go_sem,reduceIte,reduceCtorEq,Nat.reduceEqDiff,Nat.reduceBEq,Nat.reduceAdd,Nat.reduceLeDiff,Nat.reduceMul,Nat.reduceLT,Int.reduceEq,Int.reduceLT,Int.reduceLE,nameF,hl,Bool.true_and]
end
section
open Go Go.Sim
set_option maxRecDepth 100000

abbrev aTree (t : List Class) (cl : Bool) : AV := .agg [.vsl (t.map rClass) cl]
def hasF (t : List Class) (a : Int) : Bool := inR a 0 (t.length - 1)
theorem c_has (t : List Class) (cl : Bool) (a : Int) (H : AHeap) : ACalls Tryz.prog 105 [aTree t cl, I a] H fun r H' => r = B (hasF t a) ∧ H' = H := by
 refine acalls_len1 (by kernel_rfl) (List.mem_cons_self ..) fun hl => ?_
 rw [List.length_map] at hl
 refine acalls_of0 Tryz.func105 rfl (by kernel_rfl) rfl rfl (awp_sound (fz := fun _ => []) (im := fun s => s == 2) mixed _ _ _ _ (by kernel_rfl) ?_)
 simp +contextual -dsimp -implicitDefEqProofs (maxSteps:=5000000) only [go_sem,reduceIte,reduceCtorEq,Nat.reduceEqDiff,Nat.reduceBEq,Nat.reduceAdd,Nat.reduceLeDiff,Nat.reduceMul,Nat.reduceLT,Int.reduceEq,Int.reduceLT,Int.reduceLE]
 rw [w64 (by omega) (by omega)]
 exact (c_within _ _ _ _).det (by simp +contextual -dsimp -implicitDefEqProofs (maxSteps:=5000000) only [go_sem,reduceIte,reduceCtorEq,Nat.reduceEqDiff,Nat.reduceBEq,Nat.reduceAdd,Nat.reduceLeDiff,Nat.reduceMul,Nat.reduceLT,Int.reduceEq,Int.reduceLT,Int.reduceLE,hasF])
theorem c_hasClass (t : List Class) (cl : Bool) (a : Int) (H : AHeap) : ACalls Tryz.prog 159 [aTree t cl, I a] H fun r H' => r = B (hasF t a) ∧ H' = H := by
 refine acalls_len1 (by kernel_rfl) (List.mem_cons_self ..) fun hl => ?_
 rw [List.length_map] at hl
 refine acalls_of0 Tryz.func159 rfl (by kernel_rfl) rfl rfl (awp_sound (fz := fun _ => []) (im := fun s => s == 2) mixed _ _ _ _ (by kernel_rfl) ?_)
 simp +contextual -dsimp -implicitDefEqProofs (maxSteps:=5000000) only [go_sem,reduceIte,reduceCtorEq,Nat.reduceEqDiff,Nat.reduceBEq,Nat.reduceAdd,Nat.reduceLeDiff,Nat.reduceMul,Nat.reduceLT,Int.reduceEq,Int.reduceLT,Int.reduceLE]
 rw [w64 (by omega) (by omega)]
 exact (c_inRange _ _ _ _).det (by simp +contextual -dsimp -implicitDefEqProofs (maxSteps:=5000000) only [go_sem,reduceIte,reduceCtorEq,Nat.reduceEqDiff,Nat.reduceBEq,Nat.reduceAdd,Nat.reduceLeDiff,Nat.reduceMul,Nat.reduceLT,Int.reduceEq,Int.reduceLT,Int.reduceLE,hasF])

theorem c_named1 (c : Class) (s : Str) (H : AHeap) : ACalls Tryz.prog 155 [.agg (rClass c), .vptr [rS s] 0 0] H fun r H' => r = B (decide (c.name = s)) ∧ H' = H := by
 refine acalls_of0 Tryz.func155 rfl (by kernel_rfl) rfl rfl (awp_sound (fz := fun _ => []) (im := fun s => s == 2) mixed _ _ _ _ (by kernel_rfl) ?_)
 simp +contextual -dsimp -implicitDefEqProofs (maxSteps:=5000000) only [go_sem,reduceIte,reduceCtorEq,Nat.reduceEqDiff,Nat.reduceBEq,Nat.reduceAdd,Nat.reduceLeDiff,Nat.reduceMul,Nat.reduceLT,Int.reduceEq,Int.reduceLT,Int.reduceLE]

theorem c_IndexFuncClass (l : List Class) (cl : Bool) (g : FuncId) (caps : List AV) (p : Class → Bool) (H : AHeap)
  (hp : ∀ c, ACalls Tryz.prog g (.agg (rClass c) :: caps) H fun r H' => r = B (p c) ∧ H' = H) :
  ACalls Tryz.prog 154 [.vsl (l.map rClass) cl, .fn g [] caps] H fun r H' => r = I (idxF p l) ∧ H' = H := by
 refine acalls_len (by kernel_rfl) (List.mem_cons_self ..) fun hl => ?_
 rw [List.length_map] at hl
 refine acalls_of0 Tryz.func154 rfl (by kernel_rfl) rfl rfl (awp_sound (fz := fun _ => []) (im := fun _ => false) mixed _ _ _ _ (by kernel_rfl) ?_)
 simp +contextual -dsimp -implicitDefEqProofs (maxSteps:=5000000) only [go_sem,reduceIte,reduceCtorEq,Nat.reduceEqDiff,Nat.reduceBEq,Nat.reduceAdd,Nat.reduceLeDiff,Nat.reduceMul,Nat.reduceLT,Int.reduceEq,Int.reduceLT,Int.reduceLE]
 refine aloop mixed (fz := fun _ => []) (im := fun _ => false) (by kernel_rfl) (fun m tm H' => ∃ k : Nat, m = l.length - k ∧ k ≤ l.length ∧ H' = H ∧ tm 0 = .vsl (l.map rClass) cl ∧ tm 1 = .fn g [] caps ∧ tm 7 = I l.length ∧ tm 8 = I k ∧ (l.take k).any p = false) l.length ⟨0, ?_⟩ ?_
 ·simp +contextual -dsimp -implicitDefEqProofs (maxSteps:=5000000) only [go_sem,reduceIte,reduceCtorEq,Nat.reduceEqDiff,Nat.reduceBEq,Nat.reduceAdd,Nat.reduceLeDiff,Nat.reduceMul,Nat.reduceLT,Int.reduceEq,Int.reduceLT,Int.reduceLE]
  simp
 ·rintro m tm _ ⟨k, rfl, hk, rfl, h0, h1, h7, h8, hn⟩
  simp +contextual -dsimp -implicitDefEqProofs (maxSteps:=5000000) only [go_sem,reduceIte,reduceCtorEq,Nat.reduceEqDiff,Nat.reduceBEq,Nat.reduceAdd,Nat.reduceLeDiff,Nat.reduceMul,Nat.reduceLT,Int.reduceEq,Int.reduceLT,Int.reduceLE,h0,h1,h7,h8]
  refine ⟨fun h => (hp _).det ?_, fun h => ?_⟩
  ·simp +contextual -dsimp -implicitDefEqProofs (maxSteps:=5000000) only [go_sem,reduceIte,reduceCtorEq,Nat.reduceEqDiff,Nat.reduceBEq,Nat.reduceAdd,Nat.reduceLeDiff,Nat.reduceMul,Nat.reduceLT,Int.reduceEq,Int.reduceLT,Int.reduceLE,h0,h1,h7,h8]
   refine ⟨fun hb => ?_, fun hb => ⟨_, ?_, k + 1, rfl, h, I_wrap (by omega) (by omega) (by omega), any_take h hn hb⟩⟩
   ·rw [idxF_at h hn hb]
   ·omega
  ·rw [idxF_none (by omega) hn]
theorem c_named (t : List Class) (cl : Bool) (s : Str) (H : AHeap) : ACalls Tryz.prog 103 [aTree t cl, S s] H fun r H' => r = I (idxF (fun c => decide (c.name = s)) t) ∧ H' = H := by
 refine acalls_of0 Tryz.func103 rfl (by kernel_rfl) rfl rfl (awp_sound (fz := fun _ => []) (im := fun s => s == 2 || s == 3) mixed _ _ _ _ (by kernel_rfl) ?_)
 simp +contextual -dsimp -implicitDefEqProofs (maxSteps:=5000000) only [go_sem,reduceIte,reduceCtorEq,Nat.reduceEqDiff,Nat.reduceBEq,Nat.reduceAdd,Nat.reduceLeDiff,Nat.reduceMul,Nat.reduceLT,Int.reduceEq,Int.reduceLT,Int.reduceLE]
 exact (c_IndexFuncClass t cl _ _ _ H fun c => c_named1 c s H).det (by simp +contextual -dsimp -implicitDefEqProofs (maxSteps:=5000000) only [go_sem,reduceIte,reduceCtorEq,Nat.reduceEqDiff,Nat.reduceBEq,Nat.reduceAdd,Nat.reduceLeDiff,Nat.reduceMul,Nat.reduceLT,Int.reduceEq,Int.reduceLT,Int.reduceLE])
theorem c_classNamed (l : List Class) (cl : Bool) (s : Str) (H : AHeap) : ACalls Tryz.prog 148 [.vsl (l.map rClass) cl, S s] H fun r H' => r = I (idxF (fun c => decide (c.name = s)) l) ∧ H' = H := by
 refine acalls_len (by kernel_rfl) (List.mem_cons_self ..) fun hl => ?_
 rw [List.length_map] at hl
 refine acalls_of0 Tryz.func148 rfl (by kernel_rfl) rfl rfl (awp_sound (fz := fun _ => []) (im := fun _ => false) mixed _ _ _ _ (by kernel_rfl) ?_)
 simp +contextual -dsimp -implicitDefEqProofs (maxSteps:=5000000) only [go_sem,reduceIte,reduceCtorEq,Nat.reduceEqDiff,Nat.reduceBEq,Nat.reduceAdd,Nat.reduceLeDiff,Nat.reduceMul,Nat.reduceLT,Int.reduceEq,Int.reduceLT,Int.reduceLE]
 refine aloop mixed (fz := fun _ => []) (im := fun _ => false) (by kernel_rfl) (fun m tm H' => ∃ k : Nat, m = l.length - k ∧ k ≤ l.length ∧ H' = H ∧ tm 0 = .vsl (l.map rClass) cl ∧ tm 1 = S s ∧ tm 5 = I k ∧ (l.take k).any (fun c => decide (c.name = s)) = false) l.length ⟨0, ?_⟩ ?_
 ·simp +contextual -dsimp -implicitDefEqProofs (maxSteps:=5000000) only [go_sem,reduceIte,reduceCtorEq,Nat.reduceEqDiff,Nat.reduceBEq,Nat.reduceAdd,Nat.reduceLeDiff,Nat.reduceMul,Nat.reduceLT,Int.reduceEq,Int.reduceLT,Int.reduceLE]
  simp
 ·rintro m tm _ ⟨k, rfl, hk, rfl, h0, h1, h5, hn⟩
  simp +contextual -dsimp -implicitDefEqProofs (maxSteps:=5000000) only [go_sem,reduceIte,reduceCtorEq,Nat.reduceEqDiff,Nat.reduceBEq,Nat.reduceAdd,Nat.reduceLeDiff,Nat.reduceMul,Nat.reduceLT,Int.reduceEq,Int.reduceLT,Int.reduceLE,h0,h1,h5]
  refine ⟨fun h => ⟨fun hb => ?_, fun hb => ⟨_, ?_, k + 1, rfl, h, I_wrap (by omega) (by omega) (by omega), any_take h hn (d := default) (by simpa using hb)⟩⟩, fun h => ?_⟩
  ·rw [idxF_at h hn (d := default) (by simpa using hb)]
  ·omega
  ·rw [idxF_none (by omega) hn]
theorem c_Index (l : List Int) (cl : Bool) (n : Int) (H : AHeap) : ACalls Tryz.prog 137 [.vsl (l.map rI) cl, I n] H fun r H' => r = I (idxF (fun x => decide (n = x)) l) ∧ H' = H := by
 refine acalls_len (by kernel_rfl) (List.mem_cons_self ..) fun hl => ?_
 rw [List.length_map] at hl
 refine acalls_of0 Tryz.func137 rfl (by kernel_rfl) rfl rfl (awp_sound (fz := fun _ => []) (im := fun _ => false) mixed _ _ _ _ (by kernel_rfl) ?_)
 simp +contextual -dsimp -implicitDefEqProofs (maxSteps:=5000000) only [go_sem,reduceIte,reduceCtorEq,Nat.reduceEqDiff,Nat.reduceBEq,Nat.reduceAdd,Nat.reduceLeDiff,Nat.reduceMul,Nat.reduceLT,Int.reduceEq,Int.reduceLT,Int.reduceLE]
 refine aloop mixed (fz := fun _ => []) (im := fun _ => false) (by kernel_rfl) (fun m tm H' => ∃ k : Nat, m = l.length - k ∧ k ≤ l.length ∧ H' = H ∧ tm 0 = .vsl (l.map rI) cl ∧ tm 1 = I n ∧ tm 7 = I l.length ∧ tm 8 = I k ∧ (l.take k).any (fun x => decide (n = x)) = false) l.length ⟨0, ?_⟩ ?_
 ·simp +contextual -dsimp -implicitDefEqProofs (maxSteps:=5000000) only [go_sem,reduceIte,reduceCtorEq,Nat.reduceEqDiff,Nat.reduceBEq,Nat.reduceAdd,Nat.reduceLeDiff,Nat.reduceMul,Nat.reduceLT,Int.reduceEq,Int.reduceLT,Int.reduceLE]
  simp
 ·rintro m tm _ ⟨k, rfl, hk, rfl, h0, h1, h7, h8, hn⟩
  simp +contextual -dsimp -implicitDefEqProofs (maxSteps:=5000000) only [go_sem,reduceIte,reduceCtorEq,Nat.reduceEqDiff,Nat.reduceBEq,Nat.reduceAdd,Nat.reduceLeDiff,Nat.reduceMul,Nat.reduceLT,Int.reduceEq,Int.reduceLT,Int.reduceLE,h0,h1,h7,h8]
  refine ⟨fun h => ⟨fun hb => ?_, fun hb => ⟨_, ?_, k + 1, rfl, h, I_wrap (by omega) (by omega) (by omega), any_take h hn (d := default) (by simpa using hb)⟩⟩, fun h => ?_⟩
  ·rw [← hb, idxF_at h hn (d := default) (by simpa using hb)]
  ·omega
  ·rw [idxF_none (by omega) hn]
theorem c_Contains (l : List Int) (cl : Bool) (n : Int) (H : AHeap) : ACalls Tryz.prog 169 [.vsl (l.map rI) cl, I n] H fun r H' => r = B (l.any fun x => decide (n = x)) ∧ H' = H := by
 refine acalls_of0 Tryz.func169 rfl (by kernel_rfl) rfl rfl (awp_sound (fz := fun _ => []) (im := fun _ => false) mixed _ _ _ _ (by kernel_rfl) ?_)
 simp +contextual -dsimp -implicitDefEqProofs (maxSteps:=5000000) only [go_sem,reduceIte,reduceCtorEq,Nat.reduceEqDiff,Nat.reduceBEq,Nat.reduceAdd,Nat.reduceLeDiff,Nat.reduceMul,Nat.reduceLT,Int.reduceEq,Int.reduceLT,Int.reduceLE]
 refine (c_Index l cl n H).det ?_
 simp +contextual -dsimp -implicitDefEqProofs (maxSteps:=5000000) only [go_sem,reduceIte,reduceCtorEq,Nat.reduceEqDiff,Nat.reduceBEq,Nat.reduceAdd,Nat.reduceLeDiff,Nat.reduceMul,Nat.reduceLT,Int.reduceEq,Int.reduceLT,Int.reduceLE]
 have h1 := idxF_ge (fun x => decide (n = x)) l
 have h2 := @idxF_neg _ (fun x => decide (n = x)) l
 cases hb : l.any fun x => decide (n = x)
 ·rw [h2.2 hb]; rfl
 ·have : idxF (fun x => decide (n = x)) l ≠ -1 := fun e => by rw [h2.1 e] at hb; cases hb
  simp; omega
theorem c_hasInt (l : List Int) (cl : Bool) (n : Int) (H : AHeap) : ACalls Tryz.prog 164 [.vsl (l.map rI) cl, I n] H fun r H' => r = B (l.any fun x => decide (n = x)) ∧ H' = H := by
 refine acalls_len (by kernel_rfl) (List.mem_cons_self ..) fun hl => ?_
 rw [List.length_map] at hl
 refine acalls_of0 Tryz.func164 rfl (by kernel_rfl) rfl rfl (awp_sound (fz := fun _ => []) (im := fun _ => false) mixed _ _ _ _ (by kernel_rfl) ?_)
 simp +contextual -dsimp -implicitDefEqProofs (maxSteps:=5000000) only [go_sem,reduceIte,reduceCtorEq,Nat.reduceEqDiff,Nat.reduceBEq,Nat.reduceAdd,Nat.reduceLeDiff,Nat.reduceMul,Nat.reduceLT,Int.reduceEq,Int.reduceLT,Int.reduceLE]
 refine aloop mixed (fz := fun _ => []) (im := fun _ => false) (by kernel_rfl) (fun m tm H' => ∃ k : Nat, m = l.length - k ∧ k ≤ l.length ∧ H' = H ∧ tm 0 = .vsl (l.map rI) cl ∧ tm 1 = I n ∧ tm 5 = I k ∧ (l.take k).any (fun x => decide (n = x)) = false) l.length ⟨0, ?_⟩ ?_
 ·simp +contextual -dsimp -implicitDefEqProofs (maxSteps:=5000000) only [go_sem,reduceIte,reduceCtorEq,Nat.reduceEqDiff,Nat.reduceBEq,Nat.reduceAdd,Nat.reduceLeDiff,Nat.reduceMul,Nat.reduceLT,Int.reduceEq,Int.reduceLT,Int.reduceLE]
  simp
 ·rintro m tm _ ⟨k, rfl, hk, rfl, h0, h1, h5, hn⟩
  simp +contextual -dsimp -implicitDefEqProofs (maxSteps:=5000000) only [go_sem,reduceIte,reduceCtorEq,Nat.reduceEqDiff,Nat.reduceBEq,Nat.reduceAdd,Nat.reduceLeDiff,Nat.reduceMul,Nat.reduceLT,Int.reduceEq,Int.reduceLT,Int.reduceLE,h0,h1,h5]
  refine ⟨fun h => ⟨fun hb => ?_, fun hb => ⟨_, ?_, k + 1, rfl, h, I_wrap (by omega) (by omega) (by omega), any_take h hn (d := default) (by simpa [eq_comm] using hb)⟩⟩, fun h => ?_⟩
  ·rw [any_at h (d := default) (by simpa [eq_comm] using hb)]
  ·omega
  ·rw [← List.take_of_length_le (show l.length ≤ k by omega), hn]
end
section
open Go Go.Sim
set_option maxRecDepth 100000

def namesOk (t : List Class) : Prop := ∀ c ∈ t, c.name.length < 4611686018427387904
theorem namesOk_at {t : List Class} (h : namesOk t) {k : Nat} (hk : k < t.length) : (t.getD k default).name.length < 4611686018427387904 := by
 apply h
 simp [List.getD_eq_getElem?_getD, hk]
def clsOk (t : List Class) (i : Nat) (c : Class) : Bool :=
 nameF c.name && decide (idxF (fun d => decide (d.name = c.name)) t = i) && (if i = 0 then decide (c.parent = -1) else inR c.parent 0 (i - 1))
def validT (t : List Class) : Bool := (List.range t.length).all (fun i => clsOk t i (t.getD i default)) && inR t.length 1 8

theorem c_ValidTree (t : List Class) (cl : Bool) (H : AHeap) (hn : namesOk t) : ACalls Tryz.prog 53 [aTree t cl] H fun r H' => r = B (validT t) ∧ H' = H := by
 refine acalls_len1 (by kernel_rfl) (List.mem_cons_self ..) fun hl => ?_
 rw [List.length_map] at hl
 refine acalls_of0 Tryz.func53 rfl (by kernel_rfl) rfl rfl (awp_sound (fz := fun r => if r = 3 then [4] else []) (im := fun s => s == 1) mixed _ _ _ _ (by kernel_rfl) ?_)
 simp +contextual -dsimp -implicitDefEqProofs (maxSteps:=5000000) only [go_sem,reduceIte,reduceCtorEq,Nat.reduceEqDiff,Nat.reduceBEq,Nat.reduceAdd,Nat.reduceLeDiff,Nat.reduceMul,Nat.reduceLT,Int.reduceEq,Int.reduceLT,Int.reduceLE]
 refine aloop mixed (fz := fun r => if r = 3 then [4] else []) (im := fun s => s == 1) (by kernel_rfl) (fun m tm H' => ∃ k : Nat, m = t.length - k ∧ k ≤ t.length ∧ H' = H ∧ tm 1 = .vptr [[.vsl (t.map rClass) cl]] 0 0 ∧ tm 6 = .vsl (t.map rClass) cl ∧ tm 7 = I t.length ∧ tm 8 = I k ∧ (List.range k).all (fun i => clsOk t i (t.getD i default)) = true) t.length ⟨0, ?_⟩ ?_
 ·simp +contextual -dsimp -implicitDefEqProofs (maxSteps:=5000000) only [go_sem,reduceIte,reduceCtorEq,Nat.reduceEqDiff,Nat.reduceBEq,Nat.reduceAdd,Nat.reduceLeDiff,Nat.reduceMul,Nat.reduceLT,Int.reduceEq,Int.reduceLT,Int.reduceLE]
  simp
 ·rintro m tm _ ⟨k, rfl, hk, rfl, h1, h6, h7, h8, hv⟩
  simp +contextual -dsimp -implicitDefEqProofs (maxSteps:=5000000) only [go_sem,reduceIte,reduceCtorEq,Nat.reduceEqDiff,Nat.reduceBEq,Nat.reduceAdd,Nat.reduceLeDiff,Nat.reduceMul,Nat.reduceLT,Int.reduceEq,Int.reduceLT,Int.reduceLE,h1,h6,h7,h8]
  refine ⟨fun h b hb => ?_, fun h => ?_⟩
  ·refine (c_nameOk _ _ (namesOk_at hn h)).det ?_
   have bad : clsOk t k (t.getD k default) = false → validT t = false := fun e => by
    simp only [validT,Bool.and_eq_false_iff]
    left
    rw [List.all_eq_false]
    exact ⟨k, by simp [h], by simp only [e]; decide⟩
   cases hN : nameF (t.getD k default).name
   ·simp +contextual -dsimp -implicitDefEqProofs (maxSteps:=5000000) only [go_sem,reduceIte,reduceCtorEq,Nat.reduceEqDiff,Nat.reduceBEq,Nat.reduceAdd,Nat.reduceLeDiff,Nat.reduceMul,Nat.reduceLT,Int.reduceEq,Int.reduceLT,Int.reduceLE,h1,h6,h7,h8,hb]
    rw [bad (by simp only [clsOk,hN,Bool.false_and])]
   ·simp +contextual -dsimp -implicitDefEqProofs (maxSteps:=5000000) only [go_sem,reduceIte,reduceCtorEq,Nat.reduceEqDiff,Nat.reduceBEq,Nat.reduceAdd,Nat.reduceLeDiff,Nat.reduceMul,Nat.reduceLT,Int.reduceEq,Int.reduceLT,Int.reduceLE,h1,h6,h7,h8,hb]
    refine (c_named _ _ _ _).det ?_
    simp +contextual -dsimp -implicitDefEqProofs (maxSteps:=5000000) only [go_sem,reduceIte,reduceCtorEq,Nat.reduceEqDiff,Nat.reduceBEq,Nat.reduceAdd,Nat.reduceLeDiff,Nat.reduceMul,Nat.reduceLT,Int.reduceEq,Int.reduceLT,Int.reduceLE,h1,h6,h7,h8,hb]
    have hp := bad
    simp only [clsOk,hN,Bool.true_and] at hp
    by_cases hI : idxF (fun c => decide (c.name = (t.getD k default).name)) t = k
    ·have nxt : clsOk t k (t.getD k default) = true → ∃ m', m' < t.length - k ∧ ∃ k_1 : Nat, m' = t.length - k_1 ∧ k_1 ≤ t.length ∧ AV.lit (Value.int IntKind.i64 (IntKind.i64.wrap (↑k + 1))) = I ↑k_1 ∧ ((List.range k_1).all fun i => clsOk t i (t.getD i default)) = true := fun e =>
      ⟨_, by omega, k + 1, rfl, h, I_wrap (by omega) (by omega) (by omega), by rw [List.range_succ, List.all_append, hv]; simp only [List.all_cons,e,List.all_nil]; rfl⟩
     simp only [clsOk,hN,hI,decide_true,Bool.true_and] at nxt hp
     rcases Nat.eq_zero_or_pos k with rfl | hk0
     ·by_cases hP : (t.getD 0 default).parent = -1
      ·simp +contextual -dsimp -implicitDefEqProofs (maxSteps:=5000000) only [go_sem,reduceIte,reduceCtorEq,Nat.reduceEqDiff,Nat.reduceBEq,Nat.reduceAdd,Nat.reduceLeDiff,Nat.reduceMul,Nat.reduceLT,Int.reduceEq,Int.reduceLT,Int.reduceLE,h1,h6,h7,h8,hb,hI,hP]
       exact nxt (by simp only [hP,if_true,decide_true])
      ·simp +contextual -dsimp -implicitDefEqProofs (maxSteps:=5000000) only [go_sem,reduceIte,reduceCtorEq,Nat.reduceEqDiff,Nat.reduceBEq,Nat.reduceAdd,Nat.reduceLeDiff,Nat.reduceMul,Nat.reduceLT,Int.reduceEq,Int.reduceLT,Int.reduceLE,h1,h6,h7,h8,hb,hI,hP]
       rw [hp (by simp only [hP,if_true,decide_false])]
     ·have hk1 : ¬ k = 0 := by omega
      simp +contextual -dsimp -implicitDefEqProofs (maxSteps:=5000000) only [go_sem,reduceIte,reduceCtorEq,Nat.reduceEqDiff,Nat.reduceBEq,Nat.reduceAdd,Nat.reduceLeDiff,Nat.reduceMul,Nat.reduceLT,Int.reduceEq,Int.reduceLT,Int.reduceLE,h1,h6,h7,h8,hb,hI,hk0,hk1]
      rw [w64 (by omega) (by omega)]
      refine (c_within _ _ _ _).det ?_
      simp +contextual -dsimp -implicitDefEqProofs (maxSteps:=5000000) only [go_sem,reduceIte,reduceCtorEq,Nat.reduceEqDiff,Nat.reduceBEq,Nat.reduceAdd,Nat.reduceLeDiff,Nat.reduceMul,Nat.reduceLT,Int.reduceEq,Int.reduceLT,Int.reduceLE,h1,h6,h7,h8,hb,hI,hk0,hk1]
      simp only [hk1,if_false] at nxt hp
      exact ⟨fun e => by rw [hp e], nxt⟩
    ·simp +contextual -dsimp -implicitDefEqProofs (maxSteps:=5000000) only [go_sem,reduceIte,reduceCtorEq,Nat.reduceEqDiff,Nat.reduceBEq,Nat.reduceAdd,Nat.reduceLeDiff,Nat.reduceMul,Nat.reduceLT,Int.reduceEq,Int.reduceLT,Int.reduceLE,h1,h6,h7,h8,hb,hI]
     rw [hp (by simp only [hI,decide_false,Bool.false_and])]
  ·refine (c_within _ _ _ _).det ?_
   simp +contextual -dsimp -implicitDefEqProofs (maxSteps:=5000000) only [go_sem,reduceIte,reduceCtorEq,Nat.reduceEqDiff,Nat.reduceBEq,Nat.reduceAdd,Nat.reduceLeDiff,Nat.reduceMul,Nat.reduceLT,Int.reduceEq,Int.reduceLT,Int.reduceLE,h1,h6,h7,h8]
   have : k = t.length := by omega
   subst this
   simp only [validT,hv,Bool.true_and]
theorem idxF_take {α : Type} {p : α → Bool} {l : List α} {k : Nat} {d : α} (hk : k < l.length) (hp : p (l.getD k d) = true) : (idxF p l = k) ↔ idxF p (l.take k) < 0 := by
 have h1 := idxF_ge p (l.take k)
 have h2 := @idxF_neg _ p (l.take k)
 constructor
 ·intro e
  have : (l.take k).any p = false := by
   rw [← Bool.not_eq_true]
   intro ha
   have h3 : ∀ (l : List α) (k : Nat), (l.take k).any p = true → idxF p l < k := by
    intro l
    induction l with
    | nil => intro k h; simp at h
    | cons x l ih =>
     intro k h
     cases k with
     | zero => simp at h
     | succ k =>
      simp only [List.take_succ_cons,List.any_cons,Bool.or_eq_true] at h
      have := idxF_ge p l
      simp only [idxF]
      split
      ·omega
      ·rename_i hx
       have := ih k (h.resolve_left (by simpa using hx))
       split <;> omega
   have := h3 l k ha
   omega
  rw [h2.2 this]; omega
 ·intro e
  have : idxF p (l.take k) = -1 := by omega
  exact idxF_at hk (h2.1 this) hp
theorem c_validTree (t : List Class) (cl : Bool) (H : AHeap) (hn : namesOk t) : ACalls Tryz.prog 99 [aTree t cl] H fun r H' => r = B (validT t) ∧ H' = H := by
 refine acalls_len1 (by kernel_rfl) (List.mem_cons_self ..) fun hl => ?_
 rw [List.length_map] at hl
 refine acalls_of0 Tryz.func99 rfl (by kernel_rfl) rfl rfl (awp_sound (fz := fun r => if r = 4 then [4] else []) (im := fun s => s == 1) mixed _ _ _ _ (by kernel_rfl) ?_)
 simp +contextual -dsimp -implicitDefEqProofs (maxSteps:=5000000) only [go_sem,reduceIte,reduceCtorEq,Nat.reduceEqDiff,Nat.reduceBEq,Nat.reduceAdd,Nat.reduceLeDiff,Nat.reduceMul,Nat.reduceLT,Int.reduceEq,Int.reduceLT,Int.reduceLE]
 refine aloop mixed (fz := fun r => if r = 4 then [4] else []) (im := fun s => s == 1) (by kernel_rfl) (fun m tm H' => ∃ k : Nat, m = t.length - k ∧ k ≤ t.length ∧ H' = H ∧ tm 1 = .vptr [[.vsl (t.map rClass) cl]] 0 0 ∧ tm 3 = I k ∧ (List.range k).all (fun i => clsOk t i (t.getD i default)) = true) t.length ⟨0, ?_⟩ ?_
 ·simp +contextual -dsimp -implicitDefEqProofs (maxSteps:=5000000) only [go_sem,reduceIte,reduceCtorEq,Nat.reduceEqDiff,Nat.reduceBEq,Nat.reduceAdd,Nat.reduceLeDiff,Nat.reduceMul,Nat.reduceLT,Int.reduceEq,Int.reduceLT,Int.reduceLE]
  simp
 ·rintro m tm _ ⟨k, rfl, hk, rfl, h1, h3, hv⟩
  simp +contextual -dsimp -implicitDefEqProofs (maxSteps:=5000000) only [go_sem,reduceIte,reduceCtorEq,Nat.reduceEqDiff,Nat.reduceBEq,Nat.reduceAdd,Nat.reduceLeDiff,Nat.reduceMul,Nat.reduceLT,Int.reduceEq,Int.reduceLT,Int.reduceLE,h1,h3]
  refine ⟨fun h b hb => ?_, fun h => ?_⟩
  ·refine draw_intro [0, 0, 2, 0, 0, 0, 0, 0, 0, 0, 0, 2, 0, 0, 0, 0, 0, 0, 0, 0, 0, 0, 0, 0, 0, 0, 0, 0, 0, 0, 0, 2, 0, 0, 0] AHeap.none (by kernel_rfl) none_le ?_
   simp +contextual -dsimp -implicitDefEqProofs (maxSteps:=5000000) only [go_sem,reduceIte,reduceCtorEq,Nat.reduceEqDiff,Nat.reduceBEq,Nat.reduceAdd,Nat.reduceLeDiff,Nat.reduceMul,Nat.reduceLT,Int.reduceEq,Int.reduceLT,Int.reduceLE,h1,h3,hb]
   refine (c_validName _ _ (namesOk_at hn h)).det ?_
   have bad : clsOk t k (t.getD k default) = false → validT t = false := fun e => by
    simp only [validT,Bool.and_eq_false_iff]
    left
    rw [List.all_eq_false]
    exact ⟨k, by simp [h], by simp only [e]; decide⟩
   cases hN : nameF (t.getD k default).name
   ·simp +contextual -dsimp -implicitDefEqProofs (maxSteps:=5000000) only [go_sem,reduceIte,reduceCtorEq,Nat.reduceEqDiff,Nat.reduceBEq,Nat.reduceAdd,Nat.reduceLeDiff,Nat.reduceMul,Nat.reduceLT,Int.reduceEq,Int.reduceLT,Int.reduceLE,h1,h3,hb]
    rw [bad (by simp only [clsOk,hN,Bool.false_and])]
   ·simp +contextual -dsimp -implicitDefEqProofs (maxSteps:=5000000) only [go_sem,reduceIte,reduceCtorEq,Nat.reduceEqDiff,Nat.reduceBEq,Nat.reduceAdd,Nat.reduceLeDiff,Nat.reduceMul,Nat.reduceLT,Int.reduceEq,Int.reduceLT,Int.reduceLE,h1,h3,hb]
    refine ⟨hk, (c_classNamed _ _ _ _).det ?_⟩
    simp +contextual -dsimp -implicitDefEqProofs (maxSteps:=5000000) only [go_sem,reduceIte,reduceCtorEq,Nat.reduceEqDiff,Nat.reduceBEq,Nat.reduceAdd,Nat.reduceLeDiff,Nat.reduceMul,Nat.reduceLT,Int.reduceEq,Int.reduceLT,Int.reduceLE,h1,h3,hb]
    have hp := bad
    have hI' := idxF_take (p := fun c => decide (c.name = (t.getD k default).name)) h (d := default) (by simp)
    by_cases hI : idxF (fun c => decide (c.name = (t.getD k default).name)) t = k
    ·have hJ : ¬ 0 ≤ idxF (fun c => decide (c.name = (t.getD k default).name)) (t.take k) := by have := hI'.1 hI; omega
     have nxt : clsOk t k (t.getD k default) = true → ∃ m', m' < t.length - k ∧ ∃ k_1 : Nat, m' = t.length - k_1 ∧ k_1 ≤ t.length ∧ AV.lit (Value.int IntKind.i64 (IntKind.i64.wrap (↑k + 1))) = I ↑k_1 ∧ ((List.range k_1).all fun i => clsOk t i (t.getD i default)) = true := fun e =>
      ⟨_, by omega, k + 1, rfl, h, I_wrap (by omega) (by omega) (by omega), by rw [List.range_succ, List.all_append, hv]; simp only [List.all_cons,e,List.all_nil]; rfl⟩
     simp only [clsOk,hN,hI,decide_true,Bool.true_and] at nxt hp
     rcases Nat.eq_zero_or_pos k with rfl | hk0
     ·have hJ : ¬ 0 ≤ idxF (fun c : Class => decide (c.name = (t.getD 0 default).name)) [] := by simp [idxF]
      by_cases hP : (t.getD 0 default).parent = -1
      ·simp +contextual -dsimp -implicitDefEqProofs (maxSteps:=5000000) only [go_sem,reduceIte,reduceCtorEq,Nat.reduceEqDiff,Nat.reduceBEq,Nat.reduceAdd,Nat.reduceLeDiff,Nat.reduceMul,Nat.reduceLT,Int.reduceEq,Int.reduceLT,Int.reduceLE,h1,h3,hb,hJ,hP]
       exact nxt (by simp only [hP,if_true,decide_true])
      ·simp +contextual -dsimp -implicitDefEqProofs (maxSteps:=5000000) only [go_sem,reduceIte,reduceCtorEq,Nat.reduceEqDiff,Nat.reduceBEq,Nat.reduceAdd,Nat.reduceLeDiff,Nat.reduceMul,Nat.reduceLT,Int.reduceEq,Int.reduceLT,Int.reduceLE,h1,h3,hb,hJ,hP]
       rw [hp (by simp only [hP,if_true,decide_false])]
     ·have hk1 : ¬ k = 0 := by omega
      simp +contextual -dsimp -implicitDefEqProofs (maxSteps:=5000000) only [go_sem,reduceIte,reduceCtorEq,Nat.reduceEqDiff,Nat.reduceBEq,Nat.reduceAdd,Nat.reduceLeDiff,Nat.reduceMul,Nat.reduceLT,Int.reduceEq,Int.reduceLT,Int.reduceLE,h1,h3,hb,hJ,hk0,hk1]
      rw [w64 (by omega) (by omega)]
      refine (c_inRange _ _ _ _).det ?_
      simp +contextual -dsimp -implicitDefEqProofs (maxSteps:=5000000) only [go_sem,reduceIte,reduceCtorEq,Nat.reduceEqDiff,Nat.reduceBEq,Nat.reduceAdd,Nat.reduceLeDiff,Nat.reduceMul,Nat.reduceLT,Int.reduceEq,Int.reduceLT,Int.reduceLE,h1,h3,hb,hJ,hk0,hk1]
      simp only [hk1,if_false] at nxt hp
      exact ⟨fun e => by rw [hp e], nxt⟩
    ·have hJ : 0 ≤ idxF (fun c => decide (c.name = (t.getD k default).name)) (t.take k) := by
      have := fun q => hI (hI'.2 q)
      omega
     simp +contextual -dsimp -implicitDefEqProofs (maxSteps:=5000000) only [go_sem,reduceIte,reduceCtorEq,Nat.reduceEqDiff,Nat.reduceBEq,Nat.reduceAdd,Nat.reduceLeDiff,Nat.reduceMul,Nat.reduceLT,Int.reduceEq,Int.reduceLT,Int.reduceLE,h1,h3,hb,hJ]
     rw [hp (by simp only [clsOk,hI,decide_false,Bool.and_false,Bool.false_and])]
  ·refine (c_inRange _ _ _ _).det ?_
   simp +contextual -dsimp -implicitDefEqProofs (maxSteps:=5000000) only [go_sem,reduceIte,reduceCtorEq,Nat.reduceEqDiff,Nat.reduceBEq,Nat.reduceAdd,Nat.reduceLeDiff,Nat.reduceMul,Nat.reduceLT,Int.reduceEq,Int.reduceLT,Int.reduceLE,h1,h3]
   have : k = t.length := by omega
   subst this
   simp only [validT,hv,Bool.true_and]
end
section
open Go Go.Sim
set_option maxRecDepth 100000

theorem validT_len {t : List Class} (h : validT t = true) : 1 ≤ t.length ∧ t.length ≤ 8 := by
 simp only [validT,inR,Bool.and_eq_true,decide_eq_true_eq] at h
 omega
theorem validT_at {t : List Class} (h : validT t = true) {k : Nat} (hk : k < t.length) : clsOk t k (t.getD k default) = true := by
 simp only [validT,Bool.and_eq_true,List.all_eq_true] at h
 exact h.1 k (by simp [hk])
theorem validT_parent {t : List Class} (h : validT t = true) {k : Nat} (hk : k < t.length) : -1 ≤ (t.getD k default).parent ∧ (t.getD k default).parent < k := by
 have := validT_at h hk
 simp only [clsOk,Bool.and_eq_true] at this
 have h2 := this.2
 split at h2
 ·simp only [decide_eq_true_eq] at h2; omega
 ·simp only [inR,Bool.and_eq_true,decide_eq_true_eq] at h2; omega

def aboveG (t : List Class) : Nat → Int → List Int
 | 0, _ => []
 | n + 1, a => if 0 ≤ a then a :: aboveG t n (t.getD a.toNat default).parent else []
def aboveF (t : List Class) (a : Int) : List Int := aboveG t (a + 1).toNat a
theorem aboveG_neg {t : List Class} {n : Nat} {a : Int} (h : a < 0) : aboveG t n a = [] := by
 cases n with
 | zero => rfl
 | succ n => simp only [aboveG]; rw [if_neg (by omega)]
theorem aboveG_eq {t : List Class} (h : validT t = true) : ∀ (n m : Nat) (a : Int), a < t.length → a < n → a < m → aboveG t n a = aboveG t m a
 | 0, m, a, _, h1, _ => by rw [aboveG_neg (by omega), aboveG_neg (by omega)]
 | n + 1, 0, a, _, _, h2 => by rw [aboveG_neg (by omega), aboveG_neg (by omega)]
 | n + 1, m + 1, a, h0, h1, h2 => by
  simp only [aboveG]
  split
  ·rename_i ha
   have := validT_parent h (show a.toNat < t.length by omega)
   rw [aboveG_eq h n m _ (by omega) (by omega) (by omega)]
  ·rfl
theorem aboveF_step {t : List Class} (h : validT t = true) {a : Int} (h0 : 0 ≤ a) (h1 : a < t.length) : aboveF t a = a :: aboveF t (t.getD a.toNat default).parent := by
 have := validT_parent h (show a.toNat < t.length by omega)
 have e : (a + 1).toNat = a.toNat + 1 := by omega
 simp only [aboveF,e,aboveG]
 rw [if_pos h0]
 exact congrArg _ (aboveG_eq h _ _ _ (by omega) (by omega) (by omega))
theorem aboveF_neg {t : List Class} {a : Int} (h : a < 0) : aboveF t a = [] := aboveG_neg h

theorem c_above (t : List Class) (cl : Bool) (a : Int) (H : AHeap) (hv : validT t = true) (ha : a < t.length) : ACalls Tryz.prog 170 [aTree t cl, I a] H fun r H' => (∃ cl', r = .vsl ((aboveF t a).map rI) cl') ∧ H' = H := by
 have hl := validT_len hv
 refine acalls_of1 Tryz.func170 rfl (by kernel_rfl) rfl rfl (awp_sound (fz := fun _ => []) (im := fun s => s == 2 || s == 20) mixed _ _ _ _ (by kernel_rfl) ?_)
 simp +contextual -dsimp -implicitDefEqProofs (maxSteps:=5000000) only [go_sem,reduceIte,reduceCtorEq,Nat.reduceEqDiff,Nat.reduceBEq,Nat.reduceAdd,Nat.reduceLeDiff,Nat.reduceMul,Nat.reduceLT,Int.reduceEq,Int.reduceLT,Int.reduceLE]
 refine ⟨by omega, by omega, fun b hb => ?_⟩
 refine aloop mixed (fz := fun _ => []) (im := fun s => s == 2 || s == 20) (by kernel_rfl) (fun m tm H' => ∃ (out : List Int) (c : Int), m = (c + 1).toNat ∧ c < t.length ∧ out.length + (c + 1).toNat ≤ 8 ∧ tm 1 = I c ∧ tm 2 = .vptr [[.vsl (t.map rClass) cl]] 0 0 ∧ Grow rI 1 3 H H' (tm 5) out ∧ out ++ aboveF t c = aboveF t a) (a + 1).toNat ⟨[], a, rfl, ha, by simp; omega, ?_⟩ ?_
 ·simp +contextual -dsimp -implicitDefEqProofs (maxSteps:=5000000) only [go_sem,reduceIte,reduceCtorEq,Nat.reduceEqDiff,Nat.reduceBEq,Nat.reduceAdd,Nat.reduceLeDiff,Nat.reduceMul,Nat.reduceLT,Int.reduceEq,Int.reduceLT,Int.reduceLE]
  exact grow_new hb
 ·rintro m tm H' ⟨out, c, rfl, hc, ho, h1, h2, hg, he⟩
  simp +contextual -dsimp -implicitDefEqProofs (maxSteps:=5000000) only [go_sem,reduceIte,reduceCtorEq,Nat.reduceEqDiff,Nat.reduceBEq,Nat.reduceAdd,Nat.reduceLeDiff,Nat.reduceMul,Nat.reduceLT,Int.reduceEq,Int.reduceLT,Int.reduceLE,h1,h2]
  refine ⟨fun h => ?_, fun h => ?_⟩
  ·refine grow_append (m := [c]) te29 ti3 rI_len (by decide) hg (by simp; omega) (by simp; omega) rfl fun x' H'' hg' => ?_
   simp +contextual -dsimp -implicitDefEqProofs (maxSteps:=5000000) only [go_sem,reduceIte,reduceCtorEq,Nat.reduceEqDiff,Nat.reduceBEq,Nat.reduceAdd,Nat.reduceLeDiff,Nat.reduceMul,Nat.reduceLT,Int.reduceEq,Int.reduceLT,Int.reduceLE,h1,h2]
   have hp := validT_parent hv (show c.toNat < t.length by omega)
   refine ⟨by omega, by omega, _, ?_, out ++ [c], _, rfl, ?_, ?_, rfl, hg', ?_⟩
   ·omega
   ·omega
   ·simp only [List.length_append,List.length_cons,List.length_nil]; omega
   ·rw [← he, aboveF_step hv h hc]; simp
  ·have hn := grow_len te29 hg
   obtain ⟨x', hx, hg'⟩ := grow_slice (ka := .i64) (kb := .i64) te29 ti3 rI_len hg
   simp +contextual -dsimp -implicitDefEqProofs (maxSteps:=5000000) only [go_sem,reduceIte,reduceCtorEq,Nat.reduceEqDiff,Nat.reduceBEq,Nat.reduceAdd,Nat.reduceLeDiff,Nat.reduceMul,Nat.reduceLT,Int.reduceEq,Int.reduceLT,Int.reduceLE,h1,h2,hn,hx]
   rw [aboveF_neg (by omega), List.append_nil] at he
   subst he
   exact grow_frz (t := 4) hg' fun cl => retR_one ⟨⟨cl, rfl⟩, rfl⟩
theorem c_sabove (t : List Class) (cl : Bool) (a : Int) (H : AHeap) (hv : validT t = true) (ha : a < t.length) : ACalls Tryz.prog 165 [aTree t cl, I a] H fun r H' => (∃ cl', r = .vsl ((aboveF t a).map rI) cl') ∧ H' = H := by
 have hl := validT_len hv
 refine acalls_of1 Tryz.func165 rfl (by kernel_rfl) rfl rfl (awp_sound (fz := fun _ => []) (im := fun s => s == 2 || s == 6 || s == 17) mixed _ _ _ _ (by kernel_rfl) ?_)
 simp +contextual -dsimp -implicitDefEqProofs (maxSteps:=5000000) only [go_sem,reduceIte,reduceCtorEq,Nat.reduceEqDiff,Nat.reduceBEq,Nat.reduceAdd,Nat.reduceLeDiff,Nat.reduceMul,Nat.reduceLT,Int.reduceEq,Int.reduceLT,Int.reduceLE]
 refine aloop mixed (fz := fun _ => []) (im := fun s => s == 2 || s == 6 || s == 17) (by kernel_rfl) (fun m tm H' => ∃ (out : List Int) (c : Int), m = (c + 1).toNat ∧ c < t.length ∧ out.length + (c + 1).toNat ≤ 8 ∧ tm 1 = I c ∧ tm 2 = .vptr [[.vsl (t.map rClass) cl]] 0 0 ∧ Grow rI 1 3 H H' (tm 5) out ∧ out ++ aboveF t c = aboveF t a) (a + 1).toNat ⟨[], a, rfl, ha, by simp; omega, ?_⟩ ?_
 ·simp +contextual -dsimp -implicitDefEqProofs (maxSteps:=5000000) only [go_sem,reduceIte,reduceCtorEq,Nat.reduceEqDiff,Nat.reduceBEq,Nat.reduceAdd,Nat.reduceLeDiff,Nat.reduceMul,Nat.reduceLT,Int.reduceEq,Int.reduceLT,Int.reduceLE]
  exact grow_nil
 ·rintro m tm H' ⟨out, c, rfl, hc, ho, h1, h2, hg, he⟩
  simp +contextual -dsimp -implicitDefEqProofs (maxSteps:=5000000) only [go_sem,reduceIte,reduceCtorEq,Nat.reduceEqDiff,Nat.reduceBEq,Nat.reduceAdd,Nat.reduceLeDiff,Nat.reduceMul,Nat.reduceLT,Int.reduceEq,Int.reduceLT,Int.reduceLE,h1,h2]
  refine ⟨fun h => ?_, fun h => ?_⟩
  ·refine grow_append (m := [c]) te29 ti3 rI_len (by decide) hg (by simp; omega) (by simp; omega) rfl fun x' H'' hg' => ?_
   simp +contextual -dsimp -implicitDefEqProofs (maxSteps:=5000000) only [go_sem,reduceIte,reduceCtorEq,Nat.reduceEqDiff,Nat.reduceBEq,Nat.reduceAdd,Nat.reduceLeDiff,Nat.reduceMul,Nat.reduceLT,Int.reduceEq,Int.reduceLT,Int.reduceLE,h1,h2]
   have hp := validT_parent hv (show c.toNat < t.length by omega)
   refine ⟨by omega, by omega, _, ?_, out ++ [c], _, rfl, ?_, ?_, rfl, hg', ?_⟩
   ·omega
   ·omega
   ·simp only [List.length_append,List.length_cons,List.length_nil]; omega
   ·rw [← he, aboveF_step hv h hc]; simp
  ·rw [aboveF_neg (by omega), List.append_nil] at he
   subst he
   exact grow_frz (t := 4) hg fun cl => retR_one ⟨⟨cl, rfl⟩, rfl⟩
theorem c_is (t : List Class) (cl : Bool) (a b : Int) (H : AHeap) (hv : validT t = true) (ha : a < t.length) : ACalls Tryz.prog 123 [aTree t cl, I a, I b] H fun r H' => r = B ((aboveF t a).any fun x => decide (b = x)) ∧ H' = H := by
 refine acalls_of0 Tryz.func123 rfl (by kernel_rfl) rfl rfl (awp_sound (fz := fun _ => []) (im := fun s => s == 3) mixed _ _ _ _ (by kernel_rfl) ?_)
 simp +contextual -dsimp -implicitDefEqProofs (maxSteps:=5000000) only [go_sem,reduceIte,reduceCtorEq,Nat.reduceEqDiff,Nat.reduceBEq,Nat.reduceAdd,Nat.reduceLeDiff,Nat.reduceMul,Nat.reduceLT,Int.reduceEq,Int.reduceLT,Int.reduceLE]
 refine (c_above _ _ _ _ hv ha).detV fun cl' => ?_
 simp +contextual -dsimp -implicitDefEqProofs (maxSteps:=5000000) only [go_sem,reduceIte,reduceCtorEq,Nat.reduceEqDiff,Nat.reduceBEq,Nat.reduceAdd,Nat.reduceLeDiff,Nat.reduceMul,Nat.reduceLT,Int.reduceEq,Int.reduceLT,Int.reduceLE]
 refine (c_Contains _ _ _ _).det ?_
 simp +contextual -dsimp -implicitDefEqProofs (maxSteps:=5000000) only [go_sem,reduceIte,reduceCtorEq,Nat.reduceEqDiff,Nat.reduceBEq,Nat.reduceAdd,Nat.reduceLeDiff,Nat.reduceMul,Nat.reduceLT,Int.reduceEq,Int.reduceLT,Int.reduceLE]
theorem c_isA (t : List Class) (cl : Bool) (a b : Int) (H : AHeap) (hv : validT t = true) (ha : a < t.length) : ACalls Tryz.prog 119 [aTree t cl, I a, I b] H fun r H' => r = B ((aboveF t a).any fun x => decide (b = x)) ∧ H' = H := by
 refine acalls_of0 Tryz.func119 rfl (by kernel_rfl) rfl rfl (awp_sound (fz := fun _ => []) (im := fun s => s == 3) mixed _ _ _ _ (by kernel_rfl) ?_)
 simp +contextual -dsimp -implicitDefEqProofs (maxSteps:=5000000) only [go_sem,reduceIte,reduceCtorEq,Nat.reduceEqDiff,Nat.reduceBEq,Nat.reduceAdd,Nat.reduceLeDiff,Nat.reduceMul,Nat.reduceLT,Int.reduceEq,Int.reduceLT,Int.reduceLE]
 refine (c_sabove _ _ _ _ hv ha).detV fun cl' => ?_
 simp +contextual -dsimp -implicitDefEqProofs (maxSteps:=5000000) only [go_sem,reduceIte,reduceCtorEq,Nat.reduceEqDiff,Nat.reduceBEq,Nat.reduceAdd,Nat.reduceLeDiff,Nat.reduceMul,Nat.reduceLT,Int.reduceEq,Int.reduceLT,Int.reduceLE]
 refine (c_hasInt _ _ _ _).det ?_
 simp +contextual -dsimp -implicitDefEqProofs (maxSteps:=5000000) only [go_sem,reduceIte,reduceCtorEq,Nat.reduceEqDiff,Nat.reduceBEq,Nat.reduceAdd,Nat.reduceLeDiff,Nat.reduceMul,Nat.reduceLT,Int.reduceEq,Int.reduceLT,Int.reduceLE]
end
section
open Go Go.Sim
set_option maxRecDepth 100000

def exitOk (t : List Class) (x : Exi) : Bool :=
 if x.kind = 0 then inR x.a 0 99 && decide (x.b = 0) else if x.kind = 1 then inR x.a 0 99 && decide (x.b = 0)
 else if x.kind = 2 then hasF t x.a && decide (x.b = 0) else if x.kind = 3 then hasF t x.a && inR x.b 0 99 else false
def validX (t : List Class) (l : List Exi) : Bool := validT t && decide (l.length ≤ 8) && l.all (exitOk t)
def startOk (t : List Class) (x : Sta) : Bool :=
 if x.has then hasF t x.cls && inR x.code 0 99 else decide (x.cls = 0) && decide (x.code = 0)

theorem c_exitValid (t : List Class) (cl : Bool) (x : Exi) (H : AHeap) : ACalls Tryz.prog 72 [.agg (rExit x), aTree t cl] H fun r H' => r = B (exitOk t x) ∧ H' = H := by
 refine acalls_of0 Tryz.func72 rfl (by kernel_rfl) rfl rfl (awp_sound (fz := fun _ => []) (im := fun s => s == 2 || s == 3) mixed _ _ _ _ (by kernel_rfl) ?_)
 by_cases h0 : x.kind = 0
 ·simp +contextual -dsimp -implicitDefEqProofs (maxSteps:=5000000) only [go_sem,reduceIte,reduceCtorEq,Nat.reduceEqDiff,Nat.reduceBEq,Nat.reduceAdd,Nat.reduceLeDiff,Nat.reduceMul,Nat.reduceLT,Int.reduceEq,Int.reduceLT,Int.reduceLE,h0]
  exact (c_codeOk _ _).det (by simp +contextual -dsimp -implicitDefEqProofs (maxSteps:=5000000) only [go_sem,reduceIte,reduceCtorEq,Nat.reduceEqDiff,Nat.reduceBEq,Nat.reduceAdd,Nat.reduceLeDiff,Nat.reduceMul,Nat.reduceLT,Int.reduceEq,Int.reduceLT,Int.reduceLE,exitOk,h0])
 by_cases h1 : x.kind = 1
 ·simp +contextual -dsimp -implicitDefEqProofs (maxSteps:=5000000) only [go_sem,reduceIte,reduceCtorEq,Nat.reduceEqDiff,Nat.reduceBEq,Nat.reduceAdd,Nat.reduceLeDiff,Nat.reduceMul,Nat.reduceLT,Int.reduceEq,Int.reduceLT,Int.reduceLE,h0,h1,Int.reduceEq]
  exact (c_codeOk _ _).det (by simp +contextual -dsimp -implicitDefEqProofs (maxSteps:=5000000) only [go_sem,reduceIte,reduceCtorEq,Nat.reduceEqDiff,Nat.reduceBEq,Nat.reduceAdd,Nat.reduceLeDiff,Nat.reduceMul,Nat.reduceLT,Int.reduceEq,Int.reduceLT,Int.reduceLE,exitOk,h1,Int.reduceEq])
 by_cases h2 : x.kind = 2
 ·simp +contextual -dsimp -implicitDefEqProofs (maxSteps:=5000000) only [go_sem,reduceIte,reduceCtorEq,Nat.reduceEqDiff,Nat.reduceBEq,Nat.reduceAdd,Nat.reduceLeDiff,Nat.reduceMul,Nat.reduceLT,Int.reduceEq,Int.reduceLT,Int.reduceLE,h0,h1,h2,Int.reduceEq]
  exact (c_has _ _ _ _).det (by simp +contextual -dsimp -implicitDefEqProofs (maxSteps:=5000000) only [go_sem,reduceIte,reduceCtorEq,Nat.reduceEqDiff,Nat.reduceBEq,Nat.reduceAdd,Nat.reduceLeDiff,Nat.reduceMul,Nat.reduceLT,Int.reduceEq,Int.reduceLT,Int.reduceLE,exitOk,h2,Int.reduceEq])
 by_cases h3 : x.kind = 3
 ·simp +contextual -dsimp -implicitDefEqProofs (maxSteps:=5000000) only [go_sem,reduceIte,reduceCtorEq,Nat.reduceEqDiff,Nat.reduceBEq,Nat.reduceAdd,Nat.reduceLeDiff,Nat.reduceMul,Nat.reduceLT,Int.reduceEq,Int.reduceLT,Int.reduceLE,h0,h1,h2,h3,Int.reduceEq]
  refine (c_has _ _ _ _).det ?_
  cases hh : hasF t x.a
  ·simp +contextual -dsimp -implicitDefEqProofs (maxSteps:=5000000) only [go_sem,reduceIte,reduceCtorEq,Nat.reduceEqDiff,Nat.reduceBEq,Nat.reduceAdd,Nat.reduceLeDiff,Nat.reduceMul,Nat.reduceLT,Int.reduceEq,Int.reduceLT,Int.reduceLE,exitOk,h3,Int.reduceEq,hh]
  ·simp +contextual -dsimp -implicitDefEqProofs (maxSteps:=5000000) only [go_sem,reduceIte,reduceCtorEq,Nat.reduceEqDiff,Nat.reduceBEq,Nat.reduceAdd,Nat.reduceLeDiff,Nat.reduceMul,Nat.reduceLT,Int.reduceEq,Int.reduceLT,Int.reduceLE,h3,Int.reduceEq]
   exact (c_codeOk _ _).det (by simp +contextual -dsimp -implicitDefEqProofs (maxSteps:=5000000) only [go_sem,reduceIte,reduceCtorEq,Nat.reduceEqDiff,Nat.reduceBEq,Nat.reduceAdd,Nat.reduceLeDiff,Nat.reduceMul,Nat.reduceLT,Int.reduceEq,Int.reduceLT,Int.reduceLE,exitOk,h3,Int.reduceEq,hh])
 ·simp +contextual -dsimp -implicitDefEqProofs (maxSteps:=5000000) only [go_sem,reduceIte,reduceCtorEq,Nat.reduceEqDiff,Nat.reduceBEq,Nat.reduceAdd,Nat.reduceLeDiff,Nat.reduceMul,Nat.reduceLT,Int.reduceEq,Int.reduceLT,Int.reduceLE,h0,h1,h2,h3]
  simp only [exitOk,h0,h1,h2,h3,if_false]
theorem c_validExitsF (t : List Class) (cl : Bool) (x : Exi) (H : AHeap) : ACalls Tryz.prog 71 [.agg (rExit x), .vptr [[.vsl (t.map rClass) cl]] 0 0] H fun r H' => r = B (!exitOk t x) ∧ H' = H := by
 refine acalls_of0 Tryz.func71 rfl (by kernel_rfl) rfl rfl (awp_sound (fz := fun _ => []) (im := fun s => s == 2) mixed _ _ _ _ (by kernel_rfl) ?_)
 simp +contextual -dsimp -implicitDefEqProofs (maxSteps:=5000000) only [go_sem,reduceIte,reduceCtorEq,Nat.reduceEqDiff,Nat.reduceBEq,Nat.reduceAdd,Nat.reduceLeDiff,Nat.reduceMul,Nat.reduceLT,Int.reduceEq,Int.reduceLT,Int.reduceLE]
 exact (c_exitValid _ _ _ _).det (by simp +contextual -dsimp -implicitDefEqProofs (maxSteps:=5000000) only [go_sem,reduceIte,reduceCtorEq,Nat.reduceEqDiff,Nat.reduceBEq,Nat.reduceAdd,Nat.reduceLeDiff,Nat.reduceMul,Nat.reduceLT,Int.reduceEq,Int.reduceLT,Int.reduceLE])
theorem c_IndexFuncExit (l : List Exi) (cl : Bool) (g : FuncId) (caps : List AV) (p : Exi → Bool) (H : AHeap)
  (hp : ∀ c, ACalls Tryz.prog g (.agg (rExit c) :: caps) H fun r H' => r = B (p c) ∧ H' = H) :
  ACalls Tryz.prog 120 [.vsl (l.map rExit) cl, .fn g [] caps] H fun r H' => r = I (idxF p l) ∧ H' = H := by
 refine acalls_len (by kernel_rfl) (List.mem_cons_self ..) fun hl => ?_
 rw [List.length_map] at hl
 refine acalls_of0 Tryz.func120 rfl (by kernel_rfl) rfl rfl (awp_sound (fz := fun _ => []) (im := fun _ => false) mixed _ _ _ _ (by kernel_rfl) ?_)
 simp +contextual -dsimp -implicitDefEqProofs (maxSteps:=5000000) only [go_sem,reduceIte,reduceCtorEq,Nat.reduceEqDiff,Nat.reduceBEq,Nat.reduceAdd,Nat.reduceLeDiff,Nat.reduceMul,Nat.reduceLT,Int.reduceEq,Int.reduceLT,Int.reduceLE]
 refine aloop mixed (fz := fun _ => []) (im := fun _ => false) (by kernel_rfl) (fun m tm H' => ∃ k : Nat, m = l.length - k ∧ k ≤ l.length ∧ H' = H ∧ tm 0 = .vsl (l.map rExit) cl ∧ tm 1 = .fn g [] caps ∧ tm 7 = I l.length ∧ tm 8 = I k ∧ (l.take k).any p = false) l.length ⟨0, ?_⟩ ?_
 ·simp +contextual -dsimp -implicitDefEqProofs (maxSteps:=5000000) only [go_sem,reduceIte,reduceCtorEq,Nat.reduceEqDiff,Nat.reduceBEq,Nat.reduceAdd,Nat.reduceLeDiff,Nat.reduceMul,Nat.reduceLT,Int.reduceEq,Int.reduceLT,Int.reduceLE]
  simp
 ·rintro m tm _ ⟨k, rfl, hk, rfl, h0, h1, h7, h8, hn⟩
  simp +contextual -dsimp -implicitDefEqProofs (maxSteps:=5000000) only [go_sem,reduceIte,reduceCtorEq,Nat.reduceEqDiff,Nat.reduceBEq,Nat.reduceAdd,Nat.reduceLeDiff,Nat.reduceMul,Nat.reduceLT,Int.reduceEq,Int.reduceLT,Int.reduceLE,h0,h1,h7,h8]
  refine ⟨fun h => (hp _).det ?_, fun h => ?_⟩
  ·simp +contextual -dsimp -implicitDefEqProofs (maxSteps:=5000000) only [go_sem,reduceIte,reduceCtorEq,Nat.reduceEqDiff,Nat.reduceBEq,Nat.reduceAdd,Nat.reduceLeDiff,Nat.reduceMul,Nat.reduceLT,Int.reduceEq,Int.reduceLT,Int.reduceLE,h0,h1,h7,h8]
   refine ⟨fun hb => ?_, fun hb => ⟨_, ?_, k + 1, rfl, h, I_wrap (by omega) (by omega) (by omega), any_take h hn hb⟩⟩
   ·rw [idxF_at h hn hb]
   ·omega
  ·rw [idxF_none (by omega) hn]
theorem c_ContainsFuncExit (l : List Exi) (cl : Bool) (g : FuncId) (caps : List AV) (p : Exi → Bool) (H : AHeap)
  (hp : ∀ c, ACalls Tryz.prog g (.agg (rExit c) :: caps) H fun r H' => r = B (p c) ∧ H' = H) :
  ACalls Tryz.prog 70 [.vsl (l.map rExit) cl, .fn g [] caps] H fun r H' => r = B (l.any p) ∧ H' = H := by
 refine acalls_of0 Tryz.func70 rfl (by kernel_rfl) rfl rfl (awp_sound (fz := fun _ => []) (im := fun _ => false) mixed _ _ _ _ (by kernel_rfl) ?_)
 simp +contextual -dsimp -implicitDefEqProofs (maxSteps:=5000000) only [go_sem,reduceIte,reduceCtorEq,Nat.reduceEqDiff,Nat.reduceBEq,Nat.reduceAdd,Nat.reduceLeDiff,Nat.reduceMul,Nat.reduceLT,Int.reduceEq,Int.reduceLT,Int.reduceLE]
 refine (c_IndexFuncExit l cl g caps p H hp).det ?_
 simp +contextual -dsimp -implicitDefEqProofs (maxSteps:=5000000) only [go_sem,reduceIte,reduceCtorEq,Nat.reduceEqDiff,Nat.reduceBEq,Nat.reduceAdd,Nat.reduceLeDiff,Nat.reduceMul,Nat.reduceLT,Int.reduceEq,Int.reduceLT,Int.reduceLE,idxF_nonneg]
theorem c_ValidExits (t : List Class) (cl : Bool) (l : List Exi) (cl' : Bool) (H : AHeap) (hn : namesOk t) : ACalls Tryz.prog 20 [aTree t cl, .vsl (l.map rExit) cl'] H fun r H' => r = B (validX t l) ∧ H' = H := by
 refine acalls_of0 Tryz.func20 rfl (by kernel_rfl) rfl rfl (awp_sound (fz := fun _ => []) (im := fun s => s == 2) mixed _ _ _ _ (by kernel_rfl) ?_)
 simp +contextual -dsimp -implicitDefEqProofs (maxSteps:=5000000) only [go_sem,reduceIte,reduceCtorEq,Nat.reduceEqDiff,Nat.reduceBEq,Nat.reduceAdd,Nat.reduceLeDiff,Nat.reduceMul,Nat.reduceLT,Int.reduceEq,Int.reduceLT,Int.reduceLE]
 refine (c_ValidTree _ _ _ hn).det ?_
 cases hv : validT t
 ·simp +contextual -dsimp -implicitDefEqProofs (maxSteps:=5000000) only [go_sem,reduceIte,reduceCtorEq,Nat.reduceEqDiff,Nat.reduceBEq,Nat.reduceAdd,Nat.reduceLeDiff,Nat.reduceMul,Nat.reduceLT,Int.reduceEq,Int.reduceLT,Int.reduceLE,validX,hv]
 ·by_cases h8 : l.length ≤ 8
  ·have h8' : (l.length : Int) ≤ 8 := by omega
   simp +contextual -dsimp -implicitDefEqProofs (maxSteps:=5000000) only [go_sem,reduceIte,reduceCtorEq,Nat.reduceEqDiff,Nat.reduceBEq,Nat.reduceAdd,Nat.reduceLeDiff,Nat.reduceMul,Nat.reduceLT,Int.reduceEq,Int.reduceLT,Int.reduceLE,h8']
   refine (c_ContainsFuncExit l _ _ _ _ _ fun c => c_validExitsF t cl c _).det ?_
   simp +contextual -dsimp -implicitDefEqProofs (maxSteps:=5000000) only [go_sem,reduceIte,reduceCtorEq,Nat.reduceEqDiff,Nat.reduceBEq,Nat.reduceAdd,Nat.reduceLeDiff,Nat.reduceMul,Nat.reduceLT,Int.reduceEq,Int.reduceLT,Int.reduceLE,validX,hv,h8]
   rw [List.any_eq_not_all_not]
   simp
  ·have h8' : ¬ (l.length : Int) ≤ 8 := by omega
   simp +contextual -dsimp -implicitDefEqProofs (maxSteps:=5000000) only [go_sem,reduceIte,reduceCtorEq,Nat.reduceEqDiff,Nat.reduceBEq,Nat.reduceAdd,Nat.reduceLeDiff,Nat.reduceMul,Nat.reduceLT,Int.reduceEq,Int.reduceLT,Int.reduceLE,validX,hv,h8,h8']
/-! ### Comparisons -/
theorem list_eq_of {α : Type} [DecidableEq α] [Inhabited α] {a b : List α} (h : a.length = b.length) {k : Nat} (hk : a.length ≤ k) (e : ∀ i, i < k → i < a.length → a.getD i default = b.getD i default) : a = b := by
 apply List.ext_getElem h
 intro i h1 h2
 have := e i (by omega) h1
 simpa [List.getD_eq_getElem?_getD, h1, h2] using this
theorem c_equalInts (a b : List Int) (ca cb : Bool) (H : AHeap) : ACalls Tryz.prog 17 [.vsl (a.map rI) ca, .vsl (b.map rI) cb] H fun r H' => r = B (decide (a = b)) ∧ H' = H := by
 refine acalls_len (by kernel_rfl) (List.mem_cons_self ..) fun hl => ?_
 rw [List.length_map] at hl
 refine acalls_of0 Tryz.func17 rfl (by kernel_rfl) rfl rfl (awp_sound (fz := fun _ => []) (im := fun _ => false) mixed _ _ _ _ (by kernel_rfl) ?_)
 by_cases hab : a.length = b.length
 ·simp +contextual -dsimp -implicitDefEqProofs (maxSteps:=5000000) only [go_sem,reduceIte,reduceCtorEq,Nat.reduceEqDiff,Nat.reduceBEq,Nat.reduceAdd,Nat.reduceLeDiff,Nat.reduceMul,Nat.reduceLT,Int.reduceEq,Int.reduceLT,Int.reduceLE,hab]
  refine aloop mixed (fz := fun _ => []) (im := fun _ => false) (by kernel_rfl) (fun m tm H' => ∃ k : Nat, m = a.length - k ∧ k ≤ a.length ∧ H' = H ∧ tm 0 = .vsl (a.map rI) ca ∧ tm 1 = .vsl (b.map rI) cb ∧ tm 5 = I k ∧ ∀ i, i < k → i < a.length → a.getD i default = b.getD i default) a.length ⟨0, ?_⟩ ?_
  ·simp +contextual -dsimp -implicitDefEqProofs (maxSteps:=5000000) only [go_sem,reduceIte,reduceCtorEq,Nat.reduceEqDiff,Nat.reduceBEq,Nat.reduceAdd,Nat.reduceLeDiff,Nat.reduceMul,Nat.reduceLT,Int.reduceEq,Int.reduceLT,Int.reduceLE]
   simp
  ·rintro m tm _ ⟨k, rfl, hk, rfl, h0, h1, h5, he⟩
   simp +contextual -dsimp -implicitDefEqProofs (maxSteps:=5000000) only [go_sem,reduceIte,reduceCtorEq,Nat.reduceEqDiff,Nat.reduceBEq,Nat.reduceAdd,Nat.reduceLeDiff,Nat.reduceMul,Nat.reduceLT,Int.reduceEq,Int.reduceLT,Int.reduceLE,h0,h1,h5]
   refine ⟨fun h => ?_, fun h => ?_⟩
   ·refine draw_intro [0, 0, 0, 0, 0, 0, 0, 0, 0] AHeap.none (by kernel_rfl) none_le ?_
    have h' : k < b.length := by omega
    simp +contextual -dsimp -implicitDefEqProofs (maxSteps:=5000000) only [go_sem,reduceIte,reduceCtorEq,Nat.reduceEqDiff,Nat.reduceBEq,Nat.reduceAdd,Nat.reduceLeDiff,Nat.reduceMul,Nat.reduceLT,Int.reduceEq,Int.reduceLT,Int.reduceLE,h0,h1,h5,h,h']
    refine ⟨fun hb => ?_, fun hb => ⟨_, ?_, k + 1, rfl, h, I_wrap (by omega) (by omega) (by omega), ?_⟩⟩
    ·rw [decide_eq_false (fun e => hb (by rw [e]))]
    ·omega
    ·intro i hi hi'
     rcases Nat.lt_or_ge i k with q | q
     ·exact he i q hi'
     ·have : i = k := by omega
      subst this; exact hb
   ·rw [decide_eq_true (list_eq_of hab (Nat.le_of_not_lt h) he)]
 ·have hab' : ¬ (a.length : Int) = b.length := by omega
  simp +contextual -dsimp -implicitDefEqProofs (maxSteps:=5000000) only [go_sem,reduceIte,reduceCtorEq,Nat.reduceEqDiff,Nat.reduceBEq,Nat.reduceAdd,Nat.reduceLeDiff,Nat.reduceMul,Nat.reduceLT,Int.reduceEq,Int.reduceLT,Int.reduceLE,hab']
  rw [decide_eq_false (fun e => hab (by rw [e]))]
theorem fault_eq (a b : Fault) : (decide (a.cls = b.cls) && (decide (a.code = b.code) && (decide (a.cause = b.cause) && (decide (a.ctx = b.ctx) && (a.hide == b.hide))))) = decide (a = b) := by
 cases a; cases b
 simp only [Fault.mk.injEq]
 rw [Bool.eq_iff_iff]
 simp
theorem c_equalHeap (a b : List Fault) (ca cb : Bool) (H : AHeap) : ACalls Tryz.prog 50 [.agg [.vsl (a.map rFault) ca], .agg [.vsl (b.map rFault) cb]] H fun r H' => r = B (decide (a = b)) ∧ H' = H := by
 refine acalls_len1 (by kernel_rfl) (List.mem_cons_self ..) fun hl => ?_
 rw [List.length_map] at hl
 refine acalls_of0 Tryz.func50 rfl (by kernel_rfl) rfl rfl (awp_sound (fz := fun _ => []) (im := fun s => s == 2 || s == 3) mixed _ _ _ _ (by kernel_rfl) ?_)
 by_cases hab : a.length = b.length
 ·simp +contextual -dsimp -implicitDefEqProofs (maxSteps:=5000000) only [go_sem,reduceIte,reduceCtorEq,Nat.reduceEqDiff,Nat.reduceBEq,Nat.reduceAdd,Nat.reduceLeDiff,Nat.reduceMul,Nat.reduceLT,Int.reduceEq,Int.reduceLT,Int.reduceLE,hab]
  refine aloop mixed (fz := fun _ => []) (im := fun s => s == 2 || s == 3) (by kernel_rfl) (fun m tm H' => ∃ k : Nat, m = a.length - k ∧ k ≤ a.length ∧ H' = H ∧ tm 2 = .vptr [[.vsl (a.map rFault) ca]] 0 0 ∧ tm 3 = .vptr [[.vsl (b.map rFault) cb]] 0 0 ∧ tm 5 = I k ∧ ∀ i, i < k → i < a.length → a.getD i default = b.getD i default) a.length ⟨0, ?_⟩ ?_
  ·simp +contextual -dsimp -implicitDefEqProofs (maxSteps:=5000000) only [go_sem,reduceIte,reduceCtorEq,Nat.reduceEqDiff,Nat.reduceBEq,Nat.reduceAdd,Nat.reduceLeDiff,Nat.reduceMul,Nat.reduceLT,Int.reduceEq,Int.reduceLT,Int.reduceLE]
   simp
  ·rintro m tm _ ⟨k, rfl, hk, rfl, h0, h1, h5, he⟩
   simp +contextual -dsimp -implicitDefEqProofs (maxSteps:=5000000) only [go_sem,reduceIte,reduceCtorEq,Nat.reduceEqDiff,Nat.reduceBEq,Nat.reduceAdd,Nat.reduceLeDiff,Nat.reduceMul,Nat.reduceLT,Int.reduceEq,Int.reduceLT,Int.reduceLE,h0,h1,h5]
   refine ⟨fun h => ?_, fun h => ?_⟩
   ·refine draw_intro [0, 0, 0, 0, 0, 0, 0, 0, 0, 0, 0] AHeap.none (by kernel_rfl) none_le ?_
    have h' : k < b.length := by omega
    simp +contextual -dsimp -implicitDefEqProofs (maxSteps:=5000000) only [go_sem,reduceIte,reduceCtorEq,Nat.reduceEqDiff,Nat.reduceBEq,Nat.reduceAdd,Nat.reduceLeDiff,Nat.reduceMul,Nat.reduceLT,Int.reduceEq,Int.reduceLT,Int.reduceLE,h0,h1,h5,h,h',fault_eq]
    refine ⟨fun hb => ?_, fun hb => ⟨_, ?_, k + 1, rfl, h, I_wrap (by omega) (by omega) (by omega), ?_⟩⟩
    ·rw [decide_eq_false (fun e => hb (by rw [e]))]
    ·omega
    ·intro i hi hi'
     rcases Nat.lt_or_ge i k with q | q
     ·exact he i q hi'
     ·have : i = k := by omega
      subst this; exact hb
   ·rw [decide_eq_true (list_eq_of hab (Nat.le_of_not_lt h) he)]
 ·have hab' : ¬ (a.length : Int) = b.length := by omega
  simp +contextual -dsimp -implicitDefEqProofs (maxSteps:=5000000) only [go_sem,reduceIte,reduceCtorEq,Nat.reduceEqDiff,Nat.reduceBEq,Nat.reduceAdd,Nat.reduceLeDiff,Nat.reduceMul,Nat.reduceLT,Int.reduceEq,Int.reduceLT,Int.reduceLE,hab']
  rw [decide_eq_false (fun e => hab (by rw [e]))]
abbrev aHeap (h : List Fault) (c : Bool) : AV := .agg [.vsl (h.map rFault) c]
end
section
open Go Go.Sim
set_option maxRecDepth 100000
def resEq (a b : Res) : Bool := decide (a.log = b.log) && (decide (a.ed = b.ed) && (decide (a.val = b.val) && decide (a.heap = b.heap)))
theorem c_equalResult (a b : Res) (c1 c2 c3 c4 : Bool) (H : AHeap) : ACalls Tryz.prog 11 [.agg [.vsl (a.log.map rI) c1, I a.ed, I a.val, .vsl (a.heap.map rFault) c2], .agg [.vsl (b.log.map rI) c3, I b.ed, I b.val, .vsl (b.heap.map rFault) c4]] H fun r H' => r = B (resEq a b) ∧ H' = H := by
 refine acalls_of0 Tryz.func11 rfl (by kernel_rfl) rfl rfl (awp_sound (fz := fun _ => []) (im := fun s => s == 2 || s == 3) mixed _ _ _ _ (by kernel_rfl) ?_)
 simp +contextual -dsimp -implicitDefEqProofs (maxSteps:=5000000) only [go_sem,reduceIte,reduceCtorEq,Nat.reduceEqDiff,Nat.reduceBEq,Nat.reduceAdd,Nat.reduceLeDiff,Nat.reduceMul,Nat.reduceLT,Int.reduceEq,Int.reduceLT,Int.reduceLE]
 refine (c_equalInts _ _ _ _ _).det ?_
 unfold resEq
 generalize decide (a.log = b.log) = b1
 cases b1
 ·simp +contextual -dsimp -implicitDefEqProofs (maxSteps:=5000000) only [go_sem,reduceIte,reduceCtorEq,Nat.reduceEqDiff,Nat.reduceBEq,Nat.reduceAdd,Nat.reduceLeDiff,Nat.reduceMul,Nat.reduceLT,Int.reduceEq,Int.reduceLT,Int.reduceLE]
 ·by_cases he : a.ed = b.ed
  ·by_cases hv : a.val = b.val
   ·simp +contextual -dsimp -implicitDefEqProofs (maxSteps:=5000000) only [go_sem,reduceIte,reduceCtorEq,Nat.reduceEqDiff,Nat.reduceBEq,Nat.reduceAdd,Nat.reduceLeDiff,Nat.reduceMul,Nat.reduceLT,Int.reduceEq,Int.reduceLT,Int.reduceLE,he,hv]
    refine (c_equalHeap _ _ _ _ _).det ?_
    simp +contextual -dsimp -implicitDefEqProofs (maxSteps:=5000000) only [go_sem,reduceIte,reduceCtorEq,Nat.reduceEqDiff,Nat.reduceBEq,Nat.reduceAdd,Nat.reduceLeDiff,Nat.reduceMul,Nat.reduceLT,Int.reduceEq,Int.reduceLT,Int.reduceLE,he,hv]
   ·simp +contextual -dsimp -implicitDefEqProofs (maxSteps:=5000000) only [go_sem,reduceIte,reduceCtorEq,Nat.reduceEqDiff,Nat.reduceBEq,Nat.reduceAdd,Nat.reduceLeDiff,Nat.reduceMul,Nat.reduceLT,Int.reduceEq,Int.reduceLT,Int.reduceLE,he,hv]
  ·simp +contextual -dsimp -implicitDefEqProofs (maxSteps:=5000000) only [go_sem,reduceIte,reduceCtorEq,Nat.reduceEqDiff,Nat.reduceBEq,Nat.reduceAdd,Nat.reduceLeDiff,Nat.reduceMul,Nat.reduceLT,Int.reduceEq,Int.reduceLT,Int.reduceLE,he]
end
section
open Go Go.Sim
set_option maxRecDepth 100000

theorem c_ClipV (l : List Int) (cl : Bool) (H : AHeap) : ACalls Tryz.prog 63 [.vsl (l.map rI) cl] H fun r H' => r = .vsl (l.map rI) true ∧ H' = H := by
 refine acalls_of0 Tryz.func63 rfl (by kernel_rfl) rfl rfl (awp_sound (fz := fun _ => []) (im := fun _ => false) mixed _ _ _ _ (by kernel_rfl) ?_)
 simp +contextual -dsimp -implicitDefEqProofs (maxSteps:=5000000) only [go_sem,reduceIte,reduceCtorEq,Nat.reduceEqDiff,Nat.reduceBEq,Nat.reduceAdd,Nat.reduceLeDiff,Nat.reduceMul,Nat.reduceLT,Int.reduceEq,Int.reduceLT,Int.reduceLE]
 simp
theorem c_ClipG (l : List Int) (x : AV) (H0 H : AHeap) (hg : Grow rI 1 3 H0 H x l) : ACalls Tryz.prog 63 [x] H fun r H' => Grow rI 1 3 H0 H' r l := by
 have hn := grow_len te29 hg
 obtain ⟨x', hx, hg'⟩ := grow_slice (ka := .i64) (kb := .i64) te29 ti3 rI_len hg
 refine acalls_of0 Tryz.func63 rfl (by kernel_rfl) rfl rfl (awp_sound (fz := fun _ => []) (im := fun _ => false) mixed _ _ _ _ (by kernel_rfl) ?_)
 simp +contextual -dsimp -implicitDefEqProofs (maxSteps:=5000000) only [go_sem,reduceIte,reduceCtorEq,Nat.reduceEqDiff,Nat.reduceBEq,Nat.reduceAdd,Nat.reduceLeDiff,Nat.reduceMul,Nat.reduceLT,Int.reduceEq,Int.reduceLT,Int.reduceLE,hn,hx]
 exact hg'

def freeN (n : Nat) (out : List Int) : Nat := (List.range n).countP fun (i : Nat) => !out.any fun x => decide ((i : Int) = x)
theorem freeN_lt {n : Nat} {out : List Int} {f : Int} (h0 : 0 ≤ f) (h1 : f < n) (h2 : (out.any fun x => decide (f = x)) = false) : freeN n (out ++ [f]) < freeN n out := by
 induction n with
 | zero => omega
 | succ n ih =>
  have e : ∀ o, freeN (n + 1) o = freeN n o + (if (!o.any fun x => decide ((n : Int) = x)) = true then 1 else 0) := by
   intro o
   simp only [freeN,List.range_succ,List.countP_append,List.countP_singleton]
  have le : freeN n (out ++ [f]) ≤ freeN n out := by
   apply List.countP_mono_left
   intro x _ hx
   simp only [List.any_append,Bool.not_eq_true',Bool.or_eq_false_iff] at hx ⊢
   exact hx.1
  rw [e, e]
  by_cases hf : f = n
  ·subst hf
   simp only [List.any_append,h2,List.any_cons,List.any_nil,decide_true]
   simp
   omega
  ·have := ih (by omega)
   have e2 : ((out ++ [f]).any fun x => decide ((n : Int) = x)) = (out.any fun x => decide ((n : Int) = x)) := by
    rw [List.any_append]
    have : decide ((n : Int) = f) = false := by simp; omega
    simp [this]
   rw [e2]
   omega
def walkG (nx : Int → Int) : Nat → List Int → Int → List Int
 | 0, out, _ => out
 | n + 1, out, f => if 0 ≤ f ∧ (out.any fun x => decide (f = x)) = false then walkG nx n (out ++ [f]) (nx f) else out
def walkF (nx : Int → Int) (n : Nat) (f : Int) : List Int := walkG nx (n + 1) [] f

theorem freeN_nil (n : Nat) : freeN n [] ≤ n := by
 unfold freeN
 exact Nat.le_trans List.countP_le_length (by simp)
theorem c_ContainsG (l : List Int) (x : AV) (n : Int) (H0 H : AHeap) (hg : Grow rI 1 3 H0 H x l) : ACalls Tryz.prog 169 [x, I n] H fun r H' => r = B (l.any fun x => decide (n = x)) ∧ H' = H := by
 obtain ⟨cl, hz⟩ := grow_froz hg
 exact acalls_borrow [.vsl (l.map rI) cl, I n] (.cons hz (.cons (.same _) .nil)) (c_Contains _ _ _ _) rfl ⟨rfl, rfl⟩
theorem c_walk (n : Nat) (hN : n ≤ 1000000) (nx : Int → Int) (g : FuncId) (caps : List AV) (f : Int) (H : AHeap) (hf : f < n) (hnx : ∀ a : Int, 0 ≤ a → a < n → nx a < n)
  (hp : ∀ (a : Int) H, 0 ≤ a → a < n → ACalls Tryz.prog g (I a :: caps) H fun r H' => r = I (nx a) ∧ H' = H) : ACalls Tryz.prog 181 [I f, .fn g [] caps] H fun r H' => Grow rI 1 3 H H' r (walkF nx n f) := by
 refine acalls_of0 Tryz.func181 rfl (by kernel_rfl) rfl rfl (awp_sound (fz := fun _ => []) (im := fun s => s == 6 || s == 20) mixed _ _ _ _ (by kernel_rfl) ?_)
 simp +contextual -dsimp -implicitDefEqProofs (maxSteps:=5000000) only [go_sem,reduceIte,reduceCtorEq,Nat.reduceEqDiff,Nat.reduceBEq,Nat.reduceAdd,Nat.reduceLeDiff,Nat.reduceMul,Nat.reduceLT,Int.reduceEq,Int.reduceLT,Int.reduceLE]
 refine aloop mixed (fz := fun _ => []) (im := fun s => s == 6 || s == 20) (by kernel_rfl) (fun m tm H' => ∃ (out : List Int) (c : Int), c < n ∧ freeN n out < m ∧ out.length + m ≤ n + 1 ∧ tm 0 = I c ∧ tm 1 = .fn g [] caps ∧ Grow rI 1 3 H H' (tm 5) out ∧ walkG nx m out c = walkF nx n f) (n + 1) ⟨[], f, hf, ?_, ?_, ?_⟩ ?_
 ·have := freeN_nil n; omega
 ·simp
 ·simp +contextual -dsimp -implicitDefEqProofs (maxSteps:=5000000) only [go_sem,reduceIte,reduceCtorEq,Nat.reduceEqDiff,Nat.reduceBEq,Nat.reduceAdd,Nat.reduceLeDiff,Nat.reduceMul,Nat.reduceLT,Int.reduceEq,Int.reduceLT,Int.reduceLE]
  exact ⟨grow_nil, rfl⟩
 ·rintro m tm H' ⟨out, c, hc, hfr, hlen, h0, h1, hg, he⟩
  simp +contextual -dsimp -implicitDefEqProofs (maxSteps:=5000000) only [go_sem,reduceIte,reduceCtorEq,Nat.reduceEqDiff,Nat.reduceBEq,Nat.reduceAdd,Nat.reduceLeDiff,Nat.reduceMul,Nat.reduceLT,Int.reduceEq,Int.reduceLT,Int.reduceLE,h0,h1]
  have hm : m = (m - 1) + 1 := by omega
  rw [hm, walkG] at he
  have stop : ¬ (0 ≤ c ∧ (out.any fun x => decide (c = x)) = false) → out = walkF nx n f := fun h => by rw [if_neg h] at he; exact he
  refine ⟨fun h => ?_, fun h => ?_⟩
  ·refine (c_ContainsG out _ c H H' hg).det ?_
   cases ha : out.any fun x => decide (c = x)
   ·rw [if_pos ⟨h, ha⟩] at he
    simp +contextual -dsimp -implicitDefEqProofs (maxSteps:=5000000) only [go_sem,reduceIte,reduceCtorEq,Nat.reduceEqDiff,Nat.reduceBEq,Nat.reduceAdd,Nat.reduceLeDiff,Nat.reduceMul,Nat.reduceLT,Int.reduceEq,Int.reduceLT,Int.reduceLE,h0,h1,h]
    refine grow_append (m := [c]) te29 ti3 rI_len (by decide) hg (by simp; omega) (by simp; omega) rfl fun x' H'' hg' => ?_
    simp +contextual -dsimp -implicitDefEqProofs (maxSteps:=5000000) only [go_sem,reduceIte,reduceCtorEq,Nat.reduceEqDiff,Nat.reduceBEq,Nat.reduceAdd,Nat.reduceLeDiff,Nat.reduceMul,Nat.reduceLT,Int.reduceEq,Int.reduceLT,Int.reduceLE,h0,h1,h]
    refine (hp c H'' h hc).det ?_
    simp +contextual -dsimp -implicitDefEqProofs (maxSteps:=5000000) only [go_sem,reduceIte,reduceCtorEq,Nat.reduceEqDiff,Nat.reduceBEq,Nat.reduceAdd,Nat.reduceLeDiff,Nat.reduceMul,Nat.reduceLT,Int.reduceEq,Int.reduceLT,Int.reduceLE,h0,h1,h]
    exact ⟨m - 1, by omega, out ++ [c], _, hnx c h hc, by have := freeN_lt h hc ha; omega, by simp; omega, rfl, hg', he⟩
   ·simp +contextual -dsimp -implicitDefEqProofs (maxSteps:=5000000) only [go_sem,reduceIte,reduceCtorEq,Nat.reduceEqDiff,Nat.reduceBEq,Nat.reduceAdd,Nat.reduceLeDiff,Nat.reduceMul,Nat.reduceLT,Int.reduceEq,Int.reduceLT,Int.reduceLE,h0,h1,h]
    refine (c_ClipG out _ H H' hg).mono fun r H'' hg' => ?_
    simp +contextual -dsimp -implicitDefEqProofs (maxSteps:=5000000) only [go_sem,reduceIte,reduceCtorEq,Nat.reduceEqDiff,Nat.reduceBEq,Nat.reduceAdd,Nat.reduceLeDiff,Nat.reduceMul,Nat.reduceLT,Int.reduceEq,Int.reduceLT,Int.reduceLE,h0,h1,h]
    rw [← stop (fun q => by rw [ha] at q; cases q.2)]
    exact hg'
  ·refine (c_ClipG out _ H H' hg).mono fun r H'' hg' => ?_
   simp +contextual -dsimp -implicitDefEqProofs (maxSteps:=5000000) only [go_sem,reduceIte,reduceCtorEq,Nat.reduceEqDiff,Nat.reduceBEq,Nat.reduceAdd,Nat.reduceLeDiff,Nat.reduceMul,Nat.reduceLT,Int.reduceEq,Int.reduceLT,Int.reduceLE,h0,h1,h]
   rw [← stop (fun q => h q.1)]
   exact hg'

def ctxOf (h : List Fault) (a : Int) : Int := (h.getD a.toNat default).ctx
theorem c_contexts1 (h : List Fault) (cl : Bool) (a : Int) (H : AHeap) (h0 : 0 ≤ a) (h1 : a < h.length) : ACalls Tryz.prog 182 [I a, .vptr [[.vsl (h.map rFault) cl]] 0 0] H fun r H' => r = I (ctxOf h a) ∧ H' = H := by
 refine acalls_of0 Tryz.func182 rfl (by kernel_rfl) rfl rfl (awp_sound (fz := fun _ => []) (im := fun _ => false) mixed _ _ _ _ (by kernel_rfl) ?_)
 have h2 : a.toNat < h.length := by omega
 simp +contextual -dsimp -implicitDefEqProofs (maxSteps:=5000000) only [go_sem,reduceIte,reduceCtorEq,Nat.reduceEqDiff,Nat.reduceBEq,Nat.reduceAdd,Nat.reduceLeDiff,Nat.reduceMul,Nat.reduceLT,Int.reduceEq,Int.reduceLT,Int.reduceLE,h0,h1,h2,ctxOf]
def chainF (h : List Fault) (f : Int) : List Int := walkF (ctxOf h) h.length f
theorem c_contexts (h : List Fault) (cl : Bool) (f : Int) (H : AHeap) (hl : h.length ≤ 1000000) (hf : f < h.length) (hc : ∀ k, k < h.length → (h.getD k default).ctx < h.length) :
  ACalls Tryz.prog 157 [.agg [.vsl (h.map rFault) cl], I f] H fun r H' => Grow rI 1 3 H H' r (chainF h f) := by
 refine acalls_of0 Tryz.func157 rfl (by kernel_rfl) rfl rfl (awp_sound (fz := fun _ => []) (im := fun s => s == 2) mixed _ _ _ _ (by kernel_rfl) ?_)
 simp +contextual -dsimp -implicitDefEqProofs (maxSteps:=5000000) only [go_sem,reduceIte,reduceCtorEq,Nat.reduceEqDiff,Nat.reduceBEq,Nat.reduceAdd,Nat.reduceLeDiff,Nat.reduceMul,Nat.reduceLT,Int.reduceEq,Int.reduceLT,Int.reduceLE]
 refine (c_walk h.length hl (ctxOf h) _ _ f H hf (fun a h0 h1 => hc a.toNat (by omega)) (fun a H h0 h1 => c_contexts1 h cl a H h0 h1)).mono fun r H' hg => ?_
 simp +contextual -dsimp -implicitDefEqProofs (maxSteps:=5000000) only [go_sem,reduceIte,reduceCtorEq,Nat.reduceEqDiff,Nat.reduceBEq,Nat.reduceAdd,Nat.reduceLeDiff,Nat.reduceMul,Nat.reduceLT,Int.reduceEq,Int.reduceLT,Int.reduceLE]
 exact hg
end
section
open Go Go.Sim
set_option maxRecDepth 100000

def Mach (F H : AHeap) (bm : Nat) (t p : AV) (log : List Int) (fs : List Fault) (first : Int) : Prop :=
 ∃ (xl xf : AV) (H1 H2 : AHeap), F bm = none ∧ Grow rI 1 3 F H1 xl log ∧ Grow rFault 5 103 H1 H2 xf fs ∧ H2 bm = none ∧ H = H2.set bm ⟨5, 129, [[t, p, xl, xf, I first]]⟩
theorem one_grow {α : Type} {f : α → List AV} {sz : Nat} {ty : TypeId} {H0 H : AHeap} {x : AV} {l : List α} (hg : Grow f sz ty H0 H x l) : x.row = [x] ∧ x.one = true := by
 rcases hg with ⟨rfl, rfl, rfl⟩ | ⟨b, cl, hb, rfl, rfl⟩ <;> exact ⟨rfl, rfl⟩
theorem c_heapRaise (F H : AHeap) (bm : Nat) (t p : AV) (log : List Int) (fs : List Fault) (first : Int) (cls code : Int) (hM : Mach F H bm t p log fs first) (hl : fs.length < 1000000) :
  ACalls Tryz.prog 166 [.ptr bm 5 0 3, I cls, I code] H fun r H' => r = I fs.length ∧ Mach F H' bm t p log (fs ++ [⟨cls, code, -1, -1, false⟩]) first := by
 obtain ⟨xl, xf, H1, H2, hF, hg1, hg2, hb, rfl⟩ := hM
 have hH1 : H1 bm = none := by
  cases h : H1 bm with
  | none => rfl
  | some k => rw [grow_le hg2 bm k h] at hb; cases hb
 refine acalls_of0 Tryz.func166 rfl (by kernel_rfl) rfl rfl (awp_sound (fz := fun _ => []) (im := fun s => s == 15) mixed _ _ _ _ (by kernel_rfl) ?_)
 simp +contextual -dsimp -implicitDefEqProofs (maxSteps:=5000000) only [go_sem,reduceIte,reduceCtorEq,Nat.reduceEqDiff,Nat.reduceBEq,Nat.reduceAdd,Nat.reduceLeDiff,Nat.reduceMul,Nat.reduceLT,Int.reduceEq,Int.reduceLT,Int.reduceLE]
 refine grow_append (m := [⟨cls, code, -1, -1, false⟩]) te30 ti103 rFault_len (by decide) (grow_in hg2 hb) (by simp; omega) (by simp; omega) rfl fun x' H' hg' => ?_
 obtain ⟨H2', hg'', rfl, hb'⟩ := grow_out hg' hH1
 obtain ⟨r1, r2⟩ := one_grow hg''
 have hn := grow_len te30 hg''
 simp +contextual -dsimp -implicitDefEqProofs (maxSteps:=5000000) only [go_sem,reduceIte,reduceCtorEq,Nat.reduceEqDiff,Nat.reduceBEq,Nat.reduceAdd,Nat.reduceLeDiff,Nat.reduceMul,Nat.reduceLT,Int.reduceEq,Int.reduceLT,Int.reduceLE,r1,r2,hn]
 exact ⟨I_wrap (by simp) (by omega) (by omega), xl, x', H1, H2', hF, hg1, hg'', hb', rfl⟩

def heapOk (h : List Fault) : Prop := ∀ k, k < h.length → (h.getD k default).cause = -1 ∧ -1 ≤ (h.getD k default).ctx ∧ (h.getD k default).ctx < k
theorem walkG_mem {nx : Int → Int} {p : Int → Prop} (hp : ∀ a, 0 ≤ a → p a → p (nx a)) : ∀ (n : Nat) (out : List Int) (f : Int), p f → ∀ a, a ∈ walkG nx n out f → a ∈ out ∨ (0 ≤ a ∧ p a)
 | 0, out, f, _, a, ha => .inl ha
 | n + 1, out, f, hf, a, ha => by
  simp only [walkG] at ha
  split at ha
  ·rename_i hc
   rcases walkG_mem hp n _ _ (hp f hc.1 hf) a ha with h | h
   ·simp only [List.mem_append,List.mem_singleton] at h
    rcases h with h | rfl
    ·exact .inl h
    ·exact .inr ⟨hc.1, hf⟩
   ·exact .inr h
  ·exact .inl ha
theorem chainF_mem {h : List Fault} (ho : heapOk h) {g : Int} (hg : g < h.length) {a : Int} (ha : a ∈ chainF h g) : 0 ≤ a ∧ a ≤ g := by
 have hp : ∀ a : Int, 0 ≤ a → a ≤ g → ctxOf h a ≤ g := by
  intro a h0 h1
  have := ho a.toNat (by omega)
  unfold ctxOf
  omega
 rcases walkG_mem hp _ [] g (Int.le_refl g) a ha with h | h
 ·cases h
 ·exact h
theorem chainF_ne {h : List Fault} {g : Int} (h0 : 0 ≤ g) : chainF h g ≠ [] := by
 unfold chainF walkF
 have key : ∀ (n : Nat) (out : List Int) (f : Int), out ≠ [] → walkG (ctxOf h) n out f ≠ [] := by
  intro n
  induction n with
  | zero => intro out f h; exact h
  | succ n ih =>
   intro out f h
   simp only [walkG]
   split
   ·exact ih _ _ (by simp)
   ·exact h
 simp only [walkG]
 rw [if_pos ⟨h0, by simp⟩]
 exact key _ _ _ (by simp)

theorem c_while (F H : AHeap) (bm : Nat) (t p : AV) (log : List Int) (fs : List Fault) (first : Int) (f g : Int) (hM : Mach F H bm t p log fs first) (hl : fs.length < 1000000) (ho : heapOk fs) (hf : f = fs.length - 1) (hg0 : 0 ≤ g) (hg : g < f) :
  ACalls Tryz.prog 167 [.ptr bm 5 0 3, I f, I g] H fun r H' => r = .tup [] ∧ Mach F H' bm t p log (fs.set f.toNat { fs.getD f.toNat default with ctx := g }) first := by
 obtain ⟨xl, xf, H1, H2, hF, hg1, hg2, hb, rfl⟩ := hM
 obtain ⟨cl0, hz⟩ := grow_froz (grow_in (c := bm) (K := ⟨5, 129, [[t, p, xl, xf, I first]]⟩) hg2 hb)
 refine acalls_of0 Tryz.func167 rfl (by kernel_rfl) rfl rfl (awp_sound (fz := fun _ => []) (im := fun _ => false) mixed _ _ _ _ (by kernel_rfl) ?_)
 have hfg : ¬ f = g := by omega
 simp +contextual -dsimp -implicitDefEqProofs (maxSteps:=5000000) only [go_sem,reduceIte,reduceCtorEq,Nat.reduceEqDiff,Nat.reduceBEq,Nat.reduceAdd,Nat.reduceLeDiff,Nat.reduceMul,Nat.reduceLT,Int.reduceEq,Int.reduceLT,Int.reduceLE,hfg]
 refine acalls_frz (acalls_borrowG [.agg [.vsl (fs.map rFault) cl0], I g] (.cons (.agg rfl ?_) (.cons (.same _) .nil)) (c_contexts fs cl0 g _ (by omega) (by omega) ?_) (fun x => rfl) (chainF_ne hg0) fun r H' h => h) fun cl => ?_
 ·intro i c c' h1 h2
  cases i with
  | zero => simp at h1 h2; subst h1; subst h2; exact hz
  | succ i => simp at h1
 ·intro k hk; have := ho k hk; omega
 ·simp +contextual -dsimp -implicitDefEqProofs (maxSteps:=5000000) only [go_sem,reduceIte,reduceCtorEq,Nat.reduceEqDiff,Nat.reduceBEq,Nat.reduceAdd,Nat.reduceLeDiff,Nat.reduceMul,Nat.reduceLT,Int.reduceEq,Int.reduceLT,Int.reduceLE]
  rcases hg2 with ⟨e, _, _⟩ | ⟨bf, clf, hbf, rfl, rfl⟩
  ·rw [e] at hf; simp at hf; omega
  have hb' := hb
  rw [set_none] at hb'
  obtain ⟨n1, n2, hH1⟩ := hb'
  have hbK : ((H1.set bf ⟨5, 103, fs.map rFault⟩).set bm ⟨5, 129, [[t, p, xl, .sl bf 5 0 fs.length clf, I first]]⟩) bf = some ⟨5, 103, fs.map rFault⟩ := by
   rw [set_other n2, AHeap.set_self]
  generalize hHH : (H1.set bf ⟨5, 103, fs.map rFault⟩).set bm ⟨5, 129, [[t, p, xl, .sl bf 5 0 fs.length clf, I first]]⟩ = HH at hbK ⊢
  have hld : ∀ (t : TypeId) (i j : Nat), ldA Tryz.prog HH t (.ptr bf 5 i j) = if i < fs.length then ldRow Tryz.prog t (rFault (fs.getD i default)) j else none := fun t i j => ldp hbK
  have hlm : ∀ (t' : TypeId) (j : Nat), ldA Tryz.prog HH t' (.ptr bm 5 0 j) = ldRow Tryz.prog t' [t, p, xl, .sl bf 5 0 fs.length clf, I first] j := fun t' j => by rw [← hHH]; exact ld1s
  have hmem := fun a => @chainF_mem fs ho g (by omega) a
  generalize chainF fs g = L at hmem ⊢
  refine sim_len (t := 15) rfl fun hlen => ?_
  rw [List.length_map] at hlen
  refine aloop mixed (fz := fun _ => []) (im := fun _ => false) (by kernel_rfl) (fun m tm H' => ∃ k : Nat, m = L.length - k ∧ k ≤ L.length ∧ H' = HH ∧ tm 0 = .ptr bm 5 0 3 ∧ tm 1 = I f ∧ tm 2 = I g ∧ tm 15 = .vsl (L.map rI) cl ∧ tm 16 = I L.length ∧ tm 17 = I k) L.length ⟨0, ?_⟩ ?_
  ·simp +contextual -dsimp -implicitDefEqProofs (maxSteps:=5000000) only [go_sem,reduceIte,reduceCtorEq,Nat.reduceEqDiff,Nat.reduceBEq,Nat.reduceAdd,Nat.reduceLeDiff,Nat.reduceMul,Nat.reduceLT,Int.reduceEq,Int.reduceLT,Int.reduceLE]
   simp
  ·rintro m tm _ ⟨k, rfl, hk, rfl, h0, h1, h2, h15, h16, h17⟩
   simp +contextual -dsimp -implicitDefEqProofs (maxSteps:=5000000) only [go_sem,reduceIte,reduceCtorEq,Nat.reduceEqDiff,Nat.reduceBEq,Nat.reduceAdd,Nat.reduceLeDiff,Nat.reduceMul,Nat.reduceLT,Int.reduceEq,Int.reduceLT,Int.reduceLE,h0,h1,h2,h15,h16,h17,hld,hlm]
   refine ⟨fun h => ?_, fun h => ⟨by omega, ?_⟩⟩
   ·have hx := hmem (L.getD k default) (by rw [List.getD_eq_getElem?_getD, List.getElem?_eq_getElem h]; exact List.getElem_mem h)
    have hc := ho (L.getD k default).toNat (by omega)
    exact ⟨by omega, by omega, fun q => by omega, fun _ => ⟨_, by omega, k + 1, rfl, h, I_wrap (by omega) (by omega) (by omega)⟩⟩
   ·rw [wrP hbK (y := { fs.getD f.toNat default with ctx := g }) (by omega) rfl]
    refine ⟨xl, .sl bf 5 0 fs.length clf, H1, H1.set bf ⟨5, 103, (fs.set f.toNat { fs.getD f.toNat default with ctx := g }).map rFault⟩, hF, hg1, .inr ⟨bf, clf, hbf, by rw [List.length_set], rfl⟩, ?_, ?_⟩
    ·rw [set_other n1]; exact hH1
    ·rw [← hHH, set_comm n1, set_set]

theorem heapOk_snoc {fs : List Fault} (h : heapOk fs) {x : Fault} (h1 : x.cause = -1) (h2 : -1 ≤ x.ctx) (h3 : x.ctx < fs.length) : heapOk (fs ++ [x]) := by
 intro k hk
 rcases Nat.lt_or_ge k fs.length with q | q
 ·have e : (fs ++ [x]).getD k default = fs.getD k default := by
   rw [List.getD_eq_getElem?_getD, List.getD_eq_getElem?_getD, List.getElem?_append_left q]
  rw [e]; exact h k q
 ·have : k = fs.length := by simp at hk; omega
  subst this
  have e : (fs ++ [x]).getD fs.length default = x := by simp [List.getD_eq_getElem?_getD]
  rw [e]; exact ⟨h1, h2, h3⟩
theorem heapOk_nil : heapOk [] := fun k hk => by simp at hk
def raiseF (fs : List Fault) (cls code g : Int) : List Fault := fs ++ [⟨cls, code, -1, if 0 ≤ g then g else -1, false⟩]
theorem raiseF_ok {fs : List Fault} (h : heapOk fs) {cls code g : Int} (hg : g < fs.length) : heapOk (raiseF fs cls code g) := by
 refine heapOk_snoc h rfl ?_ ?_ <;> (simp only; split <;> omega)
theorem raiseF_len {fs : List Fault} {cls code g : Int} : (raiseF fs cls code g).length = fs.length + 1 := by simp [raiseF]
theorem c_raise (F H : AHeap) (bm : Nat) (t p : AV) (log : List Int) (fs : List Fault) (first : Int) (cls code g : Int) (hM : Mach F H bm t p log fs first) (hl : fs.length < 999999) (ho : heapOk fs) (hg : g < fs.length) :
  ACalls Tryz.prog 121 [.ptr bm 5 0 0, I cls, I code, I g] H fun r H' => r = I fs.length ∧ Mach F H' bm t p log (raiseF fs cls code g) first := by
 refine acalls_of0 Tryz.func121 rfl (by kernel_rfl) rfl rfl (awp_sound (fz := fun _ => []) (im := fun _ => false) mixed _ _ _ _ (by kernel_rfl) ?_)
 simp +contextual -dsimp -implicitDefEqProofs (maxSteps:=5000000) only [go_sem,reduceIte,reduceCtorEq,Nat.reduceEqDiff,Nat.reduceBEq,Nat.reduceAdd,Nat.reduceLeDiff,Nat.reduceMul,Nat.reduceLT,Int.reduceEq,Int.reduceLT,Int.reduceLE]
 refine (c_heapRaise F H bm t p log fs first cls code hM (by omega)).mono ?_
 rintro _ H' ⟨rfl, hM'⟩
 by_cases h0 : 0 ≤ g
 ·simp +contextual -dsimp -implicitDefEqProofs (maxSteps:=5000000) only [go_sem,reduceIte,reduceCtorEq,Nat.reduceEqDiff,Nat.reduceBEq,Nat.reduceAdd,Nat.reduceLeDiff,Nat.reduceMul,Nat.reduceLT,Int.reduceEq,Int.reduceLT,Int.reduceLE,h0]
  refine (c_while F H' bm t p log _ first fs.length g hM' (by simp; omega) (heapOk_snoc ho rfl (by simp) (by simp; omega)) (by simp) h0 hg).mono ?_
  rintro _ H'' ⟨rfl, hM''⟩
  simp +contextual -dsimp -implicitDefEqProofs (maxSteps:=5000000) only [go_sem,reduceIte,reduceCtorEq,Nat.reduceEqDiff,Nat.reduceBEq,Nat.reduceAdd,Nat.reduceLeDiff,Nat.reduceMul,Nat.reduceLT,Int.reduceEq,Int.reduceLT,Int.reduceLE,h0]
  have e : (fs ++ [(⟨cls, code, -1, -1, false⟩ : Fault)]).set ((fs.length : Int)).toNat { (fs ++ [(⟨cls, code, -1, -1, false⟩ : Fault)]).getD ((fs.length : Int)).toNat default with ctx := g } = raiseF fs cls code g := by
   simp [raiseF, h0, List.getD_eq_getElem?_getD]
  rw [e] at hM''
  exact hM''
 ·simp +contextual -dsimp -implicitDefEqProofs (maxSteps:=5000000) only [go_sem,reduceIte,reduceCtorEq,Nat.reduceEqDiff,Nat.reduceBEq,Nat.reduceAdd,Nat.reduceLeDiff,Nat.reduceMul,Nat.reduceLT,Int.reduceEq,Int.reduceLT,Int.reduceLE,h0]
  have e : fs ++ [(⟨cls, code, -1, -1, false⟩ : Fault)] = raiseF fs cls code g := by simp [raiseF, h0]
  rw [← e]; exact hM'
end
section
open Go Go.Sim
set_option maxRecDepth 100000

theorem c_machineOf (t : List Class) (cl : Bool) (F : AHeap) (es : List (List AV)) (cl' : Bool) : ACalls Tryz.prog 47 [aTree t cl, .vsl es cl'] F fun r H' => ∃ bm, r = .ptr bm 5 0 0 ∧ Mach F H' bm (.vsl (t.map rClass) cl) (.vsl es cl') [] [] (-1) := by
 refine acalls_of0 Tryz.func47 rfl (by kernel_rfl) rfl rfl (awp_sound (fz := fun _ => []) (im := fun s => s == 2) mixed _ _ _ _ (by kernel_rfl) ?_)
 simp +contextual -dsimp -implicitDefEqProofs (maxSteps:=5000000) only [go_sem,reduceIte,reduceCtorEq,Nat.reduceEqDiff,Nat.reduceBEq,Nat.reduceAdd,Nat.reduceLeDiff,Nat.reduceMul,Nat.reduceLT,Int.reduceEq,Int.reduceLT,Int.reduceLE]
 intro b hb
 exact ⟨b, rfl, .vsl [] true, .vsl [] true, F, F, hb, grow_nil, grow_nil, hb, rfl⟩
end
section
open Go Go.Sim
set_option maxRecDepth 100000

theorem c_copyHeap (h : List Fault) (cl : Bool) (H : AHeap) (hl : h.length ≤ 1000000) : ACalls Tryz.prog 185 [aHeap h cl] H fun r H' => ∃ x, r = .agg [x] ∧ Grow rFault 5 103 H H' x h := by
 refine acalls_of1 Tryz.func185 rfl (by kernel_rfl) rfl rfl (awp_sound (fz := fun _ => []) (im := fun s => s == 1 || s == 3) mixed _ _ _ _ (by kernel_rfl) ?_)
 simp +contextual -dsimp -implicitDefEqProofs (maxSteps:=5000000) only [go_sem,reduceIte,reduceCtorEq,Nat.reduceEqDiff,Nat.reduceBEq,Nat.reduceAdd,Nat.reduceLeDiff,Nat.reduceMul,Nat.reduceLT,Int.reduceEq,Int.reduceLT,Int.reduceLE]
 intro b hb
 refine grow_append (l := []) (m := h) te30 ti103 rFault_len (by decide) (grow_nil (H := H.set b ⟨1, 32, [[.vsl [] true]]⟩)) (by simp; omega) (by simp; omega) rfl fun x' H' hg' => ?_
 obtain ⟨H2', hg'', rfl, hb'⟩ := grow_out hg' hb
 obtain ⟨r1, r2⟩ := one_grow hg''
 simp +contextual -dsimp -implicitDefEqProofs (maxSteps:=5000000) only [go_sem,reduceIte,reduceCtorEq,Nat.reduceEqDiff,Nat.reduceBEq,Nat.reduceAdd,Nat.reduceLeDiff,Nat.reduceMul,Nat.reduceLT,Int.reduceEq,Int.reduceLT,Int.reduceLE,r1,r2]
 refine retR_less (l := [.agg [x']]) (H' := H2') ?_ (le_set hb') ⟨x', rfl, by simpa using hg''⟩
 simp only [resA,upd_same,upd_other,ne_eq,Nat.reduceEqDiff,not_false_eq_true,updO_some,updO_none,ld1s,ldRow,go_sem,reduceIte,reduceCtorEq,Nat.reduceEqDiff,Nat.reduceBEq,Nat.reduceAdd,Nat.reduceLeDiff,Nat.reduceMul,Nat.reduceLT,Int.reduceEq,Int.reduceLT,Int.reduceLE]

theorem c_added0 (h : List Fault) (cl : Bool) (cls code : Int) (H : AHeap) (hl : h.length ≤ 999999) : ACalls Tryz.prog 162 [aHeap h cl, I cls, I code] H fun r H' => ∃ x, r = .agg [x] ∧ Grow rFault 5 103 H H' x (h ++ [⟨cls, code, -1, -1, false⟩]) := by
 refine acalls_of1 Tryz.func162 rfl (by kernel_rfl) rfl rfl (awp_sound (fz := fun _ => []) (im := fun s => s == 3 || s == 15) mixed _ _ _ _ (by kernel_rfl) ?_)
 simp +contextual -dsimp -implicitDefEqProofs (maxSteps:=5000000) only [go_sem,reduceIte,reduceCtorEq,Nat.reduceEqDiff,Nat.reduceBEq,Nat.reduceAdd,Nat.reduceLeDiff,Nat.reduceMul,Nat.reduceLT,Int.reduceEq,Int.reduceLT,Int.reduceLE]
 intro b6 hb6
 refine (c_copyHeap h cl _ (by omega)).mono ?_
 rintro _ H1 ⟨x, rfl, hg⟩
 obtain ⟨r1, r2⟩ := one_grow hg
 simp +contextual -dsimp -implicitDefEqProofs (maxSteps:=5000000) only [go_sem,reduceIte,reduceCtorEq,Nat.reduceEqDiff,Nat.reduceBEq,Nat.reduceAdd,Nat.reduceLeDiff,Nat.reduceMul,Nat.reduceLT,Int.reduceEq,Int.reduceLT,Int.reduceLE,r1,r2]
 intro b7 hb7
 refine grow_append (m := [⟨cls, code, -1, -1, false⟩]) te30 ti103 rFault_len (by decide) (grow_in hg hb7) (by simp; omega) (by simp; omega) rfl fun x' H' hg' => ?_
 have hb7' := grow_none hg hb7
 obtain ⟨H2, hg2, rfl, hn2⟩ := grow_out hg' hb7'
 obtain ⟨H3, hg3, rfl, hn3⟩ := grow_out hg2 hb6
 obtain ⟨r3, r4⟩ := one_grow hg3
 rw [set_none] at hb7' hn2
 obtain ⟨n1, n2, hH7⟩ := hb7'
 simp +contextual -dsimp -implicitDefEqProofs (maxSteps:=5000000) only [go_sem,reduceIte,reduceCtorEq,Nat.reduceEqDiff,Nat.reduceBEq,Nat.reduceAdd,Nat.reduceLeDiff,Nat.reduceMul,Nat.reduceLT,Int.reduceEq,Int.reduceLT,Int.reduceLE,r3,r4,n1,n2]
 refine retR_less (l := [.agg [x']]) (H' := H3) ?_ (fun c k hc => ?_) ⟨x', rfl, hg3⟩
 ·simp only [resA,go_sem,reduceIte,reduceCtorEq,Nat.reduceEqDiff,Nat.reduceBEq,Nat.reduceAdd,Nat.reduceLeDiff,Nat.reduceMul,Nat.reduceLT,Int.reduceEq,Int.reduceLT,Int.reduceLE,n1,n2]
 ·have c1 : c ≠ b6 := fun e => by rw [e, hn3] at hc; cases hc
  have c2 : c ≠ b7 := fun e => by rw [e, hn2.2.2] at hc; cases hc
  rw [set_other c2, set_other c1]; exact hc
theorem c_added (h : List Fault) (cl : Bool) (cls code : Int) (H : AHeap) (hl : h.length ≤ 999999) : ACalls Tryz.prog 162 [aHeap h cl, I cls, I code] H fun r H' => (∃ cl', r = aHeap (h ++ [⟨cls, code, -1, -1, false⟩]) cl') ∧ H' = H :=
 acalls_frzA (c_added0 h cl cls code H hl) fun cl' => ⟨⟨cl', rfl⟩, rfl⟩

def setCtx (fs : List Fault) (f g : Int) : List Fault := if 0 ≤ g then fs.set f.toNat { fs.getD f.toNat default with ctx := g } else fs
theorem c_raised0 (fs : List Fault) (cl : Bool) (f g : Int) (H : AHeap) (hl : fs.length ≤ 999999) (ho : heapOk fs) (hf : f = fs.length - 1) (hg : g < f) : ACalls Tryz.prog 163 [aHeap fs cl, I f, I g] H fun r H' => ∃ x, r = .agg [x] ∧ Grow rFault 5 103 H H' x (setCtx fs f g) := by
 refine acalls_of1 Tryz.func163 rfl (by kernel_rfl) rfl rfl (awp_sound (fz := fun _ => []) (im := fun s => s == 3) mixed _ _ _ _ (by kernel_rfl) ?_)
 simp +contextual -dsimp -implicitDefEqProofs (maxSteps:=5000000) only [go_sem,reduceIte,reduceCtorEq,Nat.reduceEqDiff,Nat.reduceBEq,Nat.reduceAdd,Nat.reduceLeDiff,Nat.reduceMul,Nat.reduceLT,Int.reduceEq,Int.reduceLT,Int.reduceLE]
 intro b6 hb6
 refine (c_copyHeap fs cl _ (by omega)).mono ?_
 rintro _ H1 ⟨x, rfl, hgr⟩
 obtain ⟨r1, r2⟩ := one_grow hgr
 have hfg : ¬ f = g := by omega
 have fin : ∀ (x : AV) (l : List Fault) (b7 : Nat) (H2 : AHeap) (k6 k7 : ABlk), Grow rFault 5 103 H H2 x l → H2 b6 = none → H2 b7 = none → AHeap.le H2 ((H2.set b6 k6).set b7 k7) := by
  intro x l b7 H2 k6 k7 _ h6 h7 c k hc
  have c1 : c ≠ b6 := fun e => by rw [e, h6] at hc; cases hc
  have c2 : c ≠ b7 := fun e => by rw [e, h7] at hc; cases hc
  rw [set_other c2, set_other c1]; exact hc
 obtain ⟨H2, hgr2, rfl, hn6⟩ := grow_out hgr hb6
 by_cases h0 : g < 0
 ·simp +contextual -dsimp -implicitDefEqProofs (maxSteps:=5000000) only [go_sem,reduceIte,reduceCtorEq,Nat.reduceEqDiff,Nat.reduceBEq,Nat.reduceAdd,Nat.reduceLeDiff,Nat.reduceMul,Nat.reduceLT,Int.reduceEq,Int.reduceLT,Int.reduceLE,r1,r2,hfg,h0]
  rintro b7 ⟨n1, n2, hn7⟩
  refine retR_less (l := [.agg [x]]) (H' := H2) ?_ (fin x _ b7 H2 _ _ hgr2 hn6 hn7) ⟨x, rfl, by rw [setCtx, if_neg (by omega)]; exact hgr2⟩
  simp only [resA,go_sem,reduceIte,reduceCtorEq,Nat.reduceEqDiff,Nat.reduceBEq,Nat.reduceAdd,Nat.reduceLeDiff,Nat.reduceMul,Nat.reduceLT,Int.reduceEq,Int.reduceLT,Int.reduceLE,n1,n2]
 ·simp +contextual -dsimp -implicitDefEqProofs (maxSteps:=5000000) only [go_sem,reduceIte,reduceCtorEq,Nat.reduceEqDiff,Nat.reduceBEq,Nat.reduceAdd,Nat.reduceLeDiff,Nat.reduceMul,Nat.reduceLT,Int.reduceEq,Int.reduceLT,Int.reduceLE,r1,r2,hfg,h0]
  rintro b7 ⟨n1, n2, hn7⟩
  rcases hgr2 with ⟨e, _, _⟩ | ⟨bx, clx, hbx, rfl, rfl⟩
  ·rw [e] at hf; simp at hf; omega
  have q6 := hn6
  have q7 := hn7
  rw [set_none] at q6 q7
  have hbK : (((H.set bx ⟨5, 103, fs.map rFault⟩).set b6 ⟨1, 32, [[.vsl [] true]]⟩).set b7 ⟨1, 32, [[.sl bx 5 0 fs.length clx]]⟩) bx = some ⟨5, 103, fs.map rFault⟩ := by
   rw [set_other q7.2.1, set_other q6.2.1, AHeap.set_self]
  generalize hHH : ((H.set bx ⟨5, 103, fs.map rFault⟩).set b6 ⟨1, 32, [[.vsl [] true]]⟩).set b7 ⟨1, 32, [[.sl bx 5 0 fs.length clx]]⟩ = HH at hbK ⊢
  have hld : ∀ (t : TypeId) (i j : Nat), ldA Tryz.prog HH t (.ptr bx 5 i j) = if i < fs.length then ldRow Tryz.prog t (rFault (fs.getD i default)) j else none := fun t i j => ldp hbK
  have hlm : ∀ (t' : TypeId) (j : Nat), ldA Tryz.prog HH t' (.ptr b7 1 0 j) = ldRow Tryz.prog t' [.sl bx 5 0 fs.length clx] j := fun t' j => by rw [← hHH]; exact ld1s
  refine aloop mixed (fz := fun _ => []) (im := fun s => s == 3) (by kernel_rfl) (fun m tm H' => ∃ c : Int, m = (c + 1).toNat ∧ 0 ≤ c ∧ c ≤ g ∧ H' = HH ∧ tm 1 = I f ∧ tm 2 = I g ∧ tm 6 = .ptr b6 1 0 0 ∧ tm 7 = .ptr b7 1 0 0 ∧ tm 8 = I c) (g + 1).toNat ⟨g, ?_⟩ ?_
  ·simp +contextual -dsimp -implicitDefEqProofs (maxSteps:=5000000) only [go_sem,reduceIte,reduceCtorEq,Nat.reduceEqDiff,Nat.reduceBEq,Nat.reduceAdd,Nat.reduceLeDiff,Nat.reduceMul,Nat.reduceLT,Int.reduceEq,Int.reduceLT,Int.reduceLE]
   omega
  ·rintro m tm H8 ⟨c, rfl, hc0, hcg, e8, h1, h2, h6, h7, h8⟩
   subst e8
   have hc := ho c.toNat (by omega)
   have hne : ¬ (fs.getD c.toNat default).ctx = f := by omega
   have i1 : c < fs.length := by omega
   have i2 : c.toNat < fs.length := by omega
   have i3 : 0 ≤ f := by omega
   have i4 : f < fs.length := by omega
   have hw : wrA H8 (.ptr bx 5 f.toNat 3) [.lit (.int .i64 g)] = some (((H.set bx ⟨5, 103, (setCtx fs f g).map rFault⟩).set b6 ⟨1, 32, [[.vsl [] true]]⟩).set b7 ⟨1, 32, [[.sl bx 5 0 fs.length clx]]⟩) := by
    rw [wrP hbK (y := { fs.getD f.toNat default with ctx := g }) (by omega) rfl, ← hHH, set_comm q7.1, set_comm q6.1, set_set, setCtx, if_pos (by omega)]
   simp +contextual -dsimp -implicitDefEqProofs (maxSteps:=5000000) only [go_sem,reduceIte,reduceCtorEq,Nat.reduceEqDiff,Nat.reduceBEq,Nat.reduceAdd,Nat.reduceLeDiff,Nat.reduceMul,Nat.reduceLT,Int.reduceEq,Int.reduceLT,Int.reduceLE,h1,h2,h6,h7,h8,hld,hlm,hne,i1,i2,i3,i4,hc0,hw,n1,n2]
   refine ⟨fun hp => ⟨_, ?_, _, rfl, hp, by omega, rfl⟩, fun hp => ?_⟩
   ·omega
   ·have e6 : (H.set bx ⟨5, 103, (setCtx fs f g).map rFault⟩) b6 = none := by rw [set_other q6.1]; exact q6.2.2
    have e7 : (H.set bx ⟨5, 103, (setCtx fs f g).map rFault⟩) b7 = none := by rw [set_other q7.1]; exact q7.2.2
    have hgr3 : Grow rFault 5 103 H (H.set bx ⟨5, 103, (setCtx fs f g).map rFault⟩) (.sl bx 5 0 fs.length clx) (setCtx fs f g) := .inr ⟨bx, clx, hbx, by rw [setCtx]; split <;> simp, rfl⟩
    refine retR_less (l := [.agg [.sl bx 5 0 fs.length clx]]) (H' := H.set bx ⟨5, 103, (setCtx fs f g).map rFault⟩) ?_ (fin _ _ b7 _ _ _ hgr3 e6 e7) ⟨_, rfl, hgr3⟩
    simp only [resA,go_sem,reduceIte,reduceCtorEq,Nat.reduceEqDiff,Nat.reduceBEq,Nat.reduceAdd,Nat.reduceLeDiff,Nat.reduceMul,Nat.reduceLT,Int.reduceEq,Int.reduceLT,Int.reduceLE,n1,n2,h6]
theorem c_raised (fs : List Fault) (cl : Bool) (f g : Int) (H : AHeap) (hl : fs.length ≤ 999999) (ho : heapOk fs) (hf : f = fs.length - 1) (hg : g < f) : ACalls Tryz.prog 163 [aHeap fs cl, I f, I g] H fun r H' => (∃ cl', r = aHeap (setCtx fs f g) cl') ∧ H' = H :=
 acalls_frzA (c_raised0 fs cl f g H hl ho hf hg) fun cl' => ⟨⟨cl', rfl⟩, rfl⟩
end
section
open Go Go.Sim
set_option maxRecDepth 100000

theorem setCtx_raise (h : List Fault) (cls code g : Int) : setCtx (h ++ [⟨cls, code, -1, -1, false⟩]) h.length g = raiseF h cls code g := by
 unfold setCtx raiseF
 split
 ·simp [List.getD_eq_getElem?_getD]
 ·rfl
end
section
open Go Go.Sim
set_option maxRecDepth 100000

theorem c_indexOf (l : List Int) (cl : Bool) (n : Int) (H : AHeap) : ACalls Tryz.prog 153 [.vsl (l.map rI) cl, I n] H fun r H' => r = I (idxF (fun x => decide (n = x)) l) ∧ H' = H := by
 refine acalls_len (by kernel_rfl) (List.mem_cons_self ..) fun hl => ?_
 rw [List.length_map] at hl
 refine acalls_of0 Tryz.func153 rfl (by kernel_rfl) rfl rfl (awp_sound (fz := fun _ => []) (im := fun _ => false) mixed _ _ _ _ (by kernel_rfl) ?_)
 simp +contextual -dsimp -implicitDefEqProofs (maxSteps:=5000000) only [go_sem,reduceIte,reduceCtorEq,Nat.reduceEqDiff,Nat.reduceBEq,Nat.reduceAdd,Nat.reduceLeDiff,Nat.reduceMul,Nat.reduceLT,Int.reduceEq,Int.reduceLT,Int.reduceLE]
 refine aloop mixed (fz := fun _ => []) (im := fun _ => false) (by kernel_rfl) (fun m tm H' => ∃ k : Nat, m = l.length - k ∧ k ≤ l.length ∧ H' = H ∧ tm 0 = .vsl (l.map rI) cl ∧ tm 1 = I n ∧ tm 5 = I k ∧ (l.take k).any (fun x => decide (n = x)) = false) l.length ⟨0, ?_⟩ ?_
 ·simp +contextual -dsimp -implicitDefEqProofs (maxSteps:=5000000) only [go_sem,reduceIte,reduceCtorEq,Nat.reduceEqDiff,Nat.reduceBEq,Nat.reduceAdd,Nat.reduceLeDiff,Nat.reduceMul,Nat.reduceLT,Int.reduceEq,Int.reduceLT,Int.reduceLE]
  simp
 ·rintro m tm _ ⟨k, rfl, hk, rfl, h0, h1, h5, hn⟩
  simp +contextual -dsimp -implicitDefEqProofs (maxSteps:=5000000) only [go_sem,reduceIte,reduceCtorEq,Nat.reduceEqDiff,Nat.reduceBEq,Nat.reduceAdd,Nat.reduceLeDiff,Nat.reduceMul,Nat.reduceLT,Int.reduceEq,Int.reduceLT,Int.reduceLE,h0,h1,h5]
  refine ⟨fun h => ⟨fun hb => ?_, fun hb => ⟨_, ?_, k + 1, rfl, h, I_wrap (by omega) (by omega) (by omega), any_take h hn (d := default) (by simpa [eq_comm] using hb)⟩⟩, fun h => ?_⟩
  ·rw [idxF_at h hn (d := default) (by simpa [eq_comm] using hb)]
  ·omega
  ·rw [idxF_none (by omega) hn]
theorem c_hasIntG (l : List Int) (x : AV) (n : Int) (H0 H : AHeap) (hg : Grow rI 1 3 H0 H x l) : ACalls Tryz.prog 164 [x, I n] H fun r H' => r = B (l.any fun x => decide (n = x)) ∧ H' = H := by
 obtain ⟨cl, hz⟩ := grow_froz hg
 exact acalls_borrow [.vsl (l.map rI) cl, I n] (.cons hz (.cons (.same _) .nil)) (c_hasInt _ _ _ _) rfl ⟨rfl, rfl⟩

def dchG (h : List Fault) : Nat → Int → List Int
 | 0, _ => []
 | n + 1, f => if 0 ≤ f then f :: dchG h n (ctxOf h f) else []
def dchF (h : List Fault) (f : Int) : List Int := dchG h (f + 1).toNat f
theorem dchG_neg {h : List Fault} {n : Nat} {f : Int} (hf : f < 0) : dchG h n f = [] := by
 cases n with
 | zero => rfl
 | succ n => simp only [dchG]; rw [if_neg (by omega)]
theorem dchG_eq {h : List Fault} (ho : heapOk h) : ∀ (n m : Nat) (f : Int), f < h.length → f < n → f < m → dchG h n f = dchG h m f
 | 0, m, f, _, h1, _ => by rw [dchG_neg (by omega), dchG_neg (by omega)]
 | n + 1, 0, f, _, _, h2 => by rw [dchG_neg (by omega), dchG_neg (by omega)]
 | n + 1, m + 1, f, h0, h1, h2 => by
  simp only [dchG]
  split
  ·have := ho f.toNat (by omega)
   unfold ctxOf
   rw [dchG_eq ho n m _ (by omega) (by omega) (by omega)]
  ·rfl
theorem dchF_step {h : List Fault} (ho : heapOk h) {f : Int} (h0 : 0 ≤ f) (h1 : f < h.length) : dchF h f = f :: dchF h (ctxOf h f) := by
 have := ho f.toNat (by omega)
 have e : (f + 1).toNat = f.toNat + 1 := by omega
 simp only [dchF,e,dchG]
 rw [if_pos h0]
 have : ctxOf h f < f := by unfold ctxOf; omega
 exact congrArg _ (dchG_eq ho _ _ _ (by omega) (by omega) (by omega))
theorem dchF_neg {h : List Fault} {f : Int} (hf : f < 0) : dchF h f = [] := dchG_neg hf

theorem c_reach (h : List Fault) (cl : Bool) (hl : h.length ≤ 999999) (ho : heapOk h) : ∀ (n : Nat) (f : Int) (F H : AHeap) (x : AV) (out : List Int), f < h.length → (f + 1).toNat ≤ n → (∀ a ∈ out, f < a) → out.length + (f + 1).toNat ≤ 1000001 → Grow rI 1 3 F H x out →
  ACalls Tryz.prog 152 [aHeap h cl, I f, x] H fun r H' => Grow rI 1 3 F H' r (out ++ dchF h f) := by
 intro n
 induction n with
 | zero =>
  intro f F H x out h1 h2 h3 h4 hg
  have h0 : f < 0 := by omega
  refine acalls_of0 Tryz.func152 rfl (by kernel_rfl) rfl rfl (awp_sound (fz := fun _ => []) (im := fun s => s == 3 || s == 17) mixed _ _ _ _ (by kernel_rfl) ?_)
  simp +contextual -dsimp -implicitDefEqProofs (maxSteps:=5000000) only [go_sem,reduceIte,reduceCtorEq,Nat.reduceEqDiff,Nat.reduceBEq,Nat.reduceAdd,Nat.reduceLeDiff,Nat.reduceMul,Nat.reduceLT,Int.reduceEq,Int.reduceLT,Int.reduceLE,h0]
  rw [dchF_neg h0, List.append_nil]; exact hg
 | succ n ih =>
  intro f F H x out h1 h2 h3 h4 hg
  by_cases h0 : f < 0
  ·refine acalls_of0 Tryz.func152 rfl (by kernel_rfl) rfl rfl (awp_sound (fz := fun _ => []) (im := fun s => s == 3 || s == 17) mixed _ _ _ _ (by kernel_rfl) ?_)
   simp +contextual -dsimp -implicitDefEqProofs (maxSteps:=5000000) only [go_sem,reduceIte,reduceCtorEq,Nat.reduceEqDiff,Nat.reduceBEq,Nat.reduceAdd,Nat.reduceLeDiff,Nat.reduceMul,Nat.reduceLT,Int.reduceEq,Int.reduceLT,Int.reduceLE,h0]
   rw [dchF_neg h0, List.append_nil]; exact hg
  ·have hany : (out.any fun x => decide (f = x)) = false := by
    rw [List.any_eq_false]
    intro a ha
    have := h3 a ha
    simp; omega
   have hc := ho f.toNat (by omega)
   have i1 : 0 ≤ f := by omega
   have i2 : f.toNat < h.length := by omega
   refine acalls_of0 Tryz.func152 rfl (by kernel_rfl) rfl rfl (awp_sound (fz := fun _ => []) (im := fun s => s == 3 || s == 17) mixed _ _ _ _ (by kernel_rfl) ?_)
   simp +contextual -dsimp -implicitDefEqProofs (maxSteps:=5000000) only [go_sem,reduceIte,reduceCtorEq,Nat.reduceEqDiff,Nat.reduceBEq,Nat.reduceAdd,Nat.reduceLeDiff,Nat.reduceMul,Nat.reduceLT,Int.reduceEq,Int.reduceLT,Int.reduceLE,h0]
   refine (c_hasIntG out x f F H hg).det ?_
   rw [hany]
   simp +contextual -dsimp -implicitDefEqProofs (maxSteps:=5000000) only [go_sem,reduceIte,reduceCtorEq,Nat.reduceEqDiff,Nat.reduceBEq,Nat.reduceAdd,Nat.reduceLeDiff,Nat.reduceMul,Nat.reduceLT,Int.reduceEq,Int.reduceLT,Int.reduceLE,h0]
   refine grow_append (m := [f]) te29 ti3 rI_len (by decide) hg (by simp; omega) (by simp; omega) rfl fun x' H' hg' => ?_
   simp +contextual -dsimp -implicitDefEqProofs (maxSteps:=5000000) only [go_sem,reduceIte,reduceCtorEq,Nat.reduceEqDiff,Nat.reduceBEq,Nat.reduceAdd,Nat.reduceLeDiff,Nat.reduceMul,Nat.reduceLT,Int.reduceEq,Int.reduceLT,Int.reduceLE,h0]
   refine draw_intro [0, 0, 0, 0, 0, 0, 0, 0, 2, 0] AHeap.none (by kernel_rfl) none_le ?_
   simp +contextual -dsimp -implicitDefEqProofs (maxSteps:=5000000) only [go_sem,reduceIte,reduceCtorEq,Nat.reduceEqDiff,Nat.reduceBEq,Nat.reduceAdd,Nat.reduceLeDiff,Nat.reduceMul,Nat.reduceLT,Int.reduceEq,Int.reduceLT,Int.reduceLE,h0,h1,i1,i2,hc.1]
   refine (ih (-1) F H' x' (out ++ [f]) (by omega) (by omega) ?_ (by simp; omega) hg').mono fun r H2 hg2 => ?_
   ·intro a ha; simp at ha; rcases ha with ha | rfl
    ·have := h3 a ha; omega
    ·omega
   rw [dchF_neg (by omega), List.append_nil] at hg2
   simp +contextual -dsimp -implicitDefEqProofs (maxSteps:=5000000) only [go_sem,reduceIte,reduceCtorEq,Nat.reduceEqDiff,Nat.reduceBEq,Nat.reduceAdd,Nat.reduceLeDiff,Nat.reduceMul,Nat.reduceLT,Int.reduceEq,Int.reduceLT,Int.reduceLE,h0]
   refine draw_intro [0, 0, 0, 0, 0, 0, 0, 0, 2, 0] AHeap.none (by kernel_rfl) none_le ?_
   simp +contextual -dsimp -implicitDefEqProofs (maxSteps:=5000000) only [go_sem,reduceIte,reduceCtorEq,Nat.reduceEqDiff,Nat.reduceBEq,Nat.reduceAdd,Nat.reduceLeDiff,Nat.reduceMul,Nat.reduceLT,Int.reduceEq,Int.reduceLT,Int.reduceLE,h0,h1,i1,i2]
   refine (ih (h.getD f.toNat default).ctx F H2 r (out ++ [f]) (by omega) (by omega) ?_ (by simp only [List.length_append,List.length_cons,List.length_nil]; omega) hg2).mono fun r' H3 hg3 => ?_
   ·intro a ha; simp at ha; rcases ha with ha | rfl
    ·have := h3 a ha; omega
    ·omega
   simp +contextual -dsimp -implicitDefEqProofs (maxSteps:=5000000) only [go_sem,reduceIte,reduceCtorEq,Nat.reduceEqDiff,Nat.reduceBEq,Nat.reduceAdd,Nat.reduceLeDiff,Nat.reduceMul,Nat.reduceLT,Int.reduceEq,Int.reduceLT,Int.reduceLE,h0]
   rw [dchF_step ho i1 h1]
   unfold ctxOf
   simpa using hg3
end
section
open Go Go.Sim
set_option maxRecDepth 100000

def insK (out : List Int) (v : Int) : Nat := (out.takeWhile fun x => decide (x < v)).length
def insF (out : List Int) (v : Int) : List Int := if insK out v = out.length ∨ out.getD (insK out v) default ≠ v then out.take (insK out v) ++ [v] ++ out.drop (insK out v) else out
def sortedF (l : List Int) : List Int := l.foldl insF []
theorem insK_at {out : List Int} {v : Int} : ∀ {j : Nat}, j ≤ out.length → (out.take j).all (fun x => decide (x < v)) = true → (j < out.length → ¬ out.getD j default < v) → insK out v = j := by
 induction out with
 | nil => intro j h _ _; simp at h; subst h; rfl
 | cons a out ih =>
  intro j h1 h2 h3
  cases j with
  | zero =>
   have := h3 (by simp)
   simp only [List.getD_cons_zero] at this
   simp [insK, this]
  | succ j =>
   simp only [List.take_succ_cons,List.all_cons,Bool.and_eq_true] at h2
   have := ih (j := j) (by simpa using h1) h2.2 (fun q => by have := h3 (by simpa using q); simpa using this)
   unfold insK at this ⊢
   simp only [List.takeWhile_cons,h2.1,if_true,List.length_cons,this]
theorem insF_len (out : List Int) (v : Int) : (insF out v).length ≤ out.length + 1 := by
 unfold insF
 split
 ·simp; omega
 ·omega
theorem c_sorted (l : List Int) (cl : Bool) (H : AHeap) (hl : l.length ≤ 1000000) : ACalls Tryz.prog 151 [.vsl (l.map rI) cl] H fun r H' => (∃ cl', r = .vsl ((sortedF l).map rI) cl') ∧ H' = H := by
 refine acalls_of0 Tryz.func151 rfl (by kernel_rfl) rfl rfl (awp_sound (fz := fun r => if r = 9 then [3] else []) (im := fun s => s == 6) mixed _ _ _ _ (by kernel_rfl) ?_)
 simp +contextual -dsimp -implicitDefEqProofs (maxSteps:=5000000) only [go_sem,reduceIte,reduceCtorEq,Nat.reduceEqDiff,Nat.reduceBEq,Nat.reduceAdd,Nat.reduceLeDiff,Nat.reduceMul,Nat.reduceLT,Int.reduceEq,Int.reduceLT,Int.reduceLE]
 refine aloop mixed (fz := fun r => if r = 9 then [3] else []) (im := fun s => s == 6) (by kernel_rfl) (fun m tm H' => ∃ (k : Nat) (out : List Int) (c : Bool), m = l.length - k ∧ k ≤ l.length ∧ H' = H ∧ out.length ≤ k ∧ tm 0 = .vsl (l.map rI) cl ∧ tm 3 = .vsl (out.map rI) c ∧ tm 4 = I k ∧ (l.take k).foldl insF [] = out) l.length ⟨0, [], true, ?_⟩ ?_
 ·simp +contextual -dsimp -implicitDefEqProofs (maxSteps:=5000000) only [go_sem,reduceIte,reduceCtorEq,Nat.reduceEqDiff,Nat.reduceBEq,Nat.reduceAdd,Nat.reduceLeDiff,Nat.reduceMul,Nat.reduceLT,Int.reduceEq,Int.reduceLT,Int.reduceLE]
  simp
 ·rintro m tm H8 ⟨k, out, c, rfl, hk, e8, hol, h0, h3, h4, he⟩
  simp +contextual -dsimp -implicitDefEqProofs (maxSteps:=5000000) only [go_sem,reduceIte,reduceCtorEq,Nat.reduceEqDiff,Nat.reduceBEq,Nat.reduceAdd,Nat.reduceLeDiff,Nat.reduceMul,Nat.reduceLT,Int.reduceEq,Int.reduceLT,Int.reduceLE,h0,h3,h4]
  refine ⟨fun h => ?_, fun h => ?_⟩
  ·refine aloop mixed (fz := fun r => if r = 9 then [3] else []) (im := fun s => s == 6) (by kernel_rfl) (fun m tm H' => ∃ j : Nat, m = out.length - j ∧ j ≤ out.length ∧ H' = H8 ∧ tm 0 = .vsl (l.map rI) cl ∧ tm 3 = .vsl (out.map rI) c ∧ tm 4 = I k ∧ tm 5 = I j ∧ (out.take j).all (fun x => decide (x < l.getD k default)) = true) out.length ⟨0, ?_⟩ ?_
   ·simp +contextual -dsimp -implicitDefEqProofs (maxSteps:=5000000) only [go_sem,reduceIte,reduceCtorEq,Nat.reduceEqDiff,Nat.reduceBEq,Nat.reduceAdd,Nat.reduceLeDiff,Nat.reduceMul,Nat.reduceLT,Int.reduceEq,Int.reduceLT,Int.reduceLE,h0,h3,h4]
    simp
   ·rintro m tm H9 ⟨j, rfl, hj, e9, h0, h3, h4, h5, ha⟩
    simp +contextual -dsimp -implicitDefEqProofs (maxSteps:=5000000) only [go_sem,reduceIte,reduceCtorEq,Nat.reduceEqDiff,Nat.reduceBEq,Nat.reduceAdd,Nat.reduceLeDiff,Nat.reduceMul,Nat.reduceLT,Int.reduceEq,Int.reduceLT,Int.reduceLE,h0,h3,h4,h5,h]
    refine draw_intro [0, 0, 0, 0, 0, 0, 0, 0, 0, 0, 0, 0, 0, 0, 0] AHeap.none (by kernel_rfl) none_le ?_
    simp +contextual -dsimp -implicitDefEqProofs (maxSteps:=5000000) only [go_sem,reduceIte,reduceCtorEq,Nat.reduceEqDiff,Nat.reduceBEq,Nat.reduceAdd,Nat.reduceLeDiff,Nat.reduceMul,Nat.reduceLT,Int.reduceEq,Int.reduceLT,Int.reduceLE,h0,h3,h4,h5,h]
    refine ⟨fun q => ⟨_, ?_, j + 1, rfl, q.1, e9, I_wrap (by omega) (by omega) (by omega), all_take q.1 ha (d := default) (by simpa using q.2)⟩, fun q => ?_⟩
    ·have := q.1; omega
    have hK : insK out (l.getD k default) = j := insK_at hj ha (fun q1 q2 => by simp [q1] at q; simp [List.getD_eq_getElem?_getD, q1] at q2; omega)
    have nxt : (l.take (k + 1)).foldl insF [] = insF out (l.getD k default) := by
     rw [List.take_succ_eq_append_getElem h, List.foldl_append, he]
     simp [List.getD_eq_getElem?_getD, h]
    have hlen := insF_len out (l.getD k default)
    have go : ∀ (x : List Int), insF out (l.getD k default) = x → ∃ m', m' < l.length - k ∧ ∃ k_1 : Nat, m' = l.length - k_1 ∧ k_1 ≤ l.length ∧ x.length ≤ k_1 ∧ AV.lit (Value.int IntKind.i64 (IntKind.i64.wrap (↑k + 1))) = I ↑k_1 ∧ (l.take k_1).foldl insF [] = x := fun x hx => ⟨_, by omega, k + 1, rfl, h, by rw [← hx]; omega, I_wrap (by omega) (by omega) (by omega), by rw [nxt, hx]⟩
    refine draw_intro [0, 0, 0, 0, 0, 0, 0, 0, 0, 0, 0, 0, 0, 0, 0] AHeap.none (by kernel_rfl) none_le ?_
    by_cases hjl : j = out.length
    ·simp +contextual -dsimp -implicitDefEqProofs (maxSteps:=5000000) only [go_sem,reduceIte,reduceCtorEq,Nat.reduceEqDiff,Nat.reduceBEq,Nat.reduceAdd,Nat.reduceLeDiff,Nat.reduceMul,Nat.reduceLT,Int.reduceEq,Int.reduceLT,Int.reduceLE,h0,h3,h4,h5,h,hjl]
     refine draw_intro [0, 0, 0, 0, 3, 0, 0, 0, 1, 0, 2, 0, 0, 0, 2, 0] AHeap.none (by kernel_rfl) none_le ?_
     simp +contextual -dsimp -implicitDefEqProofs (maxSteps:=5000000) only [go_sem,reduceIte,reduceCtorEq,Nat.reduceEqDiff,Nat.reduceBEq,Nat.reduceAdd,Nat.reduceLeDiff,Nat.reduceMul,Nat.reduceLT,Int.reduceEq,Int.reduceLT,Int.reduceLE,h0,h3,h4,h5,h,hjl]
     refine ⟨by omega, grow_append (m := out.take out.length) te29 ti3 rI_len (by decide) grow_nil (by simp; omega) (by simp; omega) rfl fun x1 H1 g1 => ⟨none_le, ?_⟩⟩
     simp +contextual -dsimp -implicitDefEqProofs (maxSteps:=5000000) only [go_sem,reduceIte,reduceCtorEq,Nat.reduceEqDiff,Nat.reduceBEq,Nat.reduceAdd,Nat.reduceLeDiff,Nat.reduceMul,Nat.reduceLT,Int.reduceEq,Int.reduceLT,Int.reduceLE,h0,h3,h4,h5,h,hjl]
     refine grow_append (m := [l.getD k default]) te29 ti3 rI_len (by decide) g1 (by simp; omega) (by simp; omega) rfl fun x2 H2 g2 => ?_
     simp +contextual -dsimp -implicitDefEqProofs (maxSteps:=5000000) only [go_sem,reduceIte,reduceCtorEq,Nat.reduceEqDiff,Nat.reduceBEq,Nat.reduceAdd,Nat.reduceLeDiff,Nat.reduceMul,Nat.reduceLT,Int.reduceEq,Int.reduceLT,Int.reduceLE,h0,h3,h4,h5,h,hjl]
     refine ⟨by omega, grow_append (m := out.drop out.length) te29 ti3 rI_len (by decide) g2 (by simp; omega) (by simp; omega) rfl fun x3 H3 g3 => ?_⟩
     rcases g3 with ⟨e, _, _⟩ | ⟨b3, cl3, hb3, rfl, rfl⟩
     ·simp at e
     simp +contextual -dsimp -implicitDefEqProofs (maxSteps:=5000000) only [go_sem,reduceIte,reduceCtorEq,Nat.reduceEqDiff,Nat.reduceBEq,Nat.reduceAdd,Nat.reduceLeDiff,Nat.reduceMul,Nat.reduceLT,Int.reduceEq,Int.reduceLT,Int.reduceLE,h0,h3,h4,h5,h,hb3,hjl]
     have hX : insF out (l.getD k default) = out.take out.length ++ [l.getD k default] ++ out.drop out.length := by
      unfold insF
      rw [hK, if_pos (.inl hjl), hjl]
     obtain ⟨m', q1, k1, q2, q3, q4, q5, q6⟩ := go _ hX
     refine ⟨Nat.le_refl _, m', q1, k1, _, cl3, q2, q3, e9.trans e8, q4, ?_, q5, q6⟩
     rw [List.take_of_length_le (by rw [List.length_map]; exact Nat.le_refl _)]
    ·have hjl' : ¬ (j : Int) = out.length := by omega
     have hjlt : j < out.length := by omega
     simp +contextual -dsimp -implicitDefEqProofs (maxSteps:=5000000) only [go_sem,reduceIte,reduceCtorEq,Nat.reduceEqDiff,Nat.reduceBEq,Nat.reduceAdd,Nat.reduceLeDiff,Nat.reduceMul,Nat.reduceLT,Int.reduceEq,Int.reduceLT,Int.reduceLE,h0,h3,h4,h5,h,hjl',hjlt]
     refine ⟨fun hq => ?_, fun hq => ?_⟩
     ·refine draw_intro [0, 0, 0, 0, 3, 0, 0, 0, 1, 0, 2, 0, 0, 0, 2, 0] AHeap.none (by kernel_rfl) none_le ?_
      simp +contextual -dsimp -implicitDefEqProofs (maxSteps:=5000000) only [go_sem,reduceIte,reduceCtorEq,Nat.reduceEqDiff,Nat.reduceBEq,Nat.reduceAdd,Nat.reduceLeDiff,Nat.reduceMul,Nat.reduceLT,Int.reduceEq,Int.reduceLT,Int.reduceLE,h0,h3,h4,h5,h,hjl',hjlt]
      refine ⟨by omega, grow_append (m := out.take j) te29 ti3 rI_len (by decide) grow_nil (by simp; omega) (by simp; omega) rfl fun x1 H1 g1 => ⟨none_le, ?_⟩⟩
      simp +contextual -dsimp -implicitDefEqProofs (maxSteps:=5000000) only [go_sem,reduceIte,reduceCtorEq,Nat.reduceEqDiff,Nat.reduceBEq,Nat.reduceAdd,Nat.reduceLeDiff,Nat.reduceMul,Nat.reduceLT,Int.reduceEq,Int.reduceLT,Int.reduceLE,h0,h3,h4,h5,h,hjl',hjlt]
      refine grow_append (m := [l.getD k default]) te29 ti3 rI_len (by decide) g1 (by simp; omega) (by simp; omega) rfl fun x2 H2 g2 => ?_
      simp +contextual -dsimp -implicitDefEqProofs (maxSteps:=5000000) only [go_sem,reduceIte,reduceCtorEq,Nat.reduceEqDiff,Nat.reduceBEq,Nat.reduceAdd,Nat.reduceLeDiff,Nat.reduceMul,Nat.reduceLT,Int.reduceEq,Int.reduceLT,Int.reduceLE,h0,h3,h4,h5,h,hjl',hjlt]
      refine ⟨by omega, grow_append (m := out.drop j) te29 ti3 rI_len (by decide) g2 (by simp; omega) (by simp; omega) rfl fun x3 H3 g3 => ?_⟩
      rcases g3 with ⟨e, _, _⟩ | ⟨b3, cl3, hb3, rfl, rfl⟩
      ·simp at e
      simp +contextual -dsimp -implicitDefEqProofs (maxSteps:=5000000) only [go_sem,reduceIte,reduceCtorEq,Nat.reduceEqDiff,Nat.reduceBEq,Nat.reduceAdd,Nat.reduceLeDiff,Nat.reduceMul,Nat.reduceLT,Int.reduceEq,Int.reduceLT,Int.reduceLE,h0,h3,h4,h5,h,hb3,hjl',hjlt]
      have hX : insF out (l.getD k default) = out.take j ++ [l.getD k default] ++ out.drop j := by
       unfold insF
       rw [hK, if_pos (.inr hq)]
      obtain ⟨m', q1, k1, q2, q3, q4, q5, q6⟩ := go _ hX
      refine ⟨Nat.le_refl _, m', q1, k1, _, cl3, q2, q3, e9.trans e8, q4, ?_, q5, q6⟩
      rw [List.take_of_length_le (by rw [List.length_map]; exact Nat.le_refl _)]
     ·obtain ⟨m', q1, k1, q2, q3, q4, q5, q6⟩ := go out (by unfold insF; rw [hK, if_neg (fun q => q.elim hjl (fun q => q hq))])
      exact ⟨m', q1, k1, out, c, q2, q3, e9.trans e8, q4, rfl, q5, q6⟩
  ·subst e8
   rw [List.take_of_length_le (by omega)] at he
   exact ⟨⟨c, by rw [sortedF, he]⟩, rfl⟩
end
section
open Go Go.Sim
set_option maxRecDepth 100000

def isoAt (h : List Fault) (list : List Int) (g : Int) : Fault :=
 { h.getD g.toNat default with cause := idxF (fun x => decide ((h.getD g.toNat default).cause = x)) list, ctx := idxF (fun x => decide ((h.getD g.toNat default).ctx = x)) list }
def isoL (h : List Fault) (list : List Int) : List Fault := list.map (isoAt h list)
theorem c_isolated0 (h : List Fault) (cl : Bool) (f : Int) (H : AHeap) (hl : h.length ≤ 999999) (ho : heapOk h) (hf : f < h.length) (hm : ∀ a ∈ sortedF (dchF h f), 0 ≤ a ∧ a < h.length) (hll : (dchF h f).length ≤ 1000000 ∧ (sortedF (dchF h f)).length ≤ 1000000) :
  ACalls Tryz.prog 101 [aHeap h cl, I f] H fun r H' => ∃ x, r = .tup [.agg [x], I (idxF (fun x => decide (f = x)) (sortedF (dchF h f)))] ∧ Grow rFault 5 103 H H' x (isoL h (sortedF (dchF h f))) := by
 refine acalls_of1 Tryz.func101 rfl (by kernel_rfl) rfl rfl (awp_sound (fz := fun r => if r = 9 then [9] else []) (im := fun s => s == 2 || s == 12 || s == 15 || s == 44) mixed _ _ _ _ (by kernel_rfl) ?_)
 simp +contextual -dsimp -implicitDefEqProofs (maxSteps:=5000000) only [go_sem,reduceIte,reduceCtorEq,Nat.reduceEqDiff,Nat.reduceBEq,Nat.reduceAdd,Nat.reduceLeDiff,Nat.reduceMul,Nat.reduceLT,Int.reduceEq,Int.reduceLT,Int.reduceLE]
 intro b4 hb4
 refine acalls_frz (c_reach h cl hl ho _ f _ _ _ [] hf (Nat.le_refl _) (by simp) (by simp; omega) grow_nil) fun cl1 => ?_
 simp +contextual -dsimp -implicitDefEqProofs (maxSteps:=5000000) only [go_sem,reduceIte,reduceCtorEq,Nat.reduceEqDiff,Nat.reduceBEq,Nat.reduceAdd,Nat.reduceLeDiff,Nat.reduceMul,Nat.reduceLT,Int.reduceEq,Int.reduceLT,Int.reduceLE]
 refine (c_sorted (dchF h f) cl1 _ hll.1).detV fun cl2 => ?_
 generalize sortedF (dchF h f) = L at hm hll ⊢
 simp +contextual -dsimp -implicitDefEqProofs (maxSteps:=5000000) only [go_sem,reduceIte,reduceCtorEq,Nat.reduceEqDiff,Nat.reduceBEq,Nat.reduceAdd,Nat.reduceLeDiff,Nat.reduceMul,Nat.reduceLT,Int.reduceEq,Int.reduceLT,Int.reduceLE]
 rintro b7 ⟨n1, n2, hb7⟩
 refine aloop mixed (fz := fun r => if r = 9 then [9] else []) (im := fun s => s == 2 || s == 12 || s == 15 || s == 44) (by kernel_rfl) (fun m tm H' => ∃ (k : Nat) (H2 : AHeap) (x : AV), m = L.length - k ∧ k ≤ L.length ∧ Grow rFault 5 103 H H2 x ((L.take k).map (isoAt h L)) ∧ H2 b4 = none ∧ H2 b7 = none ∧ H' = (H2.set b4 ⟨1, 32, [[.vsl [] true]]⟩).set b7 ⟨1, 32, [[x]]⟩ ∧
  tm 1 = I f ∧ tm 2 = .vptr [[.vsl (h.map rFault) cl]] 0 0 ∧ tm 4 = .ptr b4 1 0 0 ∧ tm 6 = .vsl (L.map rI) cl2 ∧ tm 7 = .ptr b7 1 0 0 ∧ tm 8 = I k) L.length ⟨0, H, .vsl [] true, ?_⟩ ?_
 ·simp +contextual -dsimp -implicitDefEqProofs (maxSteps:=5000000) only [go_sem,reduceIte,reduceCtorEq,Nat.reduceEqDiff,Nat.reduceBEq,Nat.reduceAdd,Nat.reduceLeDiff,Nat.reduceMul,Nat.reduceLT,Int.reduceEq,Int.reduceLT,Int.reduceLE]
  exact ⟨rfl, grow_nil, hb4, hb7⟩
 ·rintro m tm H' ⟨k, H2, x, rfl, hk, hg, e4, e7, rfl, h1, h2, h4, h6, h7, h8⟩
  obtain ⟨r1, r2⟩ := one_grow hg
  simp +contextual -dsimp -implicitDefEqProofs (maxSteps:=5000000) only [go_sem,reduceIte,reduceCtorEq,Nat.reduceEqDiff,Nat.reduceBEq,Nat.reduceAdd,Nat.reduceLeDiff,Nat.reduceMul,Nat.reduceLT,Int.reduceEq,Int.reduceLT,Int.reduceLE,h1,h2,h4,h6,h7,h8,r1,r2,n1,n2]
  refine ⟨fun h0 => ?_, fun h0 => ?_⟩
  ·refine draw_intro [0, 1, 0, 0, 0, 1, 0, 1, 3, 2] AHeap.none (by kernel_rfl) none_le ?_
   have hx := hm (L.getD k default) (by rw [List.getD_eq_getElem?_getD, List.getElem?_eq_getElem h0]; exact List.getElem_mem h0)
   have i1 : (L.getD k default).toNat < h.length := by omega
   simp +contextual -dsimp -implicitDefEqProofs (maxSteps:=5000000) only [go_sem,reduceIte,reduceCtorEq,Nat.reduceEqDiff,Nat.reduceBEq,Nat.reduceAdd,Nat.reduceLeDiff,Nat.reduceMul,Nat.reduceLT,Int.reduceEq,Int.reduceLT,Int.reduceLE,h1,h2,h4,h6,h7,h8,r1,r2,n1,n2,h0,hx,i1]
   rintro b9 ⟨m1, m2, m3, m4, hb9⟩
   refine (c_indexOf _ _ _ _).det ?_
   simp +contextual -dsimp -implicitDefEqProofs (maxSteps:=5000000) only [go_sem,reduceIte,reduceCtorEq,Nat.reduceEqDiff,Nat.reduceBEq,Nat.reduceAdd,Nat.reduceLeDiff,Nat.reduceMul,Nat.reduceLT,Int.reduceEq,Int.reduceLT,Int.reduceLE,h1,h2,h4,h6,h7,h8,r1,r2,n1,n2,h0,hx,i1,m1,m2,m3,m4]
   refine (c_indexOf _ _ _ _).det ?_
   simp +contextual -dsimp -implicitDefEqProofs (maxSteps:=5000000) only [go_sem,reduceIte,reduceCtorEq,Nat.reduceEqDiff,Nat.reduceBEq,Nat.reduceAdd,Nat.reduceLeDiff,Nat.reduceMul,Nat.reduceLT,Int.reduceEq,Int.reduceLT,Int.reduceLE,h1,h2,h4,h6,h7,h8,r1,r2,n1,n2,h0,hx,i1,m1,m2,m3,m4]
   have e9 : ((H2.set b4 ⟨1, 32, [[.vsl [] true]]⟩).set b7 ⟨1, 32, [[x]]⟩) b9 = none := by rw [set_other m1, set_other m3]; exact hb9
   have e74 : (H2.set b4 ⟨1, 32, [[.vsl [] true]]⟩) b7 = none := by rw [set_other n1]; exact e7
   have hlen : ((L.take k).map (isoAt h L)).length ≤ 1000000 := by simp; omega
   refine grow_append (m := [isoAt h L (L.getD k default)]) te30 ti103 rFault_len (by decide) (grow_in (grow_in (grow_in hg e4) e74) e9) (by simp only [List.length_cons,List.length_nil]; omega) (by simp only [List.length_cons,List.length_nil]; omega) rfl fun x' H' hg' => ?_
   have f4 := grow_none hg e4
   have f7 := grow_none hg e7
   have f9 := grow_none hg hb9
   obtain ⟨G1, hg1, rfl, u9⟩ := grow_out hg' (by rw [set_other m1, set_other m3]; exact f9)
   obtain ⟨G2, hg2, rfl, u7⟩ := grow_out hg1 (by rw [set_other n1]; exact f7)
   obtain ⟨G3, hg3, rfl, u4⟩ := grow_out hg2 f4
   obtain ⟨r3, r4⟩ := one_grow hg3
   rw [set_other n1] at u7
   rw [set_other m1, set_other m3] at u9
   simp +contextual -dsimp -implicitDefEqProofs (maxSteps:=5000000) only [go_sem,reduceIte,reduceCtorEq,Nat.reduceEqDiff,Nat.reduceBEq,Nat.reduceAdd,Nat.reduceLeDiff,Nat.reduceMul,Nat.reduceLT,Int.reduceEq,Int.reduceLT,Int.reduceLE,h1,h2,h4,h6,h7,h8,r1,r2,r3,r4,n1,n2,h0,hx,i1,m1,m2,m3,m4,u9]
   exact ⟨_, by omega, k + 1, G3, x', rfl, h0, by rw [List.take_succ_eq_append_getElem h0, List.map_append]; simpa [List.getD_eq_getElem?_getD, h0] using hg3, u4, u7, rfl, I_wrap (by omega) (by omega) (by omega)⟩
  ·refine draw_intro [1, 0, 0, 3, 2, 0] ((H2.set b4 ⟨1, 32, [[.vsl [] true]]⟩).set b7 ⟨1, 32, [[x]]⟩) (by kernel_rfl) (AHeap.le_refl _) ?_
   simp +contextual -dsimp -implicitDefEqProofs (maxSteps:=5000000) only [go_sem,reduceIte,reduceCtorEq,Nat.reduceEqDiff,Nat.reduceBEq,Nat.reduceAdd,Nat.reduceLeDiff,Nat.reduceMul,Nat.reduceLT,Int.reduceEq,Int.reduceLT,Int.reduceLE,h1,h2,h4,h6,h7,h8,r1,r2,n1,n2]
   refine (c_indexOf _ _ _ _).det ?_
   simp +contextual -dsimp -implicitDefEqProofs (maxSteps:=5000000) only [go_sem,reduceIte,reduceCtorEq,Nat.reduceEqDiff,Nat.reduceBEq,Nat.reduceAdd,Nat.reduceLeDiff,Nat.reduceMul,Nat.reduceLT,Int.reduceEq,Int.reduceLT,Int.reduceLE,h1,h2,h4,h6,h7,h8,r1,r2,n1,n2]
   rw [List.take_of_length_le (by omega)] at hg
   refine retR_less (l := [.agg [x], I (idxF (fun x => decide (f = x)) L)]) (H' := H2) ?_ (fun c k hc => ?_) ⟨x, rfl, hg⟩
   ·simp only [resA,go_sem,reduceIte,reduceCtorEq,Nat.reduceEqDiff,Nat.reduceBEq,Nat.reduceAdd,Nat.reduceLeDiff,Nat.reduceMul,Nat.reduceLT,Int.reduceEq,Int.reduceLT,Int.reduceLE,n1,n2,h4]
   ·have c1 : c ≠ b4 := fun e => by rw [e, e4] at hc; cases hc
    have c2 : c ≠ b7 := fun e => by rw [e, e7] at hc; cases hc
    rw [set_other c2, set_other c1]; exact hc
theorem c_isolated (h : List Fault) (cl : Bool) (f : Int) (H : AHeap) (hl : h.length ≤ 999999) (ho : heapOk h) (hf : f < h.length) (hm : ∀ a ∈ sortedF (dchF h f), 0 ≤ a ∧ a < h.length) (hll : (dchF h f).length ≤ 1000000 ∧ (sortedF (dchF h f)).length ≤ 1000000) :
  ACalls Tryz.prog 101 [aHeap h cl, I f] H fun r H' => (∃ cl', r = .tup [aHeap (isoL h (sortedF (dchF h f))) cl', I (idxF (fun x => decide (f = x)) (sortedF (dchF h f)))]) ∧ H' = H := by
 refine acalls_fz (c_isolated0 h cl f H hl ho hf hm hll) ?_
 rintro _ H' ⟨x, rfl, hg⟩
 obtain ⟨cl', hz⟩ := grow_fz hg
 exact ⟨_, H, grow_le hg, fz_tup (.cons (fz_agg (.cons hz .nil)) (.refl _)), ⟨cl', rfl⟩, rfl⟩
end
section
open Go Go.Sim
set_option maxRecDepth 100000

structure Clo where
 log : List Int
 fs : List Fault
 cur : Int
def isF (t : List Class) (a b : Int) : Bool := (aboveF t a).any fun x => decide (b = x)
def stepX (t : List Class) (s : Clo) (e : Exi) : Clo :=
 if e.kind = 0 then { s with log := s.log ++ [e.a] }
 else if e.kind = 1 then (if 0 ≤ s.cur then { s with log := s.log ++ [e.a] } else s)
 else if e.kind = 2 then (if 0 ≤ s.cur ∧ isF t (s.fs.getD s.cur.toNat default).cls e.a = true then { s with cur := -1 } else s)
 else if e.kind = 3 then { s with fs := raiseF s.fs e.a e.b s.cur, cur := s.fs.length } else s
def startX (x : Sta) : Clo := if x.has then ⟨[], raiseF [] x.cls x.code (-1), 0⟩ else ⟨[], [], -1⟩
def closeX (t : List Class) (l : List Exi) (x : Sta) : Clo := l.reverse.foldl (stepX t) (startX x)
end
section
open Go Go.Sim
set_option maxRecDepth 100000

structure CloOk (t : List Class) (s : Clo) (n : Nat) : Prop where
 ho : heapOk s.fs
 cur : s.cur < s.fs.length
 len : s.fs.length ≤ n + 1
 log : s.log.length ≤ n
 cls : ∀ k, k < s.fs.length → 0 ≤ (s.fs.getD k default).cls ∧ (s.fs.getD k default).cls < t.length
theorem validX_at {t : List Class} {l : List Exi} (h : validX t l = true) {i : Nat} (hi : i < l.length) : exitOk t (l.getD i default) = true := by
 simp only [validX,Bool.and_eq_true,List.all_eq_true] at h
 apply h.2
 rw [List.getD_eq_getElem?_getD, List.getElem?_eq_getElem hi]
 exact List.getElem_mem hi
theorem validX_T {t : List Class} {l : List Exi} (h : validX t l = true) : validT t = true ∧ l.length ≤ 8 := by
 simp only [validX,Bool.and_eq_true,decide_eq_true_eq] at h
 exact h.1
theorem rev_take {l : List Exi} {k : Nat} (h : k < l.length) : l.reverse.take (k + 1) = l.reverse.take k ++ [l.getD (l.length - 1 - k) default] := by
 rw [List.take_succ_eq_append_getElem (by simpa using h), List.getElem_reverse]
 have : l.length - 1 - k < l.length := by omega
 simp [List.getD_eq_getElem?_getD, this]
theorem hasF_spec {t : List Class} {a : Int} (h : hasF t a = true) : 0 ≤ a ∧ a < t.length := by
 simp only [hasF,inR,Bool.and_eq_true,decide_eq_true_eq] at h
 omega
theorem raiseF_at {fs : List Fault} {c d g : Int} {k : Nat} (hk : k < (raiseF fs c d g).length) : (k < fs.length ∧ (raiseF fs c d g).getD k default = fs.getD k default) ∨ (k = fs.length ∧ ((raiseF fs c d g).getD k default).cls = c) := by
 rw [raiseF_len] at hk
 unfold raiseF
 rcases Nat.lt_or_ge k fs.length with q | q
 ·left; refine ⟨q, ?_⟩
  rw [List.getD_eq_getElem?_getD, List.getD_eq_getElem?_getD, List.getElem?_append_left q]
 ·right
  have : k = fs.length := by omega
  subst this
  refine ⟨rfl, ?_⟩
  simp [List.getD_eq_getElem?_getD]
theorem CloOk.raise {t : List Class} {s : Clo} {n : Nat} (h : CloOk t s n) {c d : Int} (hc : hasF t c = true) : CloOk t { s with fs := raiseF s.fs c d s.cur, cur := s.fs.length } (n + 1) := by
 refine ⟨raiseF_ok h.ho h.cur, by simp only [raiseF_len]; omega,by simp only [raiseF_len]; have := h.len; omega,Nat.le_succ_of_le h.log,fun k hk => ?_⟩
 rcases raiseF_at hk with ⟨q1, q2⟩ | ⟨q1, q2⟩
 ·simp only [q2]; exact h.cls k q1
 ·simp only [q2]; exact hasF_spec hc
theorem CloOk.step {t : List Class} {s : Clo} {n : Nat} (h : CloOk t s n) {e : Exi} (he : exitOk t e = true) : CloOk t (stepX t s e) (n + 1) := by
 unfold stepX
 have wk : CloOk t s (n + 1) := ⟨h.ho, h.cur, Nat.le_succ_of_le h.len, Nat.le_succ_of_le h.log, h.cls⟩
 have lg : CloOk t { s with log := s.log ++ [e.a] } (n + 1) := ⟨h.ho, h.cur, Nat.le_succ_of_le h.len, by simp; exact h.log, h.cls⟩
 split
 ·exact lg
 split
 ·split
  ·exact lg
  ·exact wk
 split
 ·split
  ·exact ⟨h.ho, by show (-1 : Int) < _; omega, Nat.le_succ_of_le h.len, Nat.le_succ_of_le h.log, h.cls⟩
  ·exact wk
 split
 ·rename_i h0 h1 h2 h3
  apply h.raise
  unfold exitOk at he
  simp only [h3] at he
  simp at he
  exact he.1
 ·exact wk
theorem CloOk.start {t : List Class} {x : Sta} (hs : startOk t x = true) : CloOk t (startX x) 0 := by
 unfold startX
 split
 ·rename_i hx
  have hc : hasF t x.cls = true := by
   unfold startOk at hs
   simp only [hx,if_true,Bool.and_eq_true] at hs
   exact hs.1
  have h0 : CloOk t ⟨[], [], -1⟩ 0 := ⟨heapOk_nil, by simp, by simp, by simp, fun k hk => by simp at hk⟩
  have := h0.raise (d := x.code) hc
  exact ⟨this.ho, this.cur, by simp [raiseF_len], by simp, this.cls⟩
 ·exact ⟨heapOk_nil, by simp, by simp, by simp, fun k hk => by simp at hk⟩
theorem dchG_mem {h : List Fault} (ho : heapOk h) : ∀ (n : Nat) (f : Int), f < h.length → ∀ a ∈ dchG h n f, 0 ≤ a ∧ a ≤ f
 | 0, f, _, a, ha => by cases ha
 | n + 1, f, hf, a, ha => by
  simp only [dchG] at ha
  split at ha
  ·rename_i h0
   rcases List.mem_cons.1 ha with rfl | ha
   ·exact ⟨h0, Int.le_refl _⟩
   ·have hc := ho f.toNat (by omega)
    have h1 : ctxOf h f < f := by unfold ctxOf; omega
    have := dchG_mem ho n (ctxOf h f) (by omega) a ha
    omega
  ·cases ha
theorem dchG_len {h : List Fault} : ∀ (n : Nat) (f : Int), (dchG h n f).length ≤ n
 | 0, f => Nat.le_refl _
 | n + 1, f => by
  simp only [dchG]
  split
  ·simp only [List.length_cons]; exact Nat.succ_le_succ (dchG_len n _)
  ·simp
theorem insF_mem {out : List Int} {v a : Int} (h : a ∈ insF out v) : a ∈ out ∨ a = v := by
 unfold insF at h
 split at h
 ·simp only [List.mem_append,List.mem_singleton] at h
  rcases h with (h | h) | h
  ·exact .inl (List.mem_of_mem_take h)
  ·exact .inr h
  ·exact .inl (List.mem_of_mem_drop h)
 ·exact .inl h
theorem foldl_insF_mem : ∀ (l out : List Int) {a : Int}, a ∈ l.foldl insF out → a ∈ out ∨ a ∈ l
 | [], out, a, h => .inl h
 | v :: l, out, a, h => by
  rcases foldl_insF_mem l _ h with h | h
  ·rcases insF_mem h with h | h
   ·exact .inl h
   ·exact .inr (by simp [h])
  ·exact .inr (by simp [h])
theorem sortedF_mem {l : List Int} {a : Int} (h : a ∈ sortedF l) : a ∈ l := by
 rcases foldl_insF_mem l [] h with h | h
 ·cases h
 ·exact h
theorem foldl_insF_len : ∀ (l out : List Int), (l.foldl insF out).length ≤ out.length + l.length
 | [], out => by simp
 | v :: l, out => by
  have := foldl_insF_len l (insF out v)
  have h2 := insF_len out v
  simp only [List.foldl_cons,List.length_cons]
  omega
theorem sortedF_len (l : List Int) : (sortedF l).length ≤ l.length := by
 have := foldl_insF_len l []
 simpa [sortedF] using this
theorem dch_ok {h : List Fault} (ho : heapOk h) {f : Int} (hf : f < h.length) : ∀ a ∈ sortedF (dchF h f), 0 ≤ a ∧ a < h.length := fun a ha => by
 have := dchG_mem ho _ f hf a (sortedF_mem ha)
 omega
theorem dch_len {h : List Fault} {f : Int} (hf : f < h.length) (hl : h.length ≤ 999999) : (dchF h f).length ≤ 1000000 ∧ (sortedF (dchF h f)).length ≤ 1000000 := by
 have h1 := dchG_len (h := h) (f + 1).toNat f
 have h2 := sortedF_len (dchF h f)
 unfold dchF at *
 omega
end
section
open Go Go.Sim
set_option maxRecDepth 100000

theorem it_backExit (l : List Exi) (cl : Bool) (hl : l.length ≤ 9223372036854775807) : Iter Tryz.prog 168 [.vptr [[.vsl (l.map rExit) cl]] 0 0] (backL (fun x => .agg (rExit x)) l) := by
 refine back_iter (fn := Tryz.f168) (im := fun _ => false) rfl (by kernel_rfl) rfl rfl rfl (by kernel_rfl) (by kernel_rfl) (by kernel_rfl) (by kernel_rfl) rfl rfl rfl rfl ?_ ?_ ?_ ?_ ?_
 ·intro tm H h1
  simp only [List.toList_toArray]
  simp +contextual -dsimp -implicitDefEqProofs (maxSteps:=5000000) only [go_sem,reduceIte,reduceCtorEq,Nat.reduceEqDiff,Nat.reduceBEq,Nat.reduceAdd,Nat.reduceLeDiff,Nat.reduceMul,Nat.reduceLT,Int.reduceEq,Int.reduceLT,Int.reduceLE,h1]
  exact I_wrap rfl (by omega) (by omega)
 ·intro tm H i h3
  simp only [List.toList_toArray]
  simp +contextual -dsimp -implicitDefEqProofs (maxSteps:=5000000) only [go_sem,reduceIte,reduceCtorEq,Nat.reduceEqDiff,Nat.reduceBEq,Nat.reduceAdd,Nat.reduceLeDiff,Nat.reduceMul,Nat.reduceLT,Int.reduceEq,Int.reduceLT,Int.reduceLE,h3]
 ·intro tm H i h1 h3 h0 hi
  simp only [List.toList_toArray]
  simp +contextual -dsimp -implicitDefEqProofs (maxSteps:=5000000) only [go_sem,reduceIte,reduceCtorEq,Nat.reduceEqDiff,Nat.reduceBEq,Nat.reduceAdd,Nat.reduceLeDiff,Nat.reduceMul,Nat.reduceLT,Int.reduceEq,Int.reduceLT,Int.reduceLE,h1,h3,h0,hi]
  omega
 ·intro tm H b h17
  simp only [List.toList_toArray]
  simp +contextual -dsimp -implicitDefEqProofs (maxSteps:=5000000) only [go_sem,reduceIte,reduceCtorEq,Nat.reduceEqDiff,Nat.reduceBEq,Nat.reduceAdd,Nat.reduceLeDiff,Nat.reduceMul,Nat.reduceLT,Int.reduceEq,Int.reduceLT,Int.reduceLE,h17]
 ·intro tm H i h3 h0 hi
  simp only [List.toList_toArray]
  simp +contextual -dsimp -implicitDefEqProofs (maxSteps:=5000000) only [go_sem,reduceIte,reduceCtorEq,Nat.reduceEqDiff,Nat.reduceBEq,Nat.reduceAdd,Nat.reduceLeDiff,Nat.reduceMul,Nat.reduceLT,Int.reduceEq,Int.reduceLT,Int.reduceLE,h3]
  exact I_wrap rfl (by omega) (by omega)
theorem c_BackExit (l : List Exi) (cl : Bool) (H : AHeap) : ACalls Tryz.prog 122 [.vsl (l.map rExit) cl] H fun r H' => r = .fn 168 [] [.vptr [[.vsl (l.map rExit) cl]] 0 0] ∧ H' = H := by
 refine acalls_of0 Tryz.func122 rfl (by kernel_rfl) rfl rfl (awp_sound (fz := fun _ => []) (im := fun s => s == 1) mixed _ _ _ _ (by kernel_rfl) ?_)
 simp +contextual -dsimp -implicitDefEqProofs (maxSteps:=5000000) only [go_sem,reduceIte,reduceCtorEq,Nat.reduceEqDiff,Nat.reduceBEq,Nat.reduceAdd,Nat.reduceLeDiff,Nat.reduceMul,Nat.reduceLT,Int.reduceEq,Int.reduceLT,Int.reduceLE]

section
variable {F H : AHeap} {bm c : Nat} {t p : AV} {log : List Int} {fs : List Fault} {first : Int} {K : ABlk}
theorem mach_in (hM : Mach F H bm t p log fs first) (hc : H c = none) : Mach (F.set c K) (H.set c K) bm t p log fs first := by
 obtain ⟨xl, xf, H1, H2, hF, hg1, hg2, hb, rfl⟩ := hM
 rw [set_none] at hc
 have h1 := grow_none hg2 hc.2.2
 refine ⟨xl, xf, H1.set c K, H2.set c K, by rw [set_other (Ne.symm hc.1)]; exact hF, grow_in hg1 h1, grow_in hg2 hc.2.2, by rw [set_other (Ne.symm hc.1)]; exact hb, set_comm (Ne.symm hc.1)⟩
theorem mach_out (hM : Mach (F.set c K) H bm t p log fs first) (hc : F c = none) : ∃ H', H = H'.set c K ∧ Mach F H' bm t p log fs first ∧ H' c = none := by
 obtain ⟨xl, xf, H1, H2, hF, hg1, hg2, hb, rfl⟩ := hM
 obtain ⟨G1, k1, rfl, k2⟩ := grow_out hg1 hc
 obtain ⟨G2, k3, rfl, k4⟩ := grow_out hg2 k2
 rw [set_none] at hF hb
 refine ⟨G2.set bm ⟨5, 129, [[t, p, xl, xf, I first]]⟩, set_comm hF.2.1, ⟨xl, xf, G1, G2, hF.2.2, k1, k3, hb.2.2, rfl⟩, ?_⟩
 rw [set_other hF.2.1]; exact k4
theorem mach_none (hM : Mach F H bm t p log fs first) (hc : H c = none) : F c = none := by
 obtain ⟨xl, xf, H1, H2, hF, hg1, hg2, hb, rfl⟩ := hM
 rw [set_none] at hc
 exact grow_none hg1 (grow_none hg2 hc.2.2)
variable {xl xf : AV} {H1 H2 : AHeap} {M C : ABlk} {a : Int} {cl : Bool} {Kt : AV → AHeap → Prop}
theorem mach_app1 {g : Tag ((H2.set bm M).set c C, Kt)} (hg1 : Grow rI 1 3 F H1 xl log) (hg2 : Grow rFault 5 103 H1 H2 xf fs) (hb : H2 bm = none) (hcb : c ≠ bm) (hc : H2 c = none) (hl : log.length < 1000000)
  (k : ∀ x' G G1, Grow rI 1 3 F G1 x' (log ++ [a]) → Grow rFault 5 103 G1 G xf fs → G bm = none → G c = none → x'.row = [x'] ∧ x'.one = true → Kt x' ((G.set bm M).set c C)) :
  appT Tryz.prog ((H2.set bm M).set c C) 29 xl (.vsl [[I a]] cl) Kt g := by
 obtain ⟨H1', hf', hl'⟩ := grow_swap hg1 hg2
 refine grow_append (m := [a]) te29 ti3 rI_len (by decide) (grow_in (grow_in hl' hb) (by rw [set_other hcb]; exact hc)) (by simp; omega) (by simp; omega) rfl fun x' H' hg' => ?_
 obtain ⟨G', k1, rfl, k2⟩ := grow_out hg' (by rw [set_other hcb]; exact grow_none hl' hc)
 obtain ⟨G, k3, rfl, k4⟩ := grow_out k1 (grow_none hl' hb)
 obtain ⟨G1, k5, k6⟩ := grow_swap hf' k3
 rw [set_other hcb] at k2
 exact k x' G G1 k5 k6 k4 k2 (one_grow k5)
end
end
end
section
set_option maxRecDepth 100000
attribute [local go_sem ↓] aw_skip aw_ret aw_exit aw_region aw_draw aw_seq aw_block aw_loop aw_cond frz_nil frz_cons sq_normal sq_ret sq_exit exB_normal exB_ret exB_same exB_other retQ_ret retQ_normal ret0_ret ret0_normal ao_nil go1 g_move g_assign g_pick g_build g_load g_binOp g_unOp g_convert g_fieldAddr g_field g_indexAddr g_index g_extract g_lookup g_slice g_nilCheck g_len g_makeFunc h_call h_append h_alloc h_box h_buildSlice h_makeSlice h_store gV i_box i_buildSlice i_move i_assign i_build i_load i_binOp i_unOp i_convert i_fieldAddr i_field i_indexAddr i_index i_extract i_lookup i_makeMap i_mapUpdate i_slice i_nilCheck i_makeFunc i_len i_max i_min i_alloc i_makeSlice i_store i_append i_call i_pick boxI boxA buildSliceI buildSliceA makeSliceA makeMapA allocA storeA p_move p_assign p_pick p_build p_load p_binOp p_unOp p_convert p_fieldAddr p_field p_indexAddr p_index p_extract p_lookup p_makeMap p_mapUpdate p_slice p_nilCheck p_makeFunc p_len p_max p_min p_alloc p_box p_buildSlice p_makeSlice p_store p_append p_call x_nil x_go1 x_g0 x_g1 x_g2 x_g3 x_s0 x_s1 x_s2 x_s3 u_move u_assign u_pick u_build u_load u_binOp u_unOp u_convert u_fieldAddr u_field u_indexAddr u_index u_extract u_lookup u_slice u_nilCheck u_makeFunc u_len u_buildSlice x_s4 x_g4 rq_normal rq_ret rq_exit aw_range
attribute [local go_sem] frzV_sl frzK_some set_none set_other AHeap.set_self set_del set_set cnd_t cnd_f cnd_b retA_one retA_two retA_three retA_four retA_nil gIf_b mrgV_b mrgV_wh mrgV_U gIf_U gIf_wh mrgB_f mrgB_some mrgB_if wh_true wh_false keepA_some keepA_if gD_zero gD_succ gT_some bxA_t bxA_f callA_fn ev_tmp ev_const ev_global ev_func oc_bool oc_int oc_string oc_nil oc_nilptr oc_nilfunc cl_bool cl_int cl_string cl_nil updO_some updO_none upd_same upd_other init_at pickA_b pickA_wh selA_t selA_f selA_and selA_or selA_orn selA_orm selA_bb selA_ii beqt b_add b_sub b_mul b_and b_or b_xor b_eql b_neq b_lss b_leq b_gtr b_geq b_quo b_rem b_shr b_seql b_sneq b_sadd b_beql b_bneq b_aeql b_aneq u_not u_neg isConstOp eqA eqCellV List.getD_cons_zero List.getD_cons_succ List.map_cons List.map_nil List.nil_append List.cons_append List.append_nil if_true if_false Option.map_some Option.map_none ne_eq not_false_eq_true oneA ldv ld1v ld1s wr1s ldRow stRow row_lit row_agg row_vsl row_sl row_ptr row_fn one_I one_B one_S one_vsl one_sl one_ptr one_fn extractA okA rI rS rU rClass rFault rExit rStart rLine Int.toNat_natCast List.length_cons List.length_nil List.length_map List.all_cons List.all_nil Bool.and_true Nat.zero_add List.getElem?_cons_zero List.getElem?_cons_succ List.take_succ_cons List.take_zero List.drop_succ_cons List.drop_zero and_self true_and and_true implies_true decide_eq_true_eq decide_eq_false_iff_not Bool.or_eq_true Bool.or_eq_false_iff Bool.and_eq_true Bool.not_eq_true' Bool.not_eq_false' beq_false decide_true decide_false Int.ofNat_lt Int.ofNat_le Int.natCast_nonneg Bool.or_true Bool.or_false Bool.true_or Bool.false_or beq_self_eq_true List.drop_one Bool.not_true Bool.not_false Bool.not_not Bool.false_eq_true Bool.true_eq_false false_implies true_implies Bool.true_and Bool.false_and Bool.and_false not_true_eq_false Int.natCast_eq_zero Int.natCast_pos Int.natCast_zero false_and and_false or_false false_or or_true true_or Bool.or_self none_le_iff List.replicate_zero Int.toNat_zero List.replicate_succ buildRows List.set_cons_zero List.set_cons_succ List.set_nil List.mapM_nil maxLen_eq Nat.zero_le Nat.mul_one Nat.one_mul bldA fillA spliceA List.take_nil List.drop_nil List.getElem?_nil ld1o wr1o bldSliceA le_same cv_i cvI_t quietT_fn qvd_some ld_o ldO_1 ldO_l wr_o wrO_1 set_2 set_3 set_4 putL_nil putL_cons List.zip_cons_cons List.zip_nil_left List.zip_nil_right List.toList_toArray frzV_set ti1 ti2 tk2 ti3 te3 ts3 tk3 tz3 ti4 tb4 ti5 tk5 tz5 ti9 te9 ts9 tk9 tz9 ti20 ti22 te22 tz22 ti23 te23 ti25 tp25 tf25_0 ti26 te26 ti29 te29 ti30 te30 ti32 tp32 tf32_0 ti34 tp34 tf34_0 tf34_1 tf34_2 tf34_3 ti41 tq41 tp41 tf41_0 tf41_1 tf41_2 tf41_3 ti44 tq44 tp44 tf44_0 tf44_1 tf44_2 ti45 te45 ti47 tq47 tp47 tf47_0 tf47_1 tf47_2 ti82 ti84 ti88 tq88 tp88 tf88_0 tf88_1 ti103 tq103 tp103 tf103_0 tf103_1 tf103_2 tf103_3 tf103_4 ti106 ti109 ti124 ti127 tp127 tf127_0 tf127_1 ti129 tp129 tf129_0 tf129_1 tf129_2 tf129_3 tf129_4 ti136 ti138 tp138 tf138_0 tf138_1 tf138_2 tf138_3 ti140 tq140 tp140 tf140_0 tf140_1 ti144 tq144 tp144 tf144_0 tf144_1 ti149 te149 ti151 te151 ti164 ti165 ti167 ti177 te177 ti186 ti202 ti205 tk205 tz205 ti209 tk209 ti217 tk217 tz217 ti219 tk219 tz219 ti220 tk220 ti224 ti226 fp13_0 fv13_0 fp13_1 fv13_1 fp24_0 fv24_0 fp25_0 fv25_0 fp31_0 fv31_0 fp32_0 fv32_0 fp33_0 fv33_0 fp33_1 fv33_1 fp33_2 fv33_2 fp33_3 fv33_3 fp34_0 fv34_0 fp34_1 fv34_1 fp34_2 fv34_2 fp34_3 fv34_3 fp40_0 fv40_0 fp40_1 fv40_1 fp40_2 fv40_2 fp40_3 fv40_3 fp41_0 fv41_0 fp41_1 fv41_1 fp41_2 fv41_2 fp41_3 fv41_3 fp43_0 fv43_0 fp43_1 fv43_1 fp43_2 fv43_2 fp44_0 fv44_0 fp44_1 fv44_1 fp44_2 fv44_2 fp46_0 fv46_0 fp46_1 fv46_1 fp46_2 fv46_2 fp47_0 fv47_0 fp47_1 fv47_1 fp47_2 fv47_2 fp57_0 fv57_0 fp58_0 fv58_0 fp72_0 fv72_0 fp72_1 fv72_1 fp72_2 fv72_2 fp87_0 fv87_0 fp87_1 fv87_1 fp88_0 fv88_0 fp88_1 fv88_1 fp102_0 fv102_0 fp102_1 fv102_1 fp102_2 fv102_2 fp102_3 fv102_3 fp102_4 fv102_4 fp103_0 fv103_0 fp103_1 fv103_1 fp103_2 fv103_2 fp103_3 fv103_3 fp103_4 fv103_4 fp113_0 fv113_0 fp113_1 fv113_1 fp113_2 fv113_2 fp113_3 fv113_3 fp120_0 fv120_0 fp120_1 fv120_1 fp120_2 fv120_2 fp126_0 fv126_0 fp126_1 fv126_1 fp127_0 fv127_0 fp127_1 fv127_1 fp128_0 fv128_0 fp128_1 fv128_1 fp128_2 fv128_2 fp128_3 fv128_3 fp128_4 fv128_4 fp129_0 fv129_0 fp129_1 fv129_1 fp129_2 fv129_2 fp129_3 fv129_3 fp129_4 fv129_4 fp137_0 fv137_0 fp137_1 fv137_1 fp137_2 fv137_2 fp137_3 fv137_3 fp138_0 fv138_0 fp138_1 fv138_1 fp138_2 fv138_2 fp138_3 fv138_3 fp139_0 fv139_0 fp139_1 fv139_1 fp140_0 fv140_0 fp140_1 fv140_1 fp143_0 fv143_0 fp143_1 fv143_1 fp144_0 fv144_0 fp144_1 fv144_1 fp158_0 fv158_0 fp158_1 fv158_1 fp158_2 fv158_2 fp159_0 fv159_0 fp159_1 fv159_1 fp159_2 fv159_2 fp169_0 fv169_0 fp169_1 fv169_1 lv22 ll22 is22 ix22 sh22 so22 sb22 sm22 sp22 lv23 ll23 is23 ix23 sh23 so23 sb23 sm23 sp23 lv26 ll26 is26 ix26 sh26 so26 sb26 sm26 sp26 lv29 ll29 is29 ix29 sh29 so29 sb29 sm29 sp29 lv30 ll30 is30 ix30 sh30 so30 sb30 sm30 sp30 lv45 ll45 is45 ix45 sh45 so45 sb45 sm45 sp45 lv56 ll56 is56 sp56 lv59 ll59 is59 sp59 lv71 ll71 is71 sp71 lv149 ll149 is149 sp149 lv151 ll151 is151 sp151 lv177 ll177 is177 ix177 sh177 so177 sb177 sm177 sp177 xs9 ls9 sx9 sy9 sz9
section
open Go Go.Sim
set_option maxRecDepth 100000

theorem c_mclosed (F H : AHeap) (bm : Nat) (t : List Class) (cl : Bool) (p : AV) (first : Int) (l : List Exi) (cl' : Bool) (x : Sta) (hM : Mach F H bm (.vsl (t.map rClass) cl) p [] [] first) (hv : validX t l = true) (hs : startOk t x = true) :
  ACalls Tryz.prog 73 [.ptr bm 5 0 0, .vsl (l.map rExit) cl', .agg (rStart x)] H fun r H' => r = I (closeX t l x).cur ∧ Mach F H' bm (.vsl (t.map rClass) cl) p (closeX t l x).log (closeX t l x).fs first := by
 obtain ⟨hT, hl8⟩ := validX_T hv
 refine acalls_of1 Tryz.func73 rfl (by kernel_rfl) rfl rfl (awp_sound (fz := fun r => if r = 5 then [9] else []) (im := fun s => s == 3 || s == 5) mixed _ _ _ _ (by kernel_rfl) ?_)
 simp +contextual -dsimp -implicitDefEqProofs (maxSteps:=5000000) only [go_sem,reduceIte,reduceCtorEq,Nat.reduceEqDiff,Nat.reduceBEq,Nat.reduceAdd,Nat.reduceLeDiff,Nat.reduceMul,Nat.reduceLT,Int.reduceEq,Int.reduceLT,Int.reduceLE]
 intro b7 hb7
 have hM' := mach_in (K := ⟨1, 3, [[I (-1)]]⟩) hM hb7
 have hF7 := mach_none hM hb7
 have st := CloOk.start (t := t) hs
 refine ⟨fun hx => ?_, fun hx => ?_⟩
 ·refine (c_raise _ _ bm _ p [] [] first x.cls x.code (-1) hM' (by simp) heapOk_nil (by simp)).mono ?_
  rintro _ H2 ⟨rfl, hM2⟩
  obtain ⟨H3, rfl, hM3, hn3⟩ := mach_out hM2 hF7
  simp +contextual -dsimp -implicitDefEqProofs (maxSteps:=5000000) only [go_sem,reduceIte,reduceCtorEq,Nat.reduceEqDiff,Nat.reduceBEq,Nat.reduceAdd,Nat.reduceLeDiff,Nat.reduceMul,Nat.reduceLT,Int.reduceEq,Int.reduceLT,Int.reduceLE]
  refine (c_BackExit l cl' _).det ?_
  simp +contextual -dsimp -implicitDefEqProofs (maxSteps:=5000000) only [go_sem,reduceIte,reduceCtorEq,Nat.reduceEqDiff,Nat.reduceBEq,Nat.reduceAdd,Nat.reduceLeDiff,Nat.reduceMul,Nat.reduceLT,Int.reduceEq,Int.reduceLT,Int.reduceLE]
  refine sim_rangeFunc (caps := [.vptr [[.vsl (l.map rExit) cl']] 0 0]) (by simp only [go_sem,reduceIte,reduceCtorEq,Nat.reduceEqDiff,Nat.reduceBEq,Nat.reduceAdd,Nat.reduceLeDiff,Nat.reduceMul,Nat.reduceLT,Int.reduceEq,Int.reduceLT,Int.reduceLE]) (it_backExit l cl' (by omega)) (by decide) backL_len
   (fun k H' => ∃ s H'', s = (l.reverse.take k).foldl (stepX t) (startX x) ∧ CloOk t s k ∧ Mach F H'' bm (.vsl (t.map rClass) cl) p s.log s.fs first ∧ H'' b7 = none ∧ H' = H''.set b7 ⟨1, 3, [[I s.cur]]⟩) (fun _ _ => False) ?_ ?_ ?_ (fun _ h => h.elim) (fun _ _ h => h.elim)
  ·refine ⟨startX x, H3, rfl, st, ?_, hn3, ?_⟩
   ·simp only [startX,hx,if_true]; exact hM3
   ·simp only [startX,hx,if_true,List.length_nil]
  ·
   rintro k x' H' lp hx' ⟨s, H'', hsk, ok, hMk, hn, rfl⟩
   obtain ⟨hkl, rfl⟩ := backL_get hx'
   have hi2 : l.length - 1 - k < l.length := by omega
   have he := validX_at hv hi2
   have hrev := rev_take hkl
   generalize l.getD (l.length - 1 - k) default = e at he hrev ⊢
   have ok' := ok.step he
   have hsk' : (l.reverse.take (k + 1)).foldl (stepX t) (startX x) = stepX t s e := by rw [hrev, List.foldl_append, ← hsk]; rfl
   have hFk := mach_none hMk hn
   refine awp_soundAt (fz := fun r => if r = 5 then [9] else []) (im := fun s => s == 3 || s == 5) mixed _ _ _ _ (by kernel_rfl) (.inr (by kernel_rfl)) ?_
   simp +contextual -dsimp -implicitDefEqProofs (maxSteps:=5000000) only [go_sem,reduceIte,reduceCtorEq,Nat.reduceEqDiff,Nat.reduceBEq,Nat.reduceAdd,Nat.reduceLeDiff,Nat.reduceMul,Nat.reduceLT,Int.reduceEq,Int.reduceLT,Int.reduceLE]
   rintro b9 ⟨m1, m2, hb9⟩
   refine awp_soundAt (fz := fun r => if r = 5 then [9] else []) (im := fun s => s == 3 || s == 5) mixed _ _ _ _ (by kernel_rfl) (.inr (by kernel_rfl)) ?_
   have go : ∀ (s' : Clo) (G : AHeap), stepX t s e = s' → Mach F G bm (.vsl (t.map rClass) cl) p s'.log s'.fs first → G b7 = none →
     ∃ s_1 H'', s_1 = (l.reverse.take (k + 1)).foldl (stepX t) (startX x) ∧ CloOk t s_1 (k + 1) ∧ Mach F H'' bm (.vsl (t.map rClass) cl) p s_1.log s_1.fs first ∧ H'' b7 = none ∧ G.set b7 ⟨1, 3, [[I s'.cur]]⟩ = H''.set b7 ⟨1, 3, [[I s_1.cur]]⟩ :=
    fun s' G q1 q2 q3 => ⟨s', G, by rw [hsk', q1], q1 ▸ ok', q2, q3, rfl⟩
   obtain ⟨xl, xf, H1, H2, hF, hg1, hg2, hb, rfl⟩ := id hMk
   have hn' := hn
   rw [set_none] at hn'
   obtain ⟨n1, n2, hn2⟩ := hn'
   by_cases k0 : e.kind = 0
   ·have hs' : stepX t s e = { s with log := s.log ++ [e.a] } := by simp only [stepX,k0,if_true]
    simp +contextual -dsimp -implicitDefEqProofs (maxSteps:=5000000) only [go_sem,reduceIte,reduceCtorEq,Nat.reduceEqDiff,Nat.reduceBEq,Nat.reduceAdd,Nat.reduceLeDiff,Nat.reduceMul,Nat.reduceLT,Int.reduceEq,Int.reduceLT,Int.reduceLE,k0]
    refine draw_intro [1, 0, 0, 0, 0, 0, 0, 0, 3, 0, 0, 2] AHeap.none (by kernel_rfl) none_le ?_
    simp +contextual -dsimp -implicitDefEqProofs (maxSteps:=5000000) only [go_sem,reduceIte,reduceCtorEq,Nat.reduceEqDiff,Nat.reduceBEq,Nat.reduceAdd,Nat.reduceLeDiff,Nat.reduceMul,Nat.reduceLT,Int.reduceEq,Int.reduceLT,Int.reduceLE,k0,n1,n2]
    refine mach_app1 hg1 hg2 hb n1 hn2 (by have := ok.log; omega) fun x2 G G1 y1 y2 y3 y4 y5 => ?_
    obtain ⟨r1, r2⟩ := y5
    simp +contextual -dsimp -implicitDefEqProofs (maxSteps:=5000000) only [go_sem,reduceIte,reduceCtorEq,Nat.reduceEqDiff,Nat.reduceBEq,Nat.reduceAdd,Nat.reduceLeDiff,Nat.reduceMul,Nat.reduceLT,Int.reduceEq,Int.reduceLT,Int.reduceLE,k0,n1,n2,r1,r2]
    exact go { s with log := s.log ++ [e.a] } _ hs' ⟨x2, xf, G1, G, hF, y1, y2, y3, rfl⟩ (by rw [set_other n1]; exact y4)
   ·by_cases k1 : e.kind = 1
    ·simp +contextual -dsimp -implicitDefEqProofs (maxSteps:=5000000) only [go_sem,reduceIte,reduceCtorEq,Nat.reduceEqDiff,Nat.reduceBEq,Nat.reduceAdd,Nat.reduceLeDiff,Nat.reduceMul,Nat.reduceLT,Int.reduceEq,Int.reduceLT,Int.reduceLE,k0,k1]
     refine ⟨fun hc => ?_, fun hc => ?_⟩
     ·have hs' : stepX t s e = { s with log := s.log ++ [e.a] } := by simp only [stepX,k0,k1,hc,if_true,if_false]; rfl
      refine draw_intro [1, 0, 0, 0, 0, 0, 0, 0, 3, 0, 0, 2] AHeap.none (by kernel_rfl) none_le ?_
      simp +contextual -dsimp -implicitDefEqProofs (maxSteps:=5000000) only [go_sem,reduceIte,reduceCtorEq,Nat.reduceEqDiff,Nat.reduceBEq,Nat.reduceAdd,Nat.reduceLeDiff,Nat.reduceMul,Nat.reduceLT,Int.reduceEq,Int.reduceLT,Int.reduceLE,k0,k1,n1,n2]
      refine mach_app1 hg1 hg2 hb n1 hn2 (by have := ok.log; omega) fun x2 G G1 y1 y2 y3 y4 y5 => ?_
      obtain ⟨r1, r2⟩ := y5
      simp +contextual -dsimp -implicitDefEqProofs (maxSteps:=5000000) only [go_sem,reduceIte,reduceCtorEq,Nat.reduceEqDiff,Nat.reduceBEq,Nat.reduceAdd,Nat.reduceLeDiff,Nat.reduceMul,Nat.reduceLT,Int.reduceEq,Int.reduceLT,Int.reduceLE,k0,k1,n1,n2,r1,r2]
      exact go { s with log := s.log ++ [e.a] } _ hs' ⟨x2, xf, G1, G, hF, y1, y2, y3, rfl⟩ (by rw [set_other n1]; exact y4)
     ·have hs' : stepX t s e = s := by simp only [stepX,k0,k1,hc,if_true,if_false]; rfl
      exact go s _ hs' hMk hn
    ·by_cases k2 : e.kind = 2
     ·by_cases hc : 0 ≤ s.cur
      ·simp +contextual -dsimp -implicitDefEqProofs (maxSteps:=5000000) only [go_sem,reduceIte,reduceCtorEq,Nat.reduceEqDiff,Nat.reduceBEq,Nat.reduceAdd,Nat.reduceLeDiff,Nat.reduceMul,Nat.reduceLT,Int.reduceEq,Int.reduceLT,Int.reduceLE,k0,k1,k2]
       refine draw_intro [0, 0, 0, 0, 0, 0, 0, 0, 0, 0, 0, 0, 0, 0, 0, 0, 0, 0, 2, 0] AHeap.none (by kernel_rfl) none_le ?_
       rcases hg2 with ⟨e1, _, _⟩ | ⟨bf, clf, hbf, rfl, rfl⟩
       ·have := ok.cur; rw [e1] at this; simp at this; omega
       have hb' := hb
       have hn3 := hn2
       rw [set_none] at hb' hn3
       have w1 := hb'.1
       have w2 := hb'.2.1
       have w3 := hn3.1
       have w4 := hn3.2.1
       have i1 := ok.cur
       have i2 : s.cur.toNat < s.fs.length := by omega
       simp +contextual -dsimp -implicitDefEqProofs (maxSteps:=5000000) only [go_sem,reduceIte,reduceCtorEq,Nat.reduceEqDiff,Nat.reduceBEq,Nat.reduceAdd,Nat.reduceLeDiff,Nat.reduceMul,Nat.reduceLT,Int.reduceEq,Int.reduceLT,Int.reduceLE,k0,k1,k2,hc,n1,n2,w1,w2,w3,w4,i1,i2]
       have hcl := ok.cls s.cur.toNat i2
       refine (c_is t cl _ e.a _ hT hcl.2).det ?_
       simp +contextual -dsimp -implicitDefEqProofs (maxSteps:=5000000) only [go_sem,reduceIte,reduceCtorEq,Nat.reduceEqDiff,Nat.reduceBEq,Nat.reduceAdd,Nat.reduceLeDiff,Nat.reduceMul,Nat.reduceLT,Int.reduceEq,Int.reduceLT,Int.reduceLE,k0,k1,k2,hc,n1,n2,w1,w2,w3,w4,i1,i2]
       refine ⟨fun hq => ?_, fun hq => ?_⟩
       ·have hs' : stepX t s e = { s with cur := -1 } := by
         simp only [stepX,k2,hc,isF,hq,and_self,if_true]; rfl
        exact go { s with cur := -1 } _ hs' hMk hn
       ·have hs' : stepX t s e = s := by
         simp only [stepX,k2,hc,isF,hq,and_self,if_true]; rfl
        exact go s _ hs' hMk hn
      ·have hs' : stepX t s e = s := by simp only [stepX,k0,k1,k2,hc,if_true,if_false,false_and]; rfl
       simp +contextual -dsimp -implicitDefEqProofs (maxSteps:=5000000) only [go_sem,reduceIte,reduceCtorEq,Nat.reduceEqDiff,Nat.reduceBEq,Nat.reduceAdd,Nat.reduceLeDiff,Nat.reduceMul,Nat.reduceLT,Int.reduceEq,Int.reduceLT,Int.reduceLE,k0,k1,k2]
       refine draw_intro [0, 0, 0, 0, 0, 0, 0, 0, 0, 0, 0, 0, 0, 0, 0, 0, 0, 0, 2, 0] AHeap.none (by kernel_rfl) none_le ?_
       simp +contextual -dsimp -implicitDefEqProofs (maxSteps:=5000000) only [go_sem,reduceIte,reduceCtorEq,Nat.reduceEqDiff,Nat.reduceBEq,Nat.reduceAdd,Nat.reduceLeDiff,Nat.reduceMul,Nat.reduceLT,Int.reduceEq,Int.reduceLT,Int.reduceLE,k0,k1,k2,hc,n1,n2]
       exact go s _ hs' hMk hn
     ·by_cases k3 : e.kind = 3
      ·simp +contextual -dsimp -implicitDefEqProofs (maxSteps:=5000000) only [go_sem,reduceIte,reduceCtorEq,Nat.reduceEqDiff,Nat.reduceBEq,Nat.reduceAdd,Nat.reduceLeDiff,Nat.reduceMul,Nat.reduceLT,Int.reduceEq,Int.reduceLT,Int.reduceLE,k0,k1,k2,k3]
       refine (c_raise _ _ bm _ p s.log s.fs first e.a e.b s.cur (mach_in (K := ⟨1, 3, [[I s.cur]]⟩) hMk hn) (by have := ok.len; omega) ok.ho ok.cur).mono ?_
       rintro _ H9 ⟨rfl, hM9⟩
       obtain ⟨H10, rfl, hM10, hn10⟩ := mach_out hM9 hFk
       have hs' : stepX t s e = { s with fs := raiseF s.fs e.a e.b s.cur, cur := s.fs.length } := by simp only [stepX,k0,k1,k2,k3,if_true,if_false]; rfl
       simp +contextual -dsimp -implicitDefEqProofs (maxSteps:=5000000) only [go_sem,reduceIte,reduceCtorEq,Nat.reduceEqDiff,Nat.reduceBEq,Nat.reduceAdd,Nat.reduceLeDiff,Nat.reduceMul,Nat.reduceLT,Int.reduceEq,Int.reduceLT,Int.reduceLE,k0,k1,k2,k3]
       exact go { s with fs := raiseF s.fs e.a e.b s.cur, cur := s.fs.length } _ hs' hM10 hn10
      ·have hs' : stepX t s e = s := by simp only [stepX,k0,k1,k2,k3,if_false]
       simp +contextual -dsimp -implicitDefEqProofs (maxSteps:=5000000) only [go_sem,reduceIte,reduceCtorEq,Nat.reduceEqDiff,Nat.reduceBEq,Nat.reduceAdd,Nat.reduceLeDiff,Nat.reduceMul,Nat.reduceLT,Int.reduceEq,Int.reduceLT,Int.reduceLE,k0,k1,k2,k3]
       exact go s _ hs' hMk hn
  ·
   rintro H' ⟨s, H'', hsk, ok, hMk, hn, rfl⟩
   rw [backL_length, List.take_of_length_le (by simp)] at hsk
   have hfin : closeX t l x = s := by rw [closeX, hsk]
   simp +contextual -dsimp -implicitDefEqProofs (maxSteps:=5000000) only [go_sem,reduceIte,reduceCtorEq,Nat.reduceEqDiff,Nat.reduceBEq,Nat.reduceAdd,Nat.reduceLeDiff,Nat.reduceMul,Nat.reduceLT,Int.reduceEq,Int.reduceLT,Int.reduceLE]
   refine retR_less (l := [I s.cur]) (H' := H'') ?_ (le_set hn) ⟨by rw [hfin]; rfl, by rw [hfin]; exact hMk⟩
   simp only [resA,go_sem,reduceIte,reduceCtorEq,Nat.reduceEqDiff,Nat.reduceBEq,Nat.reduceAdd,Nat.reduceLeDiff,Nat.reduceMul,Nat.reduceLT,Int.reduceEq,Int.reduceLT,Int.reduceLE]
 ·refine (c_BackExit l cl' _).det ?_
  simp +contextual -dsimp -implicitDefEqProofs (maxSteps:=5000000) only [go_sem,reduceIte,reduceCtorEq,Nat.reduceEqDiff,Nat.reduceBEq,Nat.reduceAdd,Nat.reduceLeDiff,Nat.reduceMul,Nat.reduceLT,Int.reduceEq,Int.reduceLT,Int.reduceLE]
  refine sim_rangeFunc (caps := [.vptr [[.vsl (l.map rExit) cl']] 0 0]) (by simp only [go_sem,reduceIte,reduceCtorEq,Nat.reduceEqDiff,Nat.reduceBEq,Nat.reduceAdd,Nat.reduceLeDiff,Nat.reduceMul,Nat.reduceLT,Int.reduceEq,Int.reduceLT,Int.reduceLE]) (it_backExit l cl' (by omega)) (by decide) backL_len
   (fun k H' => ∃ s H'', s = (l.reverse.take k).foldl (stepX t) (startX x) ∧ CloOk t s k ∧ Mach F H'' bm (.vsl (t.map rClass) cl) p s.log s.fs first ∧ H'' b7 = none ∧ H' = H''.set b7 ⟨1, 3, [[I s.cur]]⟩) (fun _ _ => False) ?_ ?_ ?_ (fun _ h => h.elim) (fun _ _ h => h.elim)
  ·refine ⟨startX x, H, rfl, st, ?_, hb7, ?_⟩
   ·simp only [startX,hx]; exact hM
   ·simp [startX, hx]
  ·
   rintro k x' H' lp hx' ⟨s, H'', hsk, ok, hMk, hn, rfl⟩
   obtain ⟨hkl, rfl⟩ := backL_get hx'
   have hi2 : l.length - 1 - k < l.length := by omega
   have he := validX_at hv hi2
   have hrev := rev_take hkl
   generalize l.getD (l.length - 1 - k) default = e at he hrev ⊢
   have ok' := ok.step he
   have hsk' : (l.reverse.take (k + 1)).foldl (stepX t) (startX x) = stepX t s e := by rw [hrev, List.foldl_append, ← hsk]; rfl
   have hFk := mach_none hMk hn
   refine awp_soundAt (fz := fun r => if r = 5 then [9] else []) (im := fun s => s == 3 || s == 5) mixed _ _ _ _ (by kernel_rfl) (.inr (by kernel_rfl)) ?_
   simp +contextual -dsimp -implicitDefEqProofs (maxSteps:=5000000) only [go_sem,reduceIte,reduceCtorEq,Nat.reduceEqDiff,Nat.reduceBEq,Nat.reduceAdd,Nat.reduceLeDiff,Nat.reduceMul,Nat.reduceLT,Int.reduceEq,Int.reduceLT,Int.reduceLE]
   rintro b9 ⟨m1, m2, hb9⟩
   refine awp_soundAt (fz := fun r => if r = 5 then [9] else []) (im := fun s => s == 3 || s == 5) mixed _ _ _ _ (by kernel_rfl) (.inr (by kernel_rfl)) ?_
   have go : ∀ (s' : Clo) (G : AHeap), stepX t s e = s' → Mach F G bm (.vsl (t.map rClass) cl) p s'.log s'.fs first → G b7 = none →
     ∃ s_1 H'', s_1 = (l.reverse.take (k + 1)).foldl (stepX t) (startX x) ∧ CloOk t s_1 (k + 1) ∧ Mach F H'' bm (.vsl (t.map rClass) cl) p s_1.log s_1.fs first ∧ H'' b7 = none ∧ G.set b7 ⟨1, 3, [[I s'.cur]]⟩ = H''.set b7 ⟨1, 3, [[I s_1.cur]]⟩ :=
    fun s' G q1 q2 q3 => ⟨s', G, by rw [hsk', q1], q1 ▸ ok', q2, q3, rfl⟩
   obtain ⟨xl, xf, H1, H2, hF, hg1, hg2, hb, rfl⟩ := id hMk
   have hn' := hn
   rw [set_none] at hn'
   obtain ⟨n1, n2, hn2⟩ := hn'
   by_cases k0 : e.kind = 0
   ·have hs' : stepX t s e = { s with log := s.log ++ [e.a] } := by simp only [stepX,k0,if_true]
    simp +contextual -dsimp -implicitDefEqProofs (maxSteps:=5000000) only [go_sem,reduceIte,reduceCtorEq,Nat.reduceEqDiff,Nat.reduceBEq,Nat.reduceAdd,Nat.reduceLeDiff,Nat.reduceMul,Nat.reduceLT,Int.reduceEq,Int.reduceLT,Int.reduceLE,k0]
    refine draw_intro [1, 0, 0, 0, 0, 0, 0, 0, 3, 0, 0, 2] AHeap.none (by kernel_rfl) none_le ?_
    simp +contextual -dsimp -implicitDefEqProofs (maxSteps:=5000000) only [go_sem,reduceIte,reduceCtorEq,Nat.reduceEqDiff,Nat.reduceBEq,Nat.reduceAdd,Nat.reduceLeDiff,Nat.reduceMul,Nat.reduceLT,Int.reduceEq,Int.reduceLT,Int.reduceLE,k0,n1,n2]
    refine mach_app1 hg1 hg2 hb n1 hn2 (by have := ok.log; omega) fun x2 G G1 y1 y2 y3 y4 y5 => ?_
    obtain ⟨r1, r2⟩ := y5
    simp +contextual -dsimp -implicitDefEqProofs (maxSteps:=5000000) only [go_sem,reduceIte,reduceCtorEq,Nat.reduceEqDiff,Nat.reduceBEq,Nat.reduceAdd,Nat.reduceLeDiff,Nat.reduceMul,Nat.reduceLT,Int.reduceEq,Int.reduceLT,Int.reduceLE,k0,n1,n2,r1,r2]
    exact go { s with log := s.log ++ [e.a] } _ hs' ⟨x2, xf, G1, G, hF, y1, y2, y3, rfl⟩ (by rw [set_other n1]; exact y4)
   ·by_cases k1 : e.kind = 1
    ·simp +contextual -dsimp -implicitDefEqProofs (maxSteps:=5000000) only [go_sem,reduceIte,reduceCtorEq,Nat.reduceEqDiff,Nat.reduceBEq,Nat.reduceAdd,Nat.reduceLeDiff,Nat.reduceMul,Nat.reduceLT,Int.reduceEq,Int.reduceLT,Int.reduceLE,k0,k1]
     refine ⟨fun hc => ?_, fun hc => ?_⟩
     ·have hs' : stepX t s e = { s with log := s.log ++ [e.a] } := by simp only [stepX,k0,k1,hc,if_true,if_false]; rfl
      refine draw_intro [1, 0, 0, 0, 0, 0, 0, 0, 3, 0, 0, 2] AHeap.none (by kernel_rfl) none_le ?_
      simp +contextual -dsimp -implicitDefEqProofs (maxSteps:=5000000) only [go_sem,reduceIte,reduceCtorEq,Nat.reduceEqDiff,Nat.reduceBEq,Nat.reduceAdd,Nat.reduceLeDiff,Nat.reduceMul,Nat.reduceLT,Int.reduceEq,Int.reduceLT,Int.reduceLE,k0,k1,n1,n2]
      refine mach_app1 hg1 hg2 hb n1 hn2 (by have := ok.log; omega) fun x2 G G1 y1 y2 y3 y4 y5 => ?_
      obtain ⟨r1, r2⟩ := y5
      simp +contextual -dsimp -implicitDefEqProofs (maxSteps:=5000000) only [go_sem,reduceIte,reduceCtorEq,Nat.reduceEqDiff,Nat.reduceBEq,Nat.reduceAdd,Nat.reduceLeDiff,Nat.reduceMul,Nat.reduceLT,Int.reduceEq,Int.reduceLT,Int.reduceLE,k0,k1,n1,n2,r1,r2]
      exact go { s with log := s.log ++ [e.a] } _ hs' ⟨x2, xf, G1, G, hF, y1, y2, y3, rfl⟩ (by rw [set_other n1]; exact y4)
     ·have hs' : stepX t s e = s := by simp only [stepX,k0,k1,hc,if_true,if_false]; rfl
      exact go s _ hs' hMk hn
    ·by_cases k2 : e.kind = 2
     ·by_cases hc : 0 ≤ s.cur
      ·simp +contextual -dsimp -implicitDefEqProofs (maxSteps:=5000000) only [go_sem,reduceIte,reduceCtorEq,Nat.reduceEqDiff,Nat.reduceBEq,Nat.reduceAdd,Nat.reduceLeDiff,Nat.reduceMul,Nat.reduceLT,Int.reduceEq,Int.reduceLT,Int.reduceLE,k0,k1,k2]
       refine draw_intro [0, 0, 0, 0, 0, 0, 0, 0, 0, 0, 0, 0, 0, 0, 0, 0, 0, 0, 2, 0] AHeap.none (by kernel_rfl) none_le ?_
       rcases hg2 with ⟨e1, _, _⟩ | ⟨bf, clf, hbf, rfl, rfl⟩
       ·have := ok.cur; rw [e1] at this; simp at this; omega
       have hb' := hb
       have hn3 := hn2
       rw [set_none] at hb' hn3
       have w1 := hb'.1
       have w2 := hb'.2.1
       have w3 := hn3.1
       have w4 := hn3.2.1
       have i1 := ok.cur
       have i2 : s.cur.toNat < s.fs.length := by omega
       simp +contextual -dsimp -implicitDefEqProofs (maxSteps:=5000000) only [go_sem,reduceIte,reduceCtorEq,Nat.reduceEqDiff,Nat.reduceBEq,Nat.reduceAdd,Nat.reduceLeDiff,Nat.reduceMul,Nat.reduceLT,Int.reduceEq,Int.reduceLT,Int.reduceLE,k0,k1,k2,hc,n1,n2,w1,w2,w3,w4,i1,i2]
       have hcl := ok.cls s.cur.toNat i2
       refine (c_is t cl _ e.a _ hT hcl.2).det ?_
       simp +contextual -dsimp -implicitDefEqProofs (maxSteps:=5000000) only [go_sem,reduceIte,reduceCtorEq,Nat.reduceEqDiff,Nat.reduceBEq,Nat.reduceAdd,Nat.reduceLeDiff,Nat.reduceMul,Nat.reduceLT,Int.reduceEq,Int.reduceLT,Int.reduceLE,k0,k1,k2,hc,n1,n2,w1,w2,w3,w4,i1,i2]
       refine ⟨fun hq => ?_, fun hq => ?_⟩
       ·have hs' : stepX t s e = { s with cur := -1 } := by
         simp only [stepX,k2,hc,isF,hq,and_self,if_true]; rfl
        exact go { s with cur := -1 } _ hs' hMk hn
       ·have hs' : stepX t s e = s := by
         simp only [stepX,k2,hc,isF,hq,and_self,if_true]; rfl
        exact go s _ hs' hMk hn
      ·have hs' : stepX t s e = s := by simp only [stepX,k0,k1,k2,hc,if_true,if_false,false_and]; rfl
       simp +contextual -dsimp -implicitDefEqProofs (maxSteps:=5000000) only [go_sem,reduceIte,reduceCtorEq,Nat.reduceEqDiff,Nat.reduceBEq,Nat.reduceAdd,Nat.reduceLeDiff,Nat.reduceMul,Nat.reduceLT,Int.reduceEq,Int.reduceLT,Int.reduceLE,k0,k1,k2]
       refine draw_intro [0, 0, 0, 0, 0, 0, 0, 0, 0, 0, 0, 0, 0, 0, 0, 0, 0, 0, 2, 0] AHeap.none (by kernel_rfl) none_le ?_
       simp +contextual -dsimp -implicitDefEqProofs (maxSteps:=5000000) only [go_sem,reduceIte,reduceCtorEq,Nat.reduceEqDiff,Nat.reduceBEq,Nat.reduceAdd,Nat.reduceLeDiff,Nat.reduceMul,Nat.reduceLT,Int.reduceEq,Int.reduceLT,Int.reduceLE,k0,k1,k2,hc,n1,n2]
       exact go s _ hs' hMk hn
     ·by_cases k3 : e.kind = 3
      ·simp +contextual -dsimp -implicitDefEqProofs (maxSteps:=5000000) only [go_sem,reduceIte,reduceCtorEq,Nat.reduceEqDiff,Nat.reduceBEq,Nat.reduceAdd,Nat.reduceLeDiff,Nat.reduceMul,Nat.reduceLT,Int.reduceEq,Int.reduceLT,Int.reduceLE,k0,k1,k2,k3]
       refine (c_raise _ _ bm _ p s.log s.fs first e.a e.b s.cur (mach_in (K := ⟨1, 3, [[I s.cur]]⟩) hMk hn) (by have := ok.len; omega) ok.ho ok.cur).mono ?_
       rintro _ H9 ⟨rfl, hM9⟩
       obtain ⟨H10, rfl, hM10, hn10⟩ := mach_out hM9 hFk
       have hs' : stepX t s e = { s with fs := raiseF s.fs e.a e.b s.cur, cur := s.fs.length } := by simp only [stepX,k0,k1,k2,k3,if_true,if_false]; rfl
       simp +contextual -dsimp -implicitDefEqProofs (maxSteps:=5000000) only [go_sem,reduceIte,reduceCtorEq,Nat.reduceEqDiff,Nat.reduceBEq,Nat.reduceAdd,Nat.reduceLeDiff,Nat.reduceMul,Nat.reduceLT,Int.reduceEq,Int.reduceLT,Int.reduceLE,k0,k1,k2,k3]
       exact go { s with fs := raiseF s.fs e.a e.b s.cur, cur := s.fs.length } _ hs' hM10 hn10
      ·have hs' : stepX t s e = s := by simp only [stepX,k0,k1,k2,k3,if_false]
       simp +contextual -dsimp -implicitDefEqProofs (maxSteps:=5000000) only [go_sem,reduceIte,reduceCtorEq,Nat.reduceEqDiff,Nat.reduceBEq,Nat.reduceAdd,Nat.reduceLeDiff,Nat.reduceMul,Nat.reduceLT,Int.reduceEq,Int.reduceLT,Int.reduceLE,k0,k1,k2,k3]
       exact go s _ hs' hMk hn
  ·
   rintro H' ⟨s, H'', hsk, ok, hMk, hn, rfl⟩
   rw [backL_length, List.take_of_length_le (by simp)] at hsk
   have hfin : closeX t l x = s := by rw [closeX, hsk]
   simp +contextual -dsimp -implicitDefEqProofs (maxSteps:=5000000) only [go_sem,reduceIte,reduceCtorEq,Nat.reduceEqDiff,Nat.reduceBEq,Nat.reduceAdd,Nat.reduceLeDiff,Nat.reduceMul,Nat.reduceLT,Int.reduceEq,Int.reduceLT,Int.reduceLE]
   refine retR_less (l := [I s.cur]) (H' := H'') ?_ (le_set hn) ⟨by rw [hfin]; rfl, by rw [hfin]; exact hMk⟩
   simp only [resA,go_sem,reduceIte,reduceCtorEq,Nat.reduceEqDiff,Nat.reduceBEq,Nat.reduceAdd,Nat.reduceLeDiff,Nat.reduceMul,Nat.reduceLT,Int.reduceEq,Int.reduceLT,Int.reduceLE]
end
section
open Go Go.Sim
set_option maxRecDepth 100000

theorem c_Sort (H : AHeap) (b : Nat) (ty : TypeId) (l : List Int) (cl : Bool) {Q : AV → AHeap → Prop} (hb : H b = some ⟨1, ty, l.map rI⟩) (hl : l.length < 4611686018427387904) (k : Q (.tup []) (H.set b ⟨1, ty, (sortI l).map rI⟩)) :
  ACalls Tryz.prog 173 [.sl b 1 0 l.length cl] H Q :=
 acalls_sort (by kernel_rfl) Tryz.slices_Sort_int hb hl k
theorem c_SortG (H0 H : AHeap) (x : AV) (l : List Int) (hg : Grow rI 1 3 H0 H x l) (hn : l ≠ []) (hl : l.length < 4611686018427387904) :
  ACalls Tryz.prog 173 [x] H fun r H' => r = .tup [] ∧ Grow rI 1 3 H0 H' x (sortI l) := by
 rcases hg with ⟨e, _, _⟩ | ⟨b, cl, hb, rfl, rfl⟩
 ·exact absurd e hn
 ·refine c_Sort _ b 3 l cl (AHeap.set_self ..) hl ⟨rfl, .inr ⟨b, cl, hb, by rw [sortI_len], set_set⟩⟩

def causeOf (h : List Fault) (a : Int) : Int := (h.getD a.toNat default).cause
def addF (out : List Int) (g : Int) : List Int := if 0 ≤ g ∧ (out.any fun x => decide (g = x)) = false then out ++ [g] else out
def bfsG (h : List Fault) : Nat → Nat → List Int → List Int
 | 0, _, out => out
 | n + 1, i, out => if i < out.length then bfsG h n (i + 1) (addF (addF out (causeOf h (out.getD i default))) (ctxOf h (out.getD i default))) else out
def bfsF (h : List Fault) (f : Int) : List Int := bfsG h (h.length + 1) 0 [f]
structure Nums (n : Nat) (out : List Int) : Prop where
 mem : ∀ a ∈ out, 0 ≤ a ∧ a < n
 free : freeN n out + out.length ≤ n
theorem Nums.add {n : Nat} {out : List Int} (h : Nums n out) {g : Int} (hg : g < n) : Nums n (addF out g) := by
 unfold addF
 split
 ·rename_i hc
  refine ⟨fun a ha => ?_, ?_⟩
  ·rcases List.mem_append.1 ha with q | q
   ·exact h.mem a q
   ·simp at q; subst q; exact ⟨hc.1, hg⟩
  ·have := freeN_lt hc.1 hg hc.2
   have := h.free
   simp; omega
 ·exact h
theorem Nums.one {n : Nat} {f : Int} (h0 : 0 ≤ f) (h1 : f < n) : Nums n [f] := by
 refine ⟨fun a ha => by simp at ha; subst ha; exact ⟨h0, h1⟩, ?_⟩
 have := freeN_lt (out := []) h0 h1 rfl
 have := freeN_nil n
 simp at *; omega
theorem addF_len (out : List Int) (g : Int) : out.length ≤ (addF out g).length := by
 unfold addF; split <;> simp

theorem c_mreach (h : List Fault) (cl : Bool) (f : Int) (H : AHeap) (hl : h.length ≤ 1000000) (h0 : 0 ≤ f) (h1 : f < h.length) (hlk : ∀ k, k < h.length → (h.getD k default).cause < h.length ∧ (h.getD k default).ctx < h.length) :
  ACalls Tryz.prog 136 [aHeap h cl, I f] H fun r H' => Grow rI 1 3 H H' r (sortI (bfsF h f)) := by
 refine acalls_of0 Tryz.func136 rfl (by kernel_rfl) rfl rfl (awp_sound (fz := fun _ => []) (im := fun s => s == 2 || s == 51) mixed _ _ _ _ (by kernel_rfl) ?_)
 simp +contextual -dsimp -implicitDefEqProofs (maxSteps:=5000000) only [go_sem,reduceIte,reduceCtorEq,Nat.reduceEqDiff,Nat.reduceBEq,Nat.reduceAdd,Nat.reduceLeDiff,Nat.reduceMul,Nat.reduceLT,Int.reduceEq,Int.reduceLT,Int.reduceLE]
 intro b5 hb5
 refine aloop mixed (fz := fun _ => []) (im := fun s => s == 2 || s == 51) (by kernel_rfl) (fun m tm H' => ∃ (i : Nat) (out : List Int) (x : AV), m = h.length + 1 - i ∧ i ≤ out.length ∧ Nums h.length out ∧ out ≠ [] ∧ Grow rI 1 3 H H' x out ∧ tm 2 = .vptr [[.vsl (h.map rFault) cl]] 0 0 ∧ tm 5 = x ∧ tm 6 = I i ∧ bfsG h (h.length + 1 - i) i out = bfsF h f) (h.length + 1) ⟨0, [f], .sl b5 1 0 1 true, rfl, by simp, Nums.one h0 h1, by simp, .inr ⟨b5, true, hb5, rfl, rfl⟩, ?_⟩ ?_
 ·simp +contextual -dsimp -implicitDefEqProofs (maxSteps:=5000000) only [go_sem,reduceIte,reduceCtorEq,Nat.reduceEqDiff,Nat.reduceBEq,Nat.reduceAdd,Nat.reduceLeDiff,Nat.reduceMul,Nat.reduceLT,Int.reduceEq,Int.reduceLT,Int.reduceLE]
  rfl
 ·rintro m tm H' ⟨i, out, x, rfl, hi, hn, hne, hg, t2, t5, t6, he⟩
  have hlen := grow_len te29 hg
  have hol : out.length ≤ h.length := by have := hn.free; omega
  simp +contextual -dsimp -implicitDefEqProofs (maxSteps:=5000000) only [go_sem,reduceIte,reduceCtorEq,Nat.reduceEqDiff,Nat.reduceBEq,Nat.reduceAdd,Nat.reduceLeDiff,Nat.reduceMul,Nat.reduceLT,Int.reduceEq,Int.reduceLT,Int.reduceLE,t2,t5,t6,hlen]
  refine ⟨fun hlt => ?_, fun hlt => ?_⟩
  ·refine draw_intro [0, 0, 0, 0, 0, 0, 0, 0, 0, 0, 0, 0, 0, 0, 0, 0, 0, 0, 0, 0, 0] AHeap.none (by kernel_rfl) none_le ?_
   rcases hg with ⟨e1, _, _⟩ | ⟨b, cl', hb, rfl, rfl⟩
   ·exact absurd e1 hne
   have hm := hn.mem (out.getD i default) (by rw [List.getD_eq_getElem?_getD, List.getElem?_eq_getElem hlt]; exact List.getElem_mem hlt)
   have i1 := hm.1
   have i2 := hm.2
   have i3 : (out.getD i default).toNat < h.length := by omega
   have hk1 := (hlk _ i3).1
   have hk2 := (hlk _ i3).2
   simp +contextual -dsimp -implicitDefEqProofs (maxSteps:=5000000) only [go_sem,reduceIte,reduceCtorEq,Nat.reduceEqDiff,Nat.reduceBEq,Nat.reduceAdd,Nat.reduceLeDiff,Nat.reduceMul,Nat.reduceLT,Int.reduceEq,Int.reduceLT,Int.reduceLE,t2,t5,t6,hlt,i1,i2,i3]
   have hg : Grow rI 1 3 H (H.set b ⟨1, 3, out.map rI⟩) (.sl b 1 0 out.length cl') out := .inr ⟨b, cl', hb, rfl, rfl⟩
   generalize H.set b ⟨1, 3, out.map rI⟩ = HH at hg ⊢
   generalize hx : AV.sl b 1 0 out.length cl' = x at hg ⊢
   refine aloop mixed (fz := fun _ => []) (im := fun s => s == 2 || s == 51) (by kernel_rfl) (fun m tm H' => ∃ (j : Nat) (o : List Int) (x : AV), m = 2 - j ∧ j ≤ 2 ∧ Grow rI 1 3 H H' x o ∧ Nums h.length o ∧ o ≠ [] ∧ out.length ≤ o.length ∧ tm 2 = .vptr [[.vsl (h.map rFault) cl]] 0 0 ∧ tm 5 = x ∧ tm 6 = I i ∧ tm 35 = .vsl ([causeOf h (out.getD i default), ctxOf h (out.getD i default)].map rI) true ∧ tm 36 = I 2 ∧ tm 37 = I j ∧ o = (if j = 0 then out else if j = 1 then addF out (causeOf h (out.getD i default)) else addF (addF out (causeOf h (out.getD i default))) (ctxOf h (out.getD i default)))) 2 ⟨0, out, x, rfl, by simp, hg, hn, hne, Nat.le_refl _, ?_⟩ ?_
   ·simp +contextual -dsimp -implicitDefEqProofs (maxSteps:=5000000) only [go_sem,reduceIte,reduceCtorEq,Nat.reduceEqDiff,Nat.reduceBEq,Nat.reduceAdd,Nat.reduceLeDiff,Nat.reduceMul,Nat.reduceLT,Int.reduceEq,Int.reduceLT,Int.reduceLE,t2,t5,t6,hlt,i1,i2,i3,hx]
    simp [causeOf, ctxOf]
   ·rintro m tm H' ⟨j, o, x', rfl, hj, hg', hn', hne', hol', t2, t5, t6, t35, t36, t37, ho⟩
    have hol2 : o.length ≤ h.length := by have := hn'.free; omega
    generalize hL : [causeOf h (out.getD i default), ctxOf h (out.getD i default)] = L at t35
    have hLl : L.length = 2 := by rw [← hL]; rfl
    simp +contextual -dsimp -implicitDefEqProofs (maxSteps:=5000000) only [go_sem,reduceIte,reduceCtorEq,Nat.reduceEqDiff,Nat.reduceBEq,Nat.reduceAdd,Nat.reduceLeDiff,Nat.reduceMul,Nat.reduceLT,Int.reduceEq,Int.reduceLT,Int.reduceLE,t2,t5,t6,t35,t36,t37,hLl]
    refine ⟨fun hj2 => ⟨by omega, ?_⟩, fun hj2 => ?_⟩
    ·have hc : ∀ g, g = L.getD j default → g < h.length := by
      rintro g rfl
      have : j = 0 ∨ j = 1 := by omega
      rcases this with rfl | rfl
      ·rw [← hL]; exact hk1
      ·rw [← hL]; exact hk2
     have hnx : (if j + 1 = 0 then out else if j + 1 = 1 then addF out (causeOf h (out.getD i default)) else addF (addF out (causeOf h (out.getD i default))) (ctxOf h (out.getD i default))) = addF o (L.getD j default) := by
      have : j = 0 ∨ j = 1 := by omega
      rcases this with rfl | rfl
      ·rw [← hL, ho]; rfl
      ·rw [← hL, ho]; rfl
     have hgl := hc _ rfl
     generalize L.getD j default = g at hgl hnx
     refine ⟨by omega, fun hg0 => (c_ContainsG o x' g H H' hg').det ?_, fun hg0 => ?_⟩
     ·cases ha : o.any fun x => decide (g = x)
      ·simp +contextual -dsimp -implicitDefEqProofs (maxSteps:=5000000) only [go_sem,reduceIte,reduceCtorEq,Nat.reduceEqDiff,Nat.reduceBEq,Nat.reduceAdd,Nat.reduceLeDiff,Nat.reduceMul,Nat.reduceLT,Int.reduceEq,Int.reduceLT,Int.reduceLE,t2,t5,t6,t35,t36,t37,hLl,hg0]
       have hadd : addF o g = o ++ [g] := by rw [addF, if_pos ⟨hg0, ha⟩]
       refine grow_append (m := [g]) te29 ti3 rI_len (by decide) hg' (by simp; omega) (by simp; omega) rfl fun x2 H2 hg2 => ?_
       simp +contextual -dsimp -implicitDefEqProofs (maxSteps:=5000000) only [go_sem,reduceIte,reduceCtorEq,Nat.reduceEqDiff,Nat.reduceBEq,Nat.reduceAdd,Nat.reduceLeDiff,Nat.reduceMul,Nat.reduceLT,Int.reduceEq,Int.reduceLT,Int.reduceLE,t2,t5,t6,t35,t36,t37,hLl,hg0]
       rw [← hadd] at hg2
       exact ⟨2 - (j + 1), by omega, j + 1, addF o g, x2, rfl, by omega, hg2, hn'.add hgl, by rw [hadd]; simp, Nat.le_trans hol' (addF_len _ _), rfl, I_wrap (by simp) (by omega) (by omega), hnx.symm⟩
      ·simp +contextual -dsimp -implicitDefEqProofs (maxSteps:=5000000) only [go_sem,reduceIte,reduceCtorEq,Nat.reduceEqDiff,Nat.reduceBEq,Nat.reduceAdd,Nat.reduceLeDiff,Nat.reduceMul,Nat.reduceLT,Int.reduceEq,Int.reduceLT,Int.reduceLE,t2,t5,t6,t35,t36,t37,hLl,hg0]
       exact ⟨2 - (j + 1), by omega, j + 1, o, x', rfl, by omega, hg', hn', hne', hol', rfl, I_wrap (by simp) (by omega) (by omega), by rw [hnx, addF, if_neg (by rw [ha]; simp)]⟩
     ·exact ⟨2 - (j + 1), by omega, j + 1, o, x', rfl, by omega, hg', hn', hne', hol', rfl, I_wrap (by simp) (by omega) (by omega), by rw [hnx, addF, if_neg (fun q => hg0 q.1)]⟩
    ·have hj3 : j = 2 := by omega
     subst hj3
     have hq : h.length + 1 - i = (h.length + 1 - (i + 1)) + 1 := by omega
     rw [hq, bfsG, if_pos hlt] at he
     have ho' : o = addF (addF out (causeOf h (out.getD i default))) (ctxOf h (out.getD i default)) := ho
     exact ⟨_, by omega, i + 1, o, x', rfl, by omega, hn', hne', hg', rfl, I_wrap (by simp) (by omega) (by omega), by rw [ho']; exact he⟩
  ·refine (c_SortG H H' x out hg hne (by omega)).mono ?_
   rintro _ H'' ⟨rfl, hg'⟩
   simp +contextual -dsimp -implicitDefEqProofs (maxSteps:=5000000) only [go_sem,reduceIte,reduceCtorEq,Nat.reduceEqDiff,Nat.reduceBEq,Nat.reduceAdd,Nat.reduceLeDiff,Nat.reduceMul,Nat.reduceLT,Int.reduceEq,Int.reduceLT,Int.reduceLE,t2,t5,t6,hlen]
   refine (c_ClipG (sortI out) x H H'' hg').mono fun r H3 hg3 => ?_
   simp +contextual -dsimp -implicitDefEqProofs (maxSteps:=5000000) only [go_sem,reduceIte,reduceCtorEq,Nat.reduceEqDiff,Nat.reduceBEq,Nat.reduceAdd,Nat.reduceLeDiff,Nat.reduceMul,Nat.reduceLT,Int.reduceEq,Int.reduceLT,Int.reduceLE,t2,t5,t6,hlen]
   have : bfsF h f = out := by
    rw [← he]
    cases hq : h.length + 1 - i with
    | zero => rfl
    | succ q => rw [bfsG, if_neg hlt]
   rw [this]; exact hg3
end
section
open Go Go.Sim
set_option maxRecDepth 100000

theorem c_misolate0 (h : List Fault) (cl : Bool) (f : Int) (H : AHeap) (hl : h.length ≤ 999999) (h0 : 0 ≤ f) (h1 : f < h.length) (hlk : ∀ k, k < h.length → (h.getD k default).cause < h.length ∧ (h.getD k default).ctx < h.length) (hm : ∀ a ∈ sortI (bfsF h f), 0 ≤ a ∧ a < h.length) (hll : (sortI (bfsF h f)).length ≤ 999999) :
  ACalls Tryz.prog 93 [aHeap h cl, I f] H fun r H' => ∃ x, r = .tup [.agg [x], I (idxF (fun x => decide (f = x)) (sortI (bfsF h f)))] ∧ Grow rFault 5 103 H H' x (isoL h (sortI (bfsF h f))) := by
 refine acalls_of1 Tryz.func93 rfl (by kernel_rfl) rfl rfl (awp_sound (fz := fun r => if r = 7 then [10] else []) (im := fun s => s == 2 || s == 42) mixed _ _ _ _ (by kernel_rfl) ?_)
 simp +contextual -dsimp -implicitDefEqProofs (maxSteps:=5000000) only [go_sem,reduceIte,reduceCtorEq,Nat.reduceEqDiff,Nat.reduceBEq,Nat.reduceAdd,Nat.reduceLeDiff,Nat.reduceMul,Nat.reduceLT,Int.reduceEq,Int.reduceLT,Int.reduceLE]
 intro b4 hb4
 refine acalls_frz (c_mreach h cl f _ (by omega) h0 h1 hlk) fun cl1 => ?_
 generalize sortI (bfsF h f) = L at hm hll ⊢
 simp +contextual -dsimp -implicitDefEqProofs (maxSteps:=5000000) only [go_sem,reduceIte,reduceCtorEq,Nat.reduceEqDiff,Nat.reduceBEq,Nat.reduceAdd,Nat.reduceLeDiff,Nat.reduceMul,Nat.reduceLT,Int.reduceEq,Int.reduceLT,Int.reduceLE]
 refine ⟨by omega, by omega, ?_⟩
 rintro bx ⟨x1, x2, hbx⟩ b7 ⟨n1, n2, n3, n4, hb7⟩
 have hgx : Grow rFault 5 103 H (H.set bx ⟨5, 103, []⟩) (.sl bx 5 0 0 false) [] := .inr ⟨bx, false, hbx, rfl, rfl⟩
 have hcm : ((H.set b4 ⟨1, 32, [[.vsl [] true]]⟩).set bx ⟨5, 103, []⟩).set b7 ⟨1, 32, [[.sl bx 5 0 0 false]]⟩ = ((H.set bx ⟨5, 103, []⟩).set b4 ⟨1, 32, [[.vsl [] true]]⟩).set b7 ⟨1, 32, [[.sl bx 5 0 0 false]]⟩ := by rw [set_comm (H := H) x2]
 rw [hcm]
 have e40 : (H.set bx ⟨5, 103, []⟩) b4 = none := by rw [set_other x2]; exact hb4
 have e70 : (H.set bx ⟨5, 103, []⟩) b7 = none := by rw [set_other n1]; exact hb7
 generalize H.set bx ⟨5, 103, []⟩ = H20 at hgx e40 e70 ⊢
 generalize AV.sl bx 5 0 0 false = x0 at hgx ⊢
 refine aloop mixed (fz := fun r => if r = 7 then [10] else []) (im := fun s => s == 2 || s == 42) (by kernel_rfl) (fun m tm H' => ∃ (k : Nat) (H2 : AHeap) (x : AV), m = L.length - k ∧ k ≤ L.length ∧ Grow rFault 5 103 H H2 x ((L.take k).map (isoAt h L)) ∧ H2 b4 = none ∧ H2 b7 = none ∧ H' = (H2.set b4 ⟨1, 32, [[.vsl [] true]]⟩).set b7 ⟨1, 32, [[x]]⟩ ∧
  tm 1 = I f ∧ tm 2 = .vptr [[.vsl (h.map rFault) cl]] 0 0 ∧ tm 4 = .ptr b4 1 0 0 ∧ tm 6 = .vsl (L.map rI) cl1 ∧ tm 7 = .ptr b7 1 0 0 ∧ tm 18 = .vsl (L.map rI) cl1 ∧ tm 19 = I L.length ∧ tm 20 = I k) L.length ⟨0, H20, x0, rfl, by omega, by simpa using hgx, e40, e70, rfl, ?_⟩ ?_
 ·simp +contextual -dsimp -implicitDefEqProofs (maxSteps:=5000000) only [go_sem,reduceIte,reduceCtorEq,Nat.reduceEqDiff,Nat.reduceBEq,Nat.reduceAdd,Nat.reduceLeDiff,Nat.reduceMul,Nat.reduceLT,Int.reduceEq,Int.reduceLT,Int.reduceLE]
 ·rintro m tm H' ⟨k, H2, x, rfl, hk, hg, e4, e7, rfl, t1, t2, t4, t6, t7, t18, t19, t20⟩
  obtain ⟨r1, r2⟩ := one_grow hg
  simp +contextual -dsimp -implicitDefEqProofs (maxSteps:=5000000) only [go_sem,reduceIte,reduceCtorEq,Nat.reduceEqDiff,Nat.reduceBEq,Nat.reduceAdd,Nat.reduceLeDiff,Nat.reduceMul,Nat.reduceLT,Int.reduceEq,Int.reduceLT,Int.reduceLE,t1,t2,t4,t6,t7,t18,t19,t20,r1,r2,n3,n4]
  refine ⟨fun hk0 => ?_, fun hk0 => ?_⟩
  ·have hx := hm (L.getD k default) (by rw [List.getD_eq_getElem?_getD, List.getElem?_eq_getElem hk0]; exact List.getElem_mem hk0)
   have i0 := hx.1
   have i2 := hx.2
   have i1 : (L.getD k default).toNat < h.length := by omega
   simp +contextual -dsimp -implicitDefEqProofs (maxSteps:=5000000) only [go_sem,reduceIte,reduceCtorEq,Nat.reduceEqDiff,Nat.reduceBEq,Nat.reduceAdd,Nat.reduceLeDiff,Nat.reduceMul,Nat.reduceLT,Int.reduceEq,Int.reduceLT,Int.reduceLE,t1,t2,t4,t6,t7,t18,t19,t20,r1,r2,n3,n4,hk0,i0,i2,i1]
   rintro b9 ⟨m1, m2, m3, m4, hb9⟩
   refine draw_intro [0, 0, 0, 3, 0, 0, 1, 2, 0, 2, 0, 2] _ (by kernel_rfl) (AHeap.le_refl _) ?_
   simp +contextual -dsimp -implicitDefEqProofs (maxSteps:=5000000) only [go_sem,reduceIte,reduceCtorEq,Nat.reduceEqDiff,Nat.reduceBEq,Nat.reduceAdd,Nat.reduceLeDiff,Nat.reduceMul,Nat.reduceLT,Int.reduceEq,Int.reduceLT,Int.reduceLE,t1,t2,t4,t6,t7,t18,t19,t20,r1,r2,n3,n4,hk0,i0,i2,i1,m1,m2,m3,m4]
   refine (c_Index _ _ _ _).det ?_
   simp +contextual -dsimp -implicitDefEqProofs (maxSteps:=5000000) only [go_sem,reduceIte,reduceCtorEq,Nat.reduceEqDiff,Nat.reduceBEq,Nat.reduceAdd,Nat.reduceLeDiff,Nat.reduceMul,Nat.reduceLT,Int.reduceEq,Int.reduceLT,Int.reduceLE,t1,t2,t4,t6,t7,t18,t19,t20,r1,r2,n3,n4,hk0,i0,i2,i1,m1,m2,m3,m4]
   refine (c_Index _ _ _ _).det ?_
   simp +contextual -dsimp -implicitDefEqProofs (maxSteps:=5000000) only [go_sem,reduceIte,reduceCtorEq,Nat.reduceEqDiff,Nat.reduceBEq,Nat.reduceAdd,Nat.reduceLeDiff,Nat.reduceMul,Nat.reduceLT,Int.reduceEq,Int.reduceLT,Int.reduceLE,t1,t2,t4,t6,t7,t18,t19,t20,r1,r2,n3,n4,hk0,i0,i2,i1,m1,m2,m3,m4,hb9]
   have e74 : (H2.set b4 ⟨1, 32, [[.vsl [] true]]⟩) b7 = none := by rw [set_other n3]; exact e7
   refine grow_append (m := [isoAt h L (L.getD k default)]) te30 ti103 rFault_len (by decide) (grow_in (grow_in hg e4) e74) (by simp; omega) (by simp; omega) rfl fun x' H' hg' => ?_
   have f4 := grow_none hg e4
   have f7 := grow_none hg e7
   obtain ⟨G1, hg1, rfl, u7⟩ := grow_out hg' (by rw [set_other n3]; exact f7)
   obtain ⟨G3, hg3, rfl, u4⟩ := grow_out hg1 f4
   obtain ⟨r3, r4⟩ := one_grow hg3
   rw [set_other n3] at u7
   simp +contextual -dsimp -implicitDefEqProofs (maxSteps:=5000000) only [go_sem,reduceIte,reduceCtorEq,Nat.reduceEqDiff,Nat.reduceBEq,Nat.reduceAdd,Nat.reduceLeDiff,Nat.reduceMul,Nat.reduceLT,Int.reduceEq,Int.reduceLT,Int.reduceLE,t1,t2,t4,t6,t7,t18,t19,t20,r1,r2,r3,r4,n3,n4,hk0,i0,i2,i1,m1,m2,m3,m4]
   exact ⟨_, by omega, k + 1, G3, x', rfl, hk0, by rw [List.take_succ_eq_append_getElem hk0, List.map_append]; simpa [List.getD_eq_getElem?_getD, hk0] using hg3, u4, u7, rfl, I_wrap (by omega) (by omega) (by omega)⟩
  ·refine draw_intro [1, 0, 0, 3, 2, 0] _ (by kernel_rfl) (AHeap.le_refl _) ?_
   simp +contextual -dsimp -implicitDefEqProofs (maxSteps:=5000000) only [go_sem,reduceIte,reduceCtorEq,Nat.reduceEqDiff,Nat.reduceBEq,Nat.reduceAdd,Nat.reduceLeDiff,Nat.reduceMul,Nat.reduceLT,Int.reduceEq,Int.reduceLT,Int.reduceLE,t1,t2,t4,t6,t7,t18,t19,t20,r1,r2,n3,n4]
   refine (c_Index _ _ _ _).det ?_
   simp +contextual -dsimp -implicitDefEqProofs (maxSteps:=5000000) only [go_sem,reduceIte,reduceCtorEq,Nat.reduceEqDiff,Nat.reduceBEq,Nat.reduceAdd,Nat.reduceLeDiff,Nat.reduceMul,Nat.reduceLT,Int.reduceEq,Int.reduceLT,Int.reduceLE,t1,t2,t4,t6,t7,t18,t19,t20,r1,r2,n3,n4]
   rw [List.take_of_length_le (by omega)] at hg
   refine retR_less (l := [.agg [x], I (idxF (fun x => decide (f = x)) L)]) (H' := H2) ?_ (fun c k hc => ?_) ⟨x, rfl, hg⟩
   ·simp only [resA,go_sem,reduceIte,reduceCtorEq,Nat.reduceEqDiff,Nat.reduceBEq,Nat.reduceAdd,Nat.reduceLeDiff,Nat.reduceMul,Nat.reduceLT,Int.reduceEq,Int.reduceLT,Int.reduceLE,n3,n4,t4,ld_o,ldO_1]
   ·have c1 : c ≠ b4 := fun e => by rw [e, e4] at hc; cases hc
    have c2 : c ≠ b7 := fun e => by rw [e, e7] at hc; cases hc
    rw [set_other c2, set_other c1]; exact hc
theorem rFault_nov (y : Fault) : ∀ c ∈ rFault y, NoV c := by
 intro c hc
 simp only [rFault,List.mem_cons,List.not_mem_nil,or_false] at hc
 rcases hc with rfl | rfl | rfl | rfl | rfl <;> exact .lit _
theorem bfsF_ne (h : List Fault) (f : Int) : bfsF h f ≠ [] := by
 have key : ∀ (n i : Nat) (out : List Int), out ≠ [] → bfsG h n i out ≠ [] := by
  intro n
  induction n with
  | zero => intro i out hne; exact hne
  | succ n ih =>
   intro i out hne
   simp only [bfsG]
   split
   ·refine ih _ _ fun e => hne ?_
    have h1 := addF_len out (causeOf h (out.getD i default))
    have h2 := addF_len (addF out (causeOf h (out.getD i default))) (ctxOf h (out.getD i default))
    rw [e] at h2
    exact List.eq_nil_of_length_eq_zero (by simp only [List.length_nil] at h2; omega)
   ·exact hne
 exact key _ _ _ (by simp)
theorem sortI_ne {l : List Int} (h : l ≠ []) : sortI l ≠ [] := fun e => h (List.eq_nil_of_length_eq_zero (by rw [← sortI_len, e]; rfl))
theorem bfsF_nums {h : List Fault} (hlk : ∀ k, k < h.length → (h.getD k default).cause < h.length ∧ (h.getD k default).ctx < h.length) {f : Int} (h0 : 0 ≤ f) (h1 : f < h.length) : Nums h.length (bfsF h f) := by
 have key : ∀ (n i : Nat) (out : List Int), Nums h.length out → Nums h.length (bfsG h n i out) := by
  intro n
  induction n with
  | zero => intro i out h; exact h
  | succ n ih =>
   intro i out hn
   simp only [bfsG]
   split
   ·rename_i hi
    have hm := hn.mem (out.getD i default) (by rw [List.getD_eq_getElem?_getD, List.getElem?_eq_getElem hi]; exact List.getElem_mem hi)
    have hk := hlk (out.getD i default).toNat (by omega)
    exact ih _ _ ((hn.add hk.1).add hk.2)
   ·exact hn
 exact key _ _ _ (Nums.one h0 h1)
theorem sortI_mem {l : List Int} {a : Int} : a ∈ sortI l ↔ a ∈ l := List.mem_mergeSort
theorem heapOk_links {fs : List Fault} (ho : heapOk fs) : ∀ k, k < fs.length → (fs.getD k default).cause < fs.length ∧ (fs.getD k default).ctx < fs.length := fun k hk => by
 have := ho k hk; omega

theorem c_ClipX (l : List Int) (x : AV) (H0 H : AHeap) (hg : Grow rI 1 3 H0 H x l) : ∃ x', Grow rI 1 3 H0 H x' l ∧ ∀ K, ACalls Tryz.prog 63 [x] K fun r K' => r = x' ∧ K' = K := by
 rcases hg with ⟨rfl, rfl, rfl⟩ | ⟨b, cl, hb, rfl, rfl⟩
 ·exact ⟨.vsl [] true, .inl ⟨rfl, rfl, rfl⟩, fun K => c_ClipV [] true K⟩
 ·refine ⟨.sl b 1 0 l.length true, .inr ⟨b, true, hb, rfl, rfl⟩, fun K => ?_⟩
  refine acalls_of0 Tryz.func63 rfl (by kernel_rfl) rfl rfl (awp_sound (fz := fun _ => []) (im := fun _ => false) mixed _ _ _ _ (by kernel_rfl) ?_)
  simp +contextual -dsimp -implicitDefEqProofs (maxSteps:=5000000) only [go_sem,reduceIte,reduceCtorEq,Nat.reduceEqDiff,Nat.reduceBEq,Nat.reduceAdd,Nat.reduceLeDiff,Nat.reduceMul,Nat.reduceLT,Int.reduceEq,Int.reduceLT,Int.reduceLE]
  simp
theorem c_misolateG (fs : List Fault) (x : AV) (val : Int) (H0 H : AHeap) (hg : Grow rFault 5 103 H0 H x fs) (K : ABlk) (c : Nat) (ho : heapOk fs) (hl : fs.length ≤ 999999) (h0 : 0 ≤ val) (h1 : val < fs.length) :
  ACalls Tryz.prog 93 [.agg [x], I val] H fun r H' => ∃ y, r = .tup [.agg [y], I (idxF (fun x => decide (val = x)) (sortI (bfsF fs val)))] ∧ Grow rFault 5 103 H H' y (isoL fs (sortI (bfsF fs val))) := by
 obtain ⟨cl, hz⟩ := grow_froz hg
 have hn := bfsF_nums (heapOk_links ho) h0 h1
 have hm : ∀ a ∈ sortI (bfsF fs val), 0 ≤ a ∧ a < fs.length := fun a ha => hn.mem a (sortI_mem.1 ha)
 have hlen : (sortI (bfsF fs val)).length ≤ 999999 := by rw [sortI_len]; have := hn.free; omega
 refine acalls_borrowX [aHeap fs cl, I val] (.cons (.agg rfl ?_) (.cons (.same _) .nil)) (c_misolate0 fs cl val AHeap.none hl h0 h1 (heapOk_links ho) hm hlen) ?_
 ·intro i c c' q1 q2
  cases i with
  | zero => simp at q1 q2; subst q1; subst q2; exact hz
  | succ i => simp at q1
 ·rintro _ K ⟨y, rfl, hy⟩
  have hne : isoL fs (sortI (bfsF fs val)) ≠ [] := fun e => sortI_ne (bfsF_ne fs val) (by simpa [isoL] using e)
  obtain ⟨v1, v2⟩ := grow_nov hy hne rFault_nov
  refine ⟨.tup _ ?_, v2, fun hd => ⟨y, rfl, grow_un hy hd⟩⟩
  intro c hc
  simp only [List.mem_cons,List.not_mem_nil,or_false] at hc
  rcases hc with rfl | rfl
  ·exact .agg _ fun c hc => by simp at hc; subst hc; exact v1
  ·exact .lit _
theorem c_mresult (F H : AHeap) (bm : Nat) (t p : AV) (log : List Int) (fs : List Fault) (first : Int) (ed val : Int) (hM : Mach F H bm t p log fs first) (ho : heapOk fs) (hl : fs.length ≤ 999999) (hv : ed = 2 → 0 ≤ val ∧ val < fs.length) :
  ACalls Tryz.prog 48 [.ptr bm 5 0 0, .agg [I ed, I val]] H fun r H' => ∃ xl xh G1, r = .agg [xl, I ed, I (if ed = 2 then idxF (fun x => decide (val = x)) (sortI (bfsF fs val)) else val), xh] ∧ Grow rI 1 3 F G1 xl log ∧ Grow rFault 5 103 G1 H' xh (if ed = 2 then isoL fs (sortI (bfsF fs val)) else []) := by
 obtain ⟨xl, xf, H1, H2, hF, hg1, hg2, hb, rfl⟩ := hM
 obtain ⟨xl', hgl, hclip⟩ := c_ClipX log xl F H1 hg1
 obtain ⟨r1, r2⟩ := one_grow hgl
 refine acalls_of1 Tryz.func48 rfl (by kernel_rfl) rfl rfl (awp_sound (fz := fun _ => []) (im := fun s => s == 3) mixed _ _ _ _ (by kernel_rfl) ?_)
 simp +contextual -dsimp -implicitDefEqProofs (maxSteps:=5000000) only [go_sem,reduceIte,reduceCtorEq,Nat.reduceEqDiff,Nat.reduceBEq,Nat.reduceAdd,Nat.reduceLeDiff,Nat.reduceMul,Nat.reduceLT,Int.reduceEq,Int.reduceLT,Int.reduceLE]
 rintro b4 ⟨n1, n2, hb4⟩
 refine draw_introQ [4] [0, 0, 0, 1, 4, 0, 1, 0, 1, 0, 3, 2] (fun _ => xl') _ (by kernel_rfl) (AHeap.le_refl _) ?_
 simp +contextual -dsimp -implicitDefEqProofs (maxSteps:=5000000) only [go_sem,reduceIte,reduceCtorEq,Nat.reduceEqDiff,Nat.reduceBEq,Nat.reduceAdd,Nat.reduceLeDiff,Nat.reduceMul,Nat.reduceLT,Int.reduceEq,Int.reduceLT,Int.reduceLE,n1,n2]
 refine ⟨fun H' _ => hclip H', ?_⟩
 simp +contextual -dsimp -implicitDefEqProofs (maxSteps:=5000000) only [go_sem,reduceIte,reduceCtorEq,Nat.reduceEqDiff,Nat.reduceBEq,Nat.reduceAdd,Nat.reduceLeDiff,Nat.reduceMul,Nat.reduceLT,Int.reduceEq,Int.reduceLT,Int.reduceLE,n1,n2,r1,r2]
 rintro b5 ⟨m1, m2, m3, m4, hb5⟩
 have hbm5 : (H2.set bm ⟨5, 129, [[t, p, xl, xf, I first]]⟩) b5 = none := by rw [set_other m3]; exact hb5
 have hbm4 : (H2.set bm ⟨5, 129, [[t, p, xl, xf, I first]]⟩) b4 = none := by rw [set_other n1]; exact hb4
 have hle0 : ∀ K L : ABlk, AHeap.le ((H2.set bm ⟨5, 129, [[t, p, xl, xf, I first]]⟩).set b4 K) (((H2.set bm ⟨5, 129, [[t, p, xl, xf, I first]]⟩).set b4 K).set b5 L) := fun K L => le_set (by rw [set_other m1]; exact hbm5)
 by_cases he : ed = 2
 ·obtain ⟨v1, v2⟩ := hv he
  simp +contextual -dsimp -implicitDefEqProofs (maxSteps:=5000000) only [go_sem,reduceIte,reduceCtorEq,Nat.reduceEqDiff,Nat.reduceBEq,Nat.reduceAdd,Nat.reduceLeDiff,Nat.reduceMul,Nat.reduceLT,Int.reduceEq,Int.reduceLT,Int.reduceLE,n1,n2,m1,m2,m3,m4,r1,r2,he]
  refine ⟨hle0 _ _, ?_⟩
  refine draw_intro [0, 0, 0, 0, 0, 0, 2, 0, 0, 0, 0, 2, 0, 2] AHeap.none (by kernel_rfl) none_le ?_
  simp +contextual -dsimp -implicitDefEqProofs (maxSteps:=5000000) only [go_sem,reduceIte,reduceCtorEq,Nat.reduceEqDiff,Nat.reduceBEq,Nat.reduceAdd,Nat.reduceLeDiff,Nat.reduceMul,Nat.reduceLT,Int.reduceEq,Int.reduceLT,Int.reduceLE,n1,n2,m1,m2,m3,m4,r1,r2,he]
  refine (c_misolateG fs xf val _ _ (grow_in (grow_in (grow_in hg2 hb) hbm4) (by rw [set_other m1]; exact hbm5)) ⟨0, 0, []⟩ 0 ho hl v1 v2).mono ?_
  rintro _ H' ⟨y, rfl, hy⟩
  obtain ⟨G1, hy1, rfl, u5⟩ := grow_out hy (by rw [set_other m1]; exact hbm5)
  obtain ⟨G2, hy2, rfl, u4⟩ := grow_out hy1 hbm4
  obtain ⟨G3, hy3, rfl, u3⟩ := grow_out hy2 hb
  obtain ⟨G4, hy4, hy5⟩ := grow_swap hg2 hy3
  obtain ⟨r3, r4⟩ := one_grow hy4
  simp +contextual -dsimp -implicitDefEqProofs (maxSteps:=5000000) only [go_sem,reduceIte,reduceCtorEq,Nat.reduceEqDiff,Nat.reduceBEq,Nat.reduceAdd,Nat.reduceLeDiff,Nat.reduceMul,Nat.reduceLT,Int.reduceEq,Int.reduceLT,Int.reduceLE,n1,n2,m1,m2,m3,m4,r1,r2,r3,r4,he]
  refine retR_less (l := [.agg [xl', I 2, I (idxF (fun x => decide (val = x)) (sortI (bfsF fs val))), y]]) (H' := G4) ?_ ?_ ⟨xl', y, H1, rfl, hgl, hy4⟩
  ·simp only [resA,go_sem,reduceIte,reduceCtorEq,Nat.reduceEqDiff,Nat.reduceBEq,Nat.reduceAdd,Nat.reduceLeDiff,Nat.reduceMul,Nat.reduceLT,Int.reduceEq,Int.reduceLT,Int.reduceLE,n1,n2,m1,m2,m3,m4]
  ·refine AHeap.le_trans (grow_le hy5) (AHeap.le_trans (le_set u3) (AHeap.le_trans (le_set u4) (le_set (by rw [set_other m1] at u5 ⊢; exact u5))))
 ·simp +contextual -dsimp -implicitDefEqProofs (maxSteps:=5000000) only [go_sem,reduceIte,reduceCtorEq,Nat.reduceEqDiff,Nat.reduceBEq,Nat.reduceAdd,Nat.reduceLeDiff,Nat.reduceMul,Nat.reduceLT,Int.reduceEq,Int.reduceLT,Int.reduceLE,n1,n2,m1,m2,m3,m4,r1,r2,he]
  refine ⟨hle0 _ _, ?_⟩
  refine retR_less (l := [.agg [xl', I ed, I val, .vsl [] true]]) (H' := H1) ?_ ?_ ⟨xl', .vsl [] true, H1, rfl, hgl, .inl ⟨rfl, rfl, rfl⟩⟩
  ·simp only [resA,go_sem,reduceIte,reduceCtorEq,Nat.reduceEqDiff,Nat.reduceBEq,Nat.reduceAdd,Nat.reduceLeDiff,Nat.reduceMul,Nat.reduceLT,Int.reduceEq,Int.reduceLT,Int.reduceLE,n1,n2,m1,m2,m3,m4]
  ·exact AHeap.le_trans (grow_le hg2) (AHeap.le_trans (le_set hb) (AHeap.le_trans (le_set hbm4) (hle0 _ _)))
end
end
end Go.Proofs.YtjpfgafdjlkblaaGreat
