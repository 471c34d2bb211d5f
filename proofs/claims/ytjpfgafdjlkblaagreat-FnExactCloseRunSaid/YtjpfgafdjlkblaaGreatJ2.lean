/- Walks and plain laws that the claims of this seat lean on. No condition. -/
import Derived.Test.YtjpfgafdjlkblaaGreatJ1
import Derived.Test.YtjpfgafdjlkblaaGreatSimY
import Derived.Test.YtjpfgafdjlkblaaGreatRows
import Derived.WalkKit
import Derived.ProofKit
import Derived.OpenShut
import Derived.ShutString
import Derived.ChangeOld
import Derived.Below
import Derived.SizedLaws
import Derived.Deep.Slices
import Derived.Deep.Fields
import Derived.ChangeSame
set_option linter.unusedVariables false
set_option linter.unusedSimpArgs false
namespace Go.Proofs.YtjpfgafdjlkblaaGreat
open Go Go.Sim
section
set_option maxRecDepth 100000
attribute [local go_sem ↓] aw_skip aw_ret aw_exit aw_region aw_draw aw_seq aw_block aw_loop aw_cond frz_nil frz_cons sq_normal sq_ret sq_exit exB_normal exB_ret exB_same exB_other retQ_ret retQ_normal ret0_ret ret0_normal ao_nil go1 g_move g_assign g_pick g_build g_load g_binOp g_unOp g_convert g_fieldAddr g_field g_indexAddr g_index g_extract g_lookup g_slice g_nilCheck g_len g_makeFunc h_call h_append h_alloc h_box h_buildSlice h_makeSlice h_store gV i_box i_buildSlice i_move i_assign i_build i_load i_binOp i_unOp i_convert i_fieldAddr i_field i_indexAddr i_index i_extract i_lookup i_makeMap i_mapUpdate i_slice i_nilCheck i_makeFunc i_len i_max i_min i_alloc i_makeSlice i_store i_append i_call i_pick boxI boxA buildSliceI buildSliceA makeSliceA makeMapA allocA storeA p_move p_assign p_pick p_build p_load p_binOp p_unOp p_convert p_fieldAddr p_field p_indexAddr p_index p_extract p_lookup p_makeMap p_mapUpdate p_slice p_nilCheck p_makeFunc p_len p_max p_min p_alloc p_box p_buildSlice p_makeSlice p_store p_append p_call x_nil x_go1 x_g0 x_g1 x_g2 x_g3 x_s0 x_s1 x_s2 x_s3 u_move u_assign u_pick u_build u_load u_binOp u_unOp u_convert u_fieldAddr u_field u_indexAddr u_index u_extract u_lookup u_slice u_nilCheck u_makeFunc u_len u_buildSlice x_s4 x_g4 rq_normal rq_ret rq_exit aw_range
attribute [local go_sem] frzV_sl frzK_some set_none set_other AHeap.set_self set_del set_set cnd_t cnd_f cnd_b retA_one retA_two retA_three retA_four retA_nil gIf_b mrgV_b mrgV_wh mrgV_U gIf_U gIf_wh mrgB_f mrgB_some mrgB_if wh_true wh_false keepA_some keepA_if gD_zero gD_succ gT_some bxA_t bxA_f callA_fn ev_tmp ev_const ev_global ev_func oc_bool oc_int oc_string oc_nil oc_nilptr oc_nilfunc cl_bool cl_int cl_string cl_nil updO_some updO_none upd_same upd_other init_at pickA_b pickA_wh selA_t selA_f selA_and selA_or selA_orn selA_orm selA_bb selA_ii beqt b_add b_sub b_mul b_and b_or b_xor b_eql b_neq b_lss b_leq b_gtr b_geq b_quo b_rem b_shr b_seql b_sneq b_sadd b_beql b_bneq b_aeql b_aneq u_not u_neg isConstOp eqA eqCellV List.getD_cons_zero List.getD_cons_succ List.map_cons List.map_nil List.nil_append List.cons_append List.append_nil if_true if_false Option.map_some Option.map_none ne_eq not_false_eq_true oneA ldv ld1v ld1s wr1s ldRow stRow row_lit row_agg row_vsl row_sl row_ptr row_fn one_I one_B one_S one_vsl one_sl one_ptr one_fn extractA okA rI rS rU rClass rFault rExit rStart rLine Int.toNat_natCast List.length_cons List.length_nil List.length_map List.all_cons List.all_nil Bool.and_true Nat.zero_add List.getElem?_cons_zero List.getElem?_cons_succ List.take_succ_cons List.take_zero List.drop_succ_cons List.drop_zero and_self true_and and_true implies_true decide_eq_true_eq decide_eq_false_iff_not Bool.or_eq_true Bool.or_eq_false_iff Bool.and_eq_true Bool.not_eq_true' Bool.not_eq_false' beq_false decide_true decide_false Int.ofNat_lt Int.ofNat_le Int.natCast_nonneg Bool.or_true Bool.or_false Bool.true_or Bool.false_or beq_self_eq_true List.drop_one Bool.not_true Bool.not_false Bool.not_not Bool.false_eq_true Bool.true_eq_false false_implies true_implies Bool.true_and Bool.false_and Bool.and_false not_true_eq_false Int.natCast_eq_zero Int.natCast_pos Int.natCast_zero false_and and_false or_false false_or or_true true_or Bool.or_self none_le_iff List.replicate_zero Int.toNat_zero List.replicate_succ buildRows List.set_cons_zero List.set_cons_succ List.set_nil List.mapM_nil maxLen_eq Nat.zero_le Nat.mul_one Nat.one_mul bldA fillA spliceA List.take_nil List.drop_nil List.getElem?_nil ld1o wr1o bldSliceA le_same cv_i cvI_t quietT_fn qvd_some ld_o ldO_1 ldO_l wr_o wrO_1 set_2 set_3 set_4 putL_nil putL_cons List.zip_cons_cons List.zip_nil_left List.zip_nil_right List.toList_toArray frzV_set ti1 ti2 tk2 ti3 te3 ts3 tk3 tz3 ti4 tb4 ti5 tk5 tz5 ti9 te9 ts9 tk9 tz9 ti20 ti22 te22 tz22 ti23 te23 ti25 tp25 tf25_0 ti26 te26 ti29 te29 ti30 te30 ti32 tp32 tf32_0 ti34 tp34 tf34_0 tf34_1 tf34_2 tf34_3 ti41 tq41 tp41 tf41_0 tf41_1 tf41_2 tf41_3 ti44 tq44 tp44 tf44_0 tf44_1 tf44_2 ti45 te45 ti47 tq47 tp47 tf47_0 tf47_1 tf47_2 ti56 te56 ti58 tp58 tf58_0 ti59 te59 ti71 te71 ti84 ti88 tq88 tp88 tf88_0 tf88_1 ti103 tq103 tp103 tf103_0 tf103_1 tf103_2 tf103_3 tf103_4 ti106 ti109 ti113 tq113 tp113 tf113_0 tf113_1 tf113_2 tf113_3 ti120 tq120 tp120 tf120_0 tf120_1 tf120_2 ti124 ti129 tp129 tf129_0 tf129_1 tf129_2 tf129_3 tf129_4 ti136 ti138 tp138 tf138_0 tf138_1 tf138_2 tf138_3 ti140 tq140 tp140 tf140_0 tf140_1 ti144 tq144 tp144 tf144_0 tf144_1 ti151 te151 ti159 tp159 tf159_0 tf159_1 tf159_2 ti164 ti165 ti167 ti169 tq169 tp169 tf169_0 tf169_1 ti186 ti202 ti205 tk205 tz205 ti209 tk209 ti217 tk217 tz217 ti219 tk219 tz219 ti220 tk220 ti224 ti226 fp13_0 fv13_0 fp13_1 fv13_1 fp24_0 fv24_0 fp25_0 fv25_0 fp31_0 fv31_0 fp32_0 fv32_0 fp33_0 fv33_0 fp33_1 fv33_1 fp33_2 fv33_2 fp33_3 fv33_3 fp34_0 fv34_0 fp34_1 fv34_1 fp34_2 fv34_2 fp34_3 fv34_3 fp40_0 fv40_0 fp40_1 fv40_1 fp40_2 fv40_2 fp40_3 fv40_3 fp41_0 fv41_0 fp41_1 fv41_1 fp41_2 fv41_2 fp41_3 fv41_3 fp43_0 fv43_0 fp43_1 fv43_1 fp43_2 fv43_2 fp44_0 fv44_0 fp44_1 fv44_1 fp44_2 fv44_2 fp46_0 fv46_0 fp46_1 fv46_1 fp46_2 fv46_2 fp47_0 fv47_0 fp47_1 fv47_1 fp47_2 fv47_2 fp57_0 fv57_0 fp58_0 fv58_0 fp72_0 fv72_0 fp72_1 fv72_1 fp72_2 fv72_2 fp87_0 fv87_0 fp87_1 fv87_1 fp88_0 fv88_0 fp88_1 fv88_1 fp102_0 fv102_0 fp102_1 fv102_1 fp102_2 fv102_2 fp102_3 fv102_3 fp102_4 fv102_4 fp103_0 fv103_0 fp103_1 fv103_1 fp103_2 fv103_2 fp103_3 fv103_3 fp103_4 fv103_4 fp113_0 fv113_0 fp113_1 fv113_1 fp113_2 fv113_2 fp113_3 fv113_3 fp120_0 fv120_0 fp120_1 fv120_1 fp120_2 fv120_2 fp126_0 fv126_0 fp126_1 fv126_1 fp127_0 fv127_0 fp127_1 fv127_1 fp128_0 fv128_0 fp128_1 fv128_1 fp128_2 fv128_2 fp128_3 fv128_3 fp128_4 fv128_4 fp129_0 fv129_0 fp129_1 fv129_1 fp129_2 fv129_2 fp129_3 fv129_3 fp129_4 fv129_4 fp137_0 fv137_0 fp137_1 fv137_1 fp137_2 fv137_2 fp137_3 fv137_3 fp138_0 fv138_0 fp138_1 fv138_1 fp138_2 fv138_2 fp138_3 fv138_3 fp139_0 fv139_0 fp139_1 fv139_1 fp140_0 fv140_0 fp140_1 fv140_1 fp143_0 fv143_0 fp143_1 fv143_1 fp144_0 fv144_0 fp144_1 fv144_1 fp158_0 fv158_0 fp158_1 fv158_1 fp158_2 fv158_2 fp159_0 fv159_0 fp159_1 fv159_1 fp159_2 fv159_2 fp169_0 fv169_0 fp169_1 fv169_1 lv22 ll22 is22 ix22 sh22 so22 sb22 sm22 sp22 lv23 ll23 is23 ix23 sh23 so23 sb23 sm23 sp23 lv26 ll26 is26 ix26 sh26 so26 sb26 sm26 sp26 lv29 ll29 is29 ix29 sh29 so29 sb29 sm29 sp29 lv30 ll30 is30 ix30 sh30 so30 sb30 sm30 sp30 lv45 ll45 is45 ix45 sh45 so45 sb45 sm45 sp45 lv56 ll56 is56 sp56 lv59 ll59 is59 sp59 lv71 ll71 is71 sp71 lv149 ll149 is149 sp149 lv151 ll151 is151 sp151 lv177 ll177 is177 ix177 sh177 so177 sb177 sm177 sp177 xs9 ls9 sx9 sy9 sz9
section
open Go Go.Sim
set_option maxRecDepth 100000

theorem c_misolate0 (h : List Fault) (cl : Bool) (f : Int) (H : AHeap) (hl : h.length ≤ 999999) (h0 : 0 ≤ f) (h1 : f < h.length) (hlk : ∀ k, k < h.length → (h.getD k default).cause < h.length ∧ (h.getD k default).ctx < h.length) (hm : ∀ a ∈ sortI (bfsF h f), 0 ≤ a ∧ a < h.length) (hll : (sortI (bfsF h f)).length ≤ 999999) :
  ACalls Tryz.prog 93 [aHeap h cl, I f] H fun r H' => ∃ x, r = .tup [.agg [x], I (idxF (fun x => decide (f = x)) (sortI (bfsF h f)))] ∧ Grow rFault 5 103 H H' x (isoL h (sortI (bfsF h f))) := by
 refine acalls_of1 Tryz.func93 rfl (by kernel_rfl) rfl rfl (awp_sound (fz := fun r => if r = 7 then [10] else []) (im := fun s => s == 2 || s == 42) mixed _ _ _ _ (by kernel_rfl) ?_)
 simp +contextual -dsimp -implicitDefEqProofs (maxSteps:=5000000) only [go_sem,reduceIte,reduceCtorEq,Nat.reduceEqDiff,Nat.reduceBEq,Nat.reduceAdd,Nat.reduceLeDiff,Nat.reduceMul,Nat.reduceLT,Int.reduceEq,Int.reduceLT,Int.reduceLE]
 intro b4 hb4
 refine acalls_frz (c_mreach h cl f _ (by omega) h0 h1 hlk) fun cl1 => ?_
 generalize sortI (bfsF h f) = L at hm hll ⊢
 simp +contextual -dsimp -implicitDefEqProofs (maxSteps:=5000000) only [go_sem,reduceIte,reduceCtorEq,Nat.reduceEqDiff,Nat.reduceBEq,Nat.reduceAdd,Nat.reduceLeDiff,Nat.reduceMul,Nat.reduceLT,Int.reduceEq,Int.reduceLT,Int.reduceLE]
 refine ⟨by omega, by omega, ?_⟩
 rintro bx ⟨x1, x2, hbx⟩ b7 ⟨n1, n2, n3, n4, hb7⟩
 have hgx : Grow rFault 5 103 H (H.set bx ⟨5, 103, []⟩) (.sl bx 5 0 0 false) [] := .inr ⟨bx, false, hbx, rfl, rfl⟩
 have hcm : ((H.set b4 ⟨1, 32, [[.vsl [] true]]⟩).set bx ⟨5, 103, []⟩).set b7 ⟨1, 32, [[.sl bx 5 0 0 false]]⟩ = ((H.set bx ⟨5, 103, []⟩).set b4 ⟨1, 32, [[.vsl [] true]]⟩).set b7 ⟨1, 32, [[.sl bx 5 0 0 false]]⟩ := by rw [set_comm (H := H) x2]
 rw [hcm]
 have e40 : (H.set bx ⟨5, 103, []⟩) b4 = none := by rw [set_other x2]; exact hb4
 have e70 : (H.set bx ⟨5, 103, []⟩) b7 = none := by rw [set_other n1]; exact hb7
 generalize H.set bx ⟨5, 103, []⟩ = H20 at hgx e40 e70 ⊢
 generalize AV.sl bx 5 0 0 false = x0 at hgx ⊢
 refine aloop mixed (fz := fun r => if r = 7 then [10] else []) (im := fun s => s == 2 || s == 42) (by kernel_rfl) (fun m tm H' => ∃ (k : Nat) (H2 : AHeap) (x : AV), m = L.length - k ∧ k ≤ L.length ∧ Grow rFault 5 103 H H2 x ((L.take k).map (isoAt h L)) ∧ H2 b4 = none ∧ H2 b7 = none ∧ H' = (H2.set b4 ⟨1, 32, [[.vsl [] true]]⟩).set b7 ⟨1, 32, [[x]]⟩ ∧
  tm 1 = I f ∧ tm 2 = .vptr [[.vsl (h.map rFault) cl]] 0 0 ∧ tm 4 = .ptr b4 1 0 0 ∧ tm 6 = .vsl (L.map rI) cl1 ∧ tm 7 = .ptr b7 1 0 0 ∧ tm 18 = .vsl (L.map rI) cl1 ∧ tm 19 = I L.length ∧ tm 20 = I k) L.length ⟨0, H20, x0, rfl, by omega, by simpa using hgx, e40, e70, rfl, ?_⟩ ?_
 ·simp +contextual -dsimp -implicitDefEqProofs (maxSteps:=5000000) only [go_sem,reduceIte,reduceCtorEq,Nat.reduceEqDiff,Nat.reduceBEq,Nat.reduceAdd,Nat.reduceLeDiff,Nat.reduceMul,Nat.reduceLT,Int.reduceEq,Int.reduceLT,Int.reduceLE]
 ·rintro m tm H' ⟨k, H2, x, rfl, hk, hg, e4, e7, rfl, t1, t2, t4, t6, t7, t18, t19, t20⟩
  obtain ⟨r1, r2⟩ := one_grow hg
  simp +contextual -dsimp -implicitDefEqProofs (maxSteps:=5000000) only [go_sem,reduceIte,reduceCtorEq,Nat.reduceEqDiff,Nat.reduceBEq,Nat.reduceAdd,Nat.reduceLeDiff,Nat.reduceMul,Nat.reduceLT,Int.reduceEq,Int.reduceLT,Int.reduceLE,t1,t2,t4,t6,t7,t18,t19,t20,r1,r2,n3,n4]
  refine ⟨fun hk0 => ?_, fun hk0 => ?_⟩
  ·have hx := hm (L.getD k default) (by rw [List.getD_eq_getElem?_getD, List.getElem?_eq_getElem hk0]; exact List.getElem_mem hk0)
   have i0 := hx.1
   have i2 := hx.2
   have i1 : (L.getD k default).toNat < h.length := by omega
   simp +contextual -dsimp -implicitDefEqProofs (maxSteps:=5000000) only [go_sem,reduceIte,reduceCtorEq,Nat.reduceEqDiff,Nat.reduceBEq,Nat.reduceAdd,Nat.reduceLeDiff,Nat.reduceMul,Nat.reduceLT,Int.reduceEq,Int.reduceLT,Int.reduceLE,t1,t2,t4,t6,t7,t18,t19,t20,r1,r2,n3,n4,hk0,i0,i2,i1]
   rintro b9 ⟨m1, m2, m3, m4, hb9⟩
   refine draw_intro [0, 0, 0, 3, 0, 0, 1, 2, 0, 2, 0, 2] _ (by kernel_rfl) (AHeap.le_refl _) ?_
   simp +contextual -dsimp -implicitDefEqProofs (maxSteps:=5000000) only [go_sem,reduceIte,reduceCtorEq,Nat.reduceEqDiff,Nat.reduceBEq,Nat.reduceAdd,Nat.reduceLeDiff,Nat.reduceMul,Nat.reduceLT,Int.reduceEq,Int.reduceLT,Int.reduceLE,t1,t2,t4,t6,t7,t18,t19,t20,r1,r2,n3,n4,hk0,i0,i2,i1,m1,m2,m3,m4]
   refine (c_Index _ _ _ _).det ?_
   simp +contextual -dsimp -implicitDefEqProofs (maxSteps:=5000000) only [go_sem,reduceIte,reduceCtorEq,Nat.reduceEqDiff,Nat.reduceBEq,Nat.reduceAdd,Nat.reduceLeDiff,Nat.reduceMul,Nat.reduceLT,Int.reduceEq,Int.reduceLT,Int.reduceLE,t1,t2,t4,t6,t7,t18,t19,t20,r1,r2,n3,n4,hk0,i0,i2,i1,m1,m2,m3,m4]
   refine (c_Index _ _ _ _).det ?_
   simp +contextual -dsimp -implicitDefEqProofs (maxSteps:=5000000) only [go_sem,reduceIte,reduceCtorEq,Nat.reduceEqDiff,Nat.reduceBEq,Nat.reduceAdd,Nat.reduceLeDiff,Nat.reduceMul,Nat.reduceLT,Int.reduceEq,Int.reduceLT,Int.reduceLE,t1,t2,t4,t6,t7,t18,t19,t20,r1,r2,n3,n4,hk0,i0,i2,i1,m1,m2,m3,m4,hb9]
   have e74 : (H2.set b4 ⟨1, 32, [[.vsl [] true]]⟩) b7 = none := by rw [set_other n3]; exact e7
   refine grow_append (m := [isoAt h L (L.getD k default)]) te30 ti103 rFault_len (by decide) (grow_in (grow_in hg e4) e74) (by simp; omega) (by simp; omega) rfl fun x' H' hg' => ?_
   have f4 := grow_none hg e4
   have f7 := grow_none hg e7
   obtain ⟨G1, hg1, rfl, u7⟩ := grow_out hg' (by rw [set_other n3]; exact f7)
   obtain ⟨G3, hg3, rfl, u4⟩ := grow_out hg1 f4
   obtain ⟨r3, r4⟩ := one_grow hg3
   rw [set_other n3] at u7
   simp +contextual -dsimp -implicitDefEqProofs (maxSteps:=5000000) only [go_sem,reduceIte,reduceCtorEq,Nat.reduceEqDiff,Nat.reduceBEq,Nat.reduceAdd,Nat.reduceLeDiff,Nat.reduceMul,Nat.reduceLT,Int.reduceEq,Int.reduceLT,Int.reduceLE,t1,t2,t4,t6,t7,t18,t19,t20,r1,r2,r3,r4,n3,n4,hk0,i0,i2,i1,m1,m2,m3,m4]
   exact ⟨_, by omega, k + 1, G3, x', rfl, hk0, by rw [List.take_succ_eq_append_getElem hk0, List.map_append]; simpa [List.getD_eq_getElem?_getD, hk0] using hg3, u4, u7, rfl, I_wrap (by omega) (by omega) (by omega)⟩
  ·refine draw_intro [1, 0, 0, 3, 2, 0] _ (by kernel_rfl) (AHeap.le_refl _) ?_
   simp +contextual -dsimp -implicitDefEqProofs (maxSteps:=5000000) only [go_sem,reduceIte,reduceCtorEq,Nat.reduceEqDiff,Nat.reduceBEq,Nat.reduceAdd,Nat.reduceLeDiff,Nat.reduceMul,Nat.reduceLT,Int.reduceEq,Int.reduceLT,Int.reduceLE,t1,t2,t4,t6,t7,t18,t19,t20,r1,r2,n3,n4]
   refine (c_Index _ _ _ _).det ?_
   simp +contextual -dsimp -implicitDefEqProofs (maxSteps:=5000000) only [go_sem,reduceIte,reduceCtorEq,Nat.reduceEqDiff,Nat.reduceBEq,Nat.reduceAdd,Nat.reduceLeDiff,Nat.reduceMul,Nat.reduceLT,Int.reduceEq,Int.reduceLT,Int.reduceLE,t1,t2,t4,t6,t7,t18,t19,t20,r1,r2,n3,n4]
   rw [List.take_of_length_le (by omega)] at hg
   refine retR_less (l := [.agg [x], I (idxF (fun x => decide (f = x)) L)]) (H' := H2) ?_ (fun c k hc => ?_) ⟨x, rfl, hg⟩
   ·simp only [resA,go_sem,reduceIte,reduceCtorEq,Nat.reduceEqDiff,Nat.reduceBEq,Nat.reduceAdd,Nat.reduceLeDiff,Nat.reduceMul,Nat.reduceLT,Int.reduceEq,Int.reduceLT,Int.reduceLE,n3,n4,t4,ld_o,ldO_1]
   ·have c1 : c ≠ b4 := fun e => by rw [e, e4] at hc; cases hc
    have c2 : c ≠ b7 := fun e => by rw [e, e7] at hc; cases hc
    rw [set_other c2, set_other c1]; exact hc
theorem rFault_nov (y : Fault) : ∀ c ∈ rFault y, NoV c := by
 intro c hc
 simp only [rFault,List.mem_cons,List.not_mem_nil,or_false] at hc
 rcases hc with rfl | rfl | rfl | rfl | rfl <;> exact .lit _
theorem bfsF_ne (h : List Fault) (f : Int) : bfsF h f ≠ [] := by
 have key : ∀ (n i : Nat) (out : List Int), out ≠ [] → bfsG h n i out ≠ [] := by
  intro n
  induction n with
  | zero => intro i out hne; exact hne
  | succ n ih =>
   intro i out hne
   simp only [bfsG]
   split
   ·refine ih _ _ fun e => hne ?_
    have h1 := addF_len out (causeOf h (out.getD i default))
    have h2 := addF_len (addF out (causeOf h (out.getD i default))) (ctxOf h (out.getD i default))
    rw [e] at h2
    exact List.eq_nil_of_length_eq_zero (by simp only [List.length_nil] at h2; omega)
   ·exact hne
 exact key _ _ _ (by simp)
theorem sortI_ne {l : List Int} (h : l ≠ []) : sortI l ≠ [] := fun e => h (List.eq_nil_of_length_eq_zero (by rw [← sortI_len, e]; rfl))
theorem bfsF_nums {h : List Fault} (hlk : ∀ k, k < h.length → (h.getD k default).cause < h.length ∧ (h.getD k default).ctx < h.length) {f : Int} (h0 : 0 ≤ f) (h1 : f < h.length) : Nums h.length (bfsF h f) := by
 have key : ∀ (n i : Nat) (out : List Int), Nums h.length out → Nums h.length (bfsG h n i out) := by
  intro n
  induction n with
  | zero => intro i out h; exact h
  | succ n ih =>
   intro i out hn
   simp only [bfsG]
   split
   ·rename_i hi
    have hm := hn.mem (out.getD i default) (by rw [List.getD_eq_getElem?_getD, List.getElem?_eq_getElem hi]; exact List.getElem_mem hi)
    have hk := hlk (out.getD i default).toNat (by omega)
    exact ih _ _ ((hn.add hk.1).add hk.2)
   ·exact hn
 exact key _ _ _ (Nums.one h0 h1)
theorem sortI_mem {l : List Int} {a : Int} : a ∈ sortI l ↔ a ∈ l := List.mem_mergeSort
theorem heapOk_links {fs : List Fault} (ho : heapOk fs) : ∀ k, k < fs.length → (fs.getD k default).cause < fs.length ∧ (fs.getD k default).ctx < fs.length := fun k hk => by
 have := ho k hk; omega

theorem c_ClipX (l : List Int) (x : AV) (H0 H : AHeap) (hg : Grow rI 1 3 H0 H x l) : ∃ x', Grow rI 1 3 H0 H x' l ∧ ∀ K, ACalls Tryz.prog 63 [x] K fun r K' => r = x' ∧ K' = K := by
 rcases hg with ⟨rfl, rfl, rfl⟩ | ⟨b, cl, hb, rfl, rfl⟩
 ·exact ⟨.vsl [] true, .inl ⟨rfl, rfl, rfl⟩, fun K => c_ClipV [] true K⟩
 ·refine ⟨.sl b 1 0 l.length true, .inr ⟨b, true, hb, rfl, rfl⟩, fun K => ?_⟩
  refine acalls_of0 Tryz.func63 rfl (by kernel_rfl) rfl rfl (awp_sound (fz := fun _ => []) (im := fun _ => false) mixed _ _ _ _ (by kernel_rfl) ?_)
  simp +contextual -dsimp -implicitDefEqProofs (maxSteps:=5000000) only [go_sem,reduceIte,reduceCtorEq,Nat.reduceEqDiff,Nat.reduceBEq,Nat.reduceAdd,Nat.reduceLeDiff,Nat.reduceMul,Nat.reduceLT,Int.reduceEq,Int.reduceLT,Int.reduceLE]
  simp
theorem c_misolateG (fs : List Fault) (x : AV) (val : Int) (H0 H : AHeap) (hg : Grow rFault 5 103 H0 H x fs) (K : ABlk) (c : Nat) (ho : heapOk fs) (hl : fs.length ≤ 999999) (h0 : 0 ≤ val) (h1 : val < fs.length) :
  ACalls Tryz.prog 93 [.agg [x], I val] H fun r H' => ∃ y, r = .tup [.agg [y], I (idxF (fun x => decide (val = x)) (sortI (bfsF fs val)))] ∧ Grow rFault 5 103 H H' y (isoL fs (sortI (bfsF fs val))) := by
 obtain ⟨cl, hz⟩ := grow_froz hg
 have hn := bfsF_nums (heapOk_links ho) h0 h1
 have hm : ∀ a ∈ sortI (bfsF fs val), 0 ≤ a ∧ a < fs.length := fun a ha => hn.mem a (sortI_mem.1 ha)
 have hlen : (sortI (bfsF fs val)).length ≤ 999999 := by rw [sortI_len]; have := hn.free; omega
 refine acalls_borrowX [aHeap fs cl, I val] (.cons (.agg rfl ?_) (.cons (.same _) .nil)) (c_misolate0 fs cl val AHeap.none hl h0 h1 (heapOk_links ho) hm hlen) ?_
 ·intro i c c' q1 q2
  cases i with
  | zero => simp at q1 q2; subst q1; subst q2; exact hz
  | succ i => simp at q1
 ·rintro _ K ⟨y, rfl, hy⟩
  have hne : isoL fs (sortI (bfsF fs val)) ≠ [] := fun e => sortI_ne (bfsF_ne fs val) (by simpa [isoL] using e)
  obtain ⟨v1, v2⟩ := grow_nov hy hne rFault_nov
  refine ⟨.tup _ ?_, v2, fun hd => ⟨y, rfl, grow_un hy hd⟩⟩
  intro c hc
  simp only [List.mem_cons,List.not_mem_nil,or_false] at hc
  rcases hc with rfl | rfl
  ·exact .agg _ fun c hc => by simp at hc; subst hc; exact v1
  ·exact .lit _
theorem c_mresult (F H : AHeap) (bm : Nat) (t p : AV) (log : List Int) (fs : List Fault) (first : Int) (ed val : Int) (hM : Mach F H bm t p log fs first) (ho : heapOk fs) (hl : fs.length ≤ 999999) (hv : ed = 2 → 0 ≤ val ∧ val < fs.length) :
  ACalls Tryz.prog 48 [.ptr bm 5 0 0, .agg [I ed, I val]] H fun r H' => ∃ xl xh G1, r = .agg [xl, I ed, I (if ed = 2 then idxF (fun x => decide (val = x)) (sortI (bfsF fs val)) else val), xh] ∧ Grow rI 1 3 F G1 xl log ∧ Grow rFault 5 103 G1 H' xh (if ed = 2 then isoL fs (sortI (bfsF fs val)) else []) := by
 obtain ⟨xl, xf, H1, H2, hF, hg1, hg2, hb, rfl⟩ := hM
 obtain ⟨xl', hgl, hclip⟩ := c_ClipX log xl F H1 hg1
 obtain ⟨r1, r2⟩ := one_grow hgl
 refine acalls_of1 Tryz.func48 rfl (by kernel_rfl) rfl rfl (awp_sound (fz := fun _ => []) (im := fun s => s == 3) mixed _ _ _ _ (by kernel_rfl) ?_)
 simp +contextual -dsimp -implicitDefEqProofs (maxSteps:=5000000) only [go_sem,reduceIte,reduceCtorEq,Nat.reduceEqDiff,Nat.reduceBEq,Nat.reduceAdd,Nat.reduceLeDiff,Nat.reduceMul,Nat.reduceLT,Int.reduceEq,Int.reduceLT,Int.reduceLE]
 rintro b4 ⟨n1, n2, hb4⟩
 refine draw_introQ [4] [0, 0, 0, 1, 4, 0, 1, 0, 1, 0, 3, 2] (fun _ => xl') _ (by kernel_rfl) (AHeap.le_refl _) ?_
 simp +contextual -dsimp -implicitDefEqProofs (maxSteps:=5000000) only [go_sem,reduceIte,reduceCtorEq,Nat.reduceEqDiff,Nat.reduceBEq,Nat.reduceAdd,Nat.reduceLeDiff,Nat.reduceMul,Nat.reduceLT,Int.reduceEq,Int.reduceLT,Int.reduceLE,n1,n2]
 refine ⟨fun H' _ => hclip H', ?_⟩
 simp +contextual -dsimp -implicitDefEqProofs (maxSteps:=5000000) only [go_sem,reduceIte,reduceCtorEq,Nat.reduceEqDiff,Nat.reduceBEq,Nat.reduceAdd,Nat.reduceLeDiff,Nat.reduceMul,Nat.reduceLT,Int.reduceEq,Int.reduceLT,Int.reduceLE,n1,n2,r1,r2]
 rintro b5 ⟨m1, m2, m3, m4, hb5⟩
 have hbm5 : (H2.set bm ⟨5, 129, [[t, p, xl, xf, I first]]⟩) b5 = none := by rw [set_other m3]; exact hb5
 have hbm4 : (H2.set bm ⟨5, 129, [[t, p, xl, xf, I first]]⟩) b4 = none := by rw [set_other n1]; exact hb4
 have hle0 : ∀ K L : ABlk, AHeap.le ((H2.set bm ⟨5, 129, [[t, p, xl, xf, I first]]⟩).set b4 K) (((H2.set bm ⟨5, 129, [[t, p, xl, xf, I first]]⟩).set b4 K).set b5 L) := fun K L => le_set (by rw [set_other m1]; exact hbm5)
 by_cases he : ed = 2
 ·obtain ⟨v1, v2⟩ := hv he
  simp +contextual -dsimp -implicitDefEqProofs (maxSteps:=5000000) only [go_sem,reduceIte,reduceCtorEq,Nat.reduceEqDiff,Nat.reduceBEq,Nat.reduceAdd,Nat.reduceLeDiff,Nat.reduceMul,Nat.reduceLT,Int.reduceEq,Int.reduceLT,Int.reduceLE,n1,n2,m1,m2,m3,m4,r1,r2,he]
  refine ⟨hle0 _ _, ?_⟩
  refine draw_intro [0, 0, 0, 0, 0, 0, 2, 0, 0, 0, 0, 2, 0, 2] AHeap.none (by kernel_rfl) none_le ?_
  simp +contextual -dsimp -implicitDefEqProofs (maxSteps:=5000000) only [go_sem,reduceIte,reduceCtorEq,Nat.reduceEqDiff,Nat.reduceBEq,Nat.reduceAdd,Nat.reduceLeDiff,Nat.reduceMul,Nat.reduceLT,Int.reduceEq,Int.reduceLT,Int.reduceLE,n1,n2,m1,m2,m3,m4,r1,r2,he]
  refine (c_misolateG fs xf val _ _ (grow_in (grow_in (grow_in hg2 hb) hbm4) (by rw [set_other m1]; exact hbm5)) ⟨0, 0, []⟩ 0 ho hl v1 v2).mono ?_
  rintro _ H' ⟨y, rfl, hy⟩
  obtain ⟨G1, hy1, rfl, u5⟩ := grow_out hy (by rw [set_other m1]; exact hbm5)
  obtain ⟨G2, hy2, rfl, u4⟩ := grow_out hy1 hbm4
  obtain ⟨G3, hy3, rfl, u3⟩ := grow_out hy2 hb
  obtain ⟨G4, hy4, hy5⟩ := grow_swap hg2 hy3
  obtain ⟨r3, r4⟩ := one_grow hy4
  simp +contextual -dsimp -implicitDefEqProofs (maxSteps:=5000000) only [go_sem,reduceIte,reduceCtorEq,Nat.reduceEqDiff,Nat.reduceBEq,Nat.reduceAdd,Nat.reduceLeDiff,Nat.reduceMul,Nat.reduceLT,Int.reduceEq,Int.reduceLT,Int.reduceLE,n1,n2,m1,m2,m3,m4,r1,r2,r3,r4,he]
  refine retR_less (l := [.agg [xl', I 2, I (idxF (fun x => decide (val = x)) (sortI (bfsF fs val))), y]]) (H' := G4) ?_ ?_ ⟨xl', y, H1, rfl, hgl, hy4⟩
  ·simp only [resA,go_sem,reduceIte,reduceCtorEq,Nat.reduceEqDiff,Nat.reduceBEq,Nat.reduceAdd,Nat.reduceLeDiff,Nat.reduceMul,Nat.reduceLT,Int.reduceEq,Int.reduceLT,Int.reduceLE,n1,n2,m1,m2,m3,m4]
  ·refine AHeap.le_trans (grow_le hy5) (AHeap.le_trans (le_set u3) (AHeap.le_trans (le_set u4) (le_set (by rw [set_other m1] at u5 ⊢; exact u5))))
 ·simp +contextual -dsimp -implicitDefEqProofs (maxSteps:=5000000) only [go_sem,reduceIte,reduceCtorEq,Nat.reduceEqDiff,Nat.reduceBEq,Nat.reduceAdd,Nat.reduceLeDiff,Nat.reduceMul,Nat.reduceLT,Int.reduceEq,Int.reduceLT,Int.reduceLE,n1,n2,m1,m2,m3,m4,r1,r2,he]
  refine ⟨hle0 _ _, ?_⟩
  refine retR_less (l := [.agg [xl', I ed, I val, .vsl [] true]]) (H' := H1) ?_ ?_ ⟨xl', .vsl [] true, H1, rfl, hgl, .inl ⟨rfl, rfl, rfl⟩⟩
  ·simp only [resA,go_sem,reduceIte,reduceCtorEq,Nat.reduceEqDiff,Nat.reduceBEq,Nat.reduceAdd,Nat.reduceLeDiff,Nat.reduceMul,Nat.reduceLT,Int.reduceEq,Int.reduceLT,Int.reduceLE,n1,n2,m1,m2,m3,m4]
  ·exact AHeap.le_trans (grow_le hg2) (AHeap.le_trans (le_set hb) (AHeap.le_trans (le_set hbm4) (hle0 _ _)))
end
section
open Go Go.Sim
set_option maxRecDepth 100000

def OwnRes (F H : AHeap) (r : AV) (R : Res) : Prop := ∃ xl xh G1, r = .agg [xl, I R.ed, I R.val, xh] ∧ Grow rI 1 3 F G1 xl R.log ∧ Grow rFault 5 103 G1 H xh R.heap
def res0 : Res := ⟨[], 0, 0, []⟩
theorem own0 (H : AHeap) : OwnRes H H (.agg [.vsl [] true, I 0, I 0, .vsl [] true]) res0 := ⟨_, _, H, rfl, .inl ⟨rfl, rfl, rfl⟩, .inl ⟨rfl, rfl, rfl⟩⟩
theorem own_out {F H : AHeap} {r : AV} {R : Res} {c : Nat} {K : ABlk} (h : OwnRes (F.set c K) H r R) (hc : F c = none) : ∃ H', H = H'.set c K ∧ OwnRes F H' r R ∧ H' c = none := by
 obtain ⟨xl, xh, G1, h1, h2, h3⟩ := h
 obtain ⟨G2, k1, rfl, k2⟩ := grow_out h2 hc
 obtain ⟨G3, k3, rfl, k4⟩ := grow_out h3 k2
 exact ⟨G3, rfl, ⟨xl, xh, G2, h1, k1, k3⟩, k4⟩
theorem own_row {F H : AHeap} {r : AV} {R : Res} (h : OwnRes F H r R) : ∃ xl xh, r = .agg [xl, I R.ed, I R.val, xh] ∧ xl.one = true ∧ xh.one = true := by
 obtain ⟨xl, xh, G1, h1, h2, h3⟩ := h
 exact ⟨xl, xh, h1, (one_grow h2).2, (one_grow h3).2⟩
abbrev aRes (R : Res) (c1 c2 : Bool) : AV := .agg [.vsl (R.log.map rI) c1, I R.ed, I R.val, .vsl (R.heap.map rFault) c2]
theorem own_frz {P : Program} {f : FuncId} {args : List AV} {H : AHeap} {R : Res} (h : ACalls P f args H fun r H' => OwnRes H H' r R) : ACalls P f args H fun r H' => (∃ c1 c2, r = aRes R c1 c2) ∧ H' = H := by
 refine acalls_fz h ?_
 rintro _ H' ⟨xl, xh, G1, rfl, h2, h3⟩
 have hle := AHeap.le_trans (grow_le h2) (grow_le h3)
 obtain ⟨c2, z2⟩ := grow_fz h3
 have hz1 : ∃ c1, Fz H' H xl (.vsl (R.log.map rI) c1) := by
  rcases h2 with ⟨e1, e2, e3⟩ | ⟨b, cl, hb, rfl, rfl⟩
  ·rw [e1, e2]; exact ⟨true, .same _⟩
  ·refine ⟨cl, ?_⟩
   have hk : H' b = some ⟨1, 3, R.log.map rI⟩ := grow_le h3 b _ (AHeap.set_self ..)
   have := Fz.sl (H := H') (K := H) (b := b) (sz := 1) (off := 0) (len := R.log.length) (cl := cl) hk rfl (by simp) hb
   simpa [List.take_of_length_le] using this
 have hz2 : ∃ c2, Fz H' H xh (.vsl (R.heap.map rFault) c2) := by
  rcases h3 with ⟨e1, e2, e3⟩ | ⟨b, cl, hb, rfl, rfl⟩
  ·rw [e1, e2]; exact ⟨true, .same _⟩
  ·refine ⟨cl, ?_⟩
   have hn : H b = none := by
    cases hq : H b with
    | none => rfl
    | some k => rw [grow_le h2 b k hq] at hb; cases hb
   have := Fz.sl (H := G1.set b ⟨5, 103, R.heap.map rFault⟩) (K := H) (b := b) (sz := 5) (off := 0) (len := R.heap.length) (cl := cl) (AHeap.set_self ..) rfl (by simp) hn
   simpa [List.take_of_length_le] using this
 obtain ⟨c1, z1⟩ := hz1
 obtain ⟨c2, z2⟩ := hz2
 exact ⟨_, H, hle, fz_agg (.cons z1 (.cons (.same _) (.cons (.same _) (.cons z2 .nil)))), ⟨c1, c2, rfl⟩, rfl⟩

def resM (s : Clo) : Res :=
 if 0 ≤ s.cur then ⟨s.log, 2, idxF (fun x => decide (s.cur = x)) (sortI (bfsF s.fs s.cur)), isoL s.fs (sortI (bfsF s.fs s.cur))⟩ else ⟨s.log, 0, 0, []⟩
theorem closeX_ok {t : List Class} {l : List Exi} {x : Sta} (hv : validX t l = true) (hs : startOk t x = true) : CloOk t (closeX t l x) l.length := by
 have key : ∀ k, k ≤ l.length → CloOk t ((l.reverse.take k).foldl (stepX t) (startX x)) k := by
  intro k
  induction k with
  | zero => intro _; exact CloOk.start hs
  | succ k ih =>
   intro hk
   rw [rev_take hk, List.foldl_append]
   exact (ih (by omega)).step (validX_at hv (by omega))
 have := key l.length (Nat.le_refl _)
 rw [List.take_of_length_le (by simp)] at this
 exact this
theorem c_mcloseExits (t : List Class) (cl : Bool) (l : List Exi) (cl' : Bool) (x : Sta) (H : AHeap) (hv : validX t l = true) (hs : startOk t x = true) :
  ACalls Tryz.prog 62 [aTree t cl, .vsl (l.map rExit) cl', .agg (rStart x)] H fun r H' => OwnRes H H' r (resM (closeX t l x)) := by
 have hok := closeX_ok hv hs
 have hl8 := (validX_T hv).2
 refine acalls_of1 Tryz.func62 rfl (by kernel_rfl) rfl rfl (awp_sound (fz := fun _ => []) (im := fun s => s == 3 || s == 5) mixed _ _ _ _ (by kernel_rfl) ?_)
 simp +contextual -dsimp -implicitDefEqProofs (maxSteps:=5000000) only [go_sem,reduceIte,reduceCtorEq,Nat.reduceEqDiff,Nat.reduceBEq,Nat.reduceAdd,Nat.reduceLeDiff,Nat.reduceMul,Nat.reduceLT,Int.reduceEq,Int.reduceLT,Int.reduceLE]
 intro b6 hb6
 refine (c_machineOf t cl _ [] true).mono ?_
 rintro _ H1 ⟨bm, rfl, hM⟩
 simp +contextual -dsimp -implicitDefEqProofs (maxSteps:=5000000) only [go_sem,reduceIte,reduceCtorEq,Nat.reduceEqDiff,Nat.reduceBEq,Nat.reduceAdd,Nat.reduceLeDiff,Nat.reduceMul,Nat.reduceLT,Int.reduceEq,Int.reduceLT,Int.reduceLE]
 refine (c_mclosed _ H1 bm t cl _ (-1) l cl' x hM hv hs).mono ?_
 rintro _ H2 ⟨rfl, hM2⟩
 generalize closeX t l x = s at hok hM2 ⊢
 have hcur := hok.cur
 have hlen := hok.len
 by_cases hc : s.cur < 0
 ·simp +contextual -dsimp -implicitDefEqProofs (maxSteps:=5000000) only [go_sem,reduceIte,reduceCtorEq,Nat.reduceEqDiff,Nat.reduceBEq,Nat.reduceAdd,Nat.reduceLeDiff,Nat.reduceMul,Nat.reduceLT,Int.reduceEq,Int.reduceLT,Int.reduceLE,hc]
  refine (c_mresult _ H2 bm _ _ s.log s.fs (-1) 0 0 hM2 hok.ho (by omega) (by simp)).mono ?_
  rintro r H3 hr
  have hr' : OwnRes (H.set b6 ⟨4, 34, [[.vsl [] true, I 0, I 0, .vsl [] true]]⟩) H3 r (resM s) := by
   obtain ⟨xl, xh, G1, h1, h2, h3⟩ := hr
   refine ⟨xl, xh, G1, ?_, ?_, ?_⟩
   ·rw [h1]; simp [resM, show ¬ 0 ≤ s.cur by omega]
   ·simpa [resM, show ¬ 0 ≤ s.cur by omega] using h2
   ·simpa [resM, show ¬ 0 ≤ s.cur by omega] using h3
  obtain ⟨H4, rfl, hown, hn⟩ := own_out hr' hb6
  obtain ⟨xl, xh, rfl, o1, o2⟩ := own_row hown
  simp +contextual -dsimp -implicitDefEqProofs (maxSteps:=5000000) only [go_sem,reduceIte,reduceCtorEq,Nat.reduceEqDiff,Nat.reduceBEq,Nat.reduceAdd,Nat.reduceLeDiff,Nat.reduceMul,Nat.reduceLT,Int.reduceEq,Int.reduceLT,Int.reduceLE,hc,o1,o2]
  refine retR_less (l := [.agg [xl, I (resM s).ed, I (resM s).val, xh]]) (H' := H4) ?_ (le_set hn) hown
  simp only [resA,go_sem,reduceIte,reduceCtorEq,Nat.reduceEqDiff,Nat.reduceBEq,Nat.reduceAdd,Nat.reduceLeDiff,Nat.reduceMul,Nat.reduceLT,Int.reduceEq,Int.reduceLT,Int.reduceLE]
 ·have h0 : 0 ≤ s.cur := by omega
  simp +contextual -dsimp -implicitDefEqProofs (maxSteps:=5000000) only [go_sem,reduceIte,reduceCtorEq,Nat.reduceEqDiff,Nat.reduceBEq,Nat.reduceAdd,Nat.reduceLeDiff,Nat.reduceMul,Nat.reduceLT,Int.reduceEq,Int.reduceLT,Int.reduceLE,hc]
  refine (c_mresult _ H2 bm _ _ s.log s.fs (-1) 2 s.cur hM2 hok.ho (by omega) (fun _ => ⟨h0, hcur⟩)).mono ?_
  rintro r H3 hr
  have hr' : OwnRes (H.set b6 ⟨4, 34, [[.vsl [] true, I 0, I 0, .vsl [] true]]⟩) H3 r (resM s) := by
   obtain ⟨xl, xh, G1, h1, h2, h3⟩ := hr
   refine ⟨xl, xh, G1, ?_, ?_, ?_⟩
   ·rw [h1]; simp [resM, h0]
   ·simpa [resM, h0] using h2
   ·simpa [resM, h0] using h3
  obtain ⟨H4, rfl, hown, hn⟩ := own_out hr' hb6
  obtain ⟨xl, xh, rfl, o1, o2⟩ := own_row hown
  simp +contextual -dsimp -implicitDefEqProofs (maxSteps:=5000000) only [go_sem,reduceIte,reduceCtorEq,Nat.reduceEqDiff,Nat.reduceBEq,Nat.reduceAdd,Nat.reduceLeDiff,Nat.reduceMul,Nat.reduceLT,Int.reduceEq,Int.reduceLT,Int.reduceLE,hc,o1,o2]
  refine retR_less (l := [.agg [xl, I (resM s).ed, I (resM s).val, xh]]) (H' := H4) ?_ (le_set hn) hown
  simp only [resA,go_sem,reduceIte,reduceCtorEq,Nat.reduceEqDiff,Nat.reduceBEq,Nat.reduceAdd,Nat.reduceLeDiff,Nat.reduceMul,Nat.reduceLT,Int.reduceEq,Int.reduceLT,Int.reduceLE]
theorem c_closed (t : List Class) (cl : Bool) (l : List Exi) (cl' : Bool) (x : Sta) (H : AHeap) (hv : validX t l = true) (hs : startOk t x = true) :
  ACalls Tryz.prog 69 [aTree t cl, .vsl (l.map rExit) cl', .agg (rStart x)] H fun r H' => (∃ c1 c2, r = aRes (resX (closeX t l x)) c1 c2) ∧ H' = H := by
 refine acalls_fz (c_closed0 t cl l cl' x H hv hs) ?_
 rintro _ H' ⟨xl, c2, rfl, hg⟩
 obtain ⟨c1, hz⟩ := grow_fz hg
 have e : (resX (closeX t l x)).log = (closeX t l x).log := by unfold resX; split <;> rfl
 exact ⟨_, H, grow_le hg, fz_agg (.cons hz (.refl _)), ⟨c1, c2, by simp only [aRes,e]⟩,rfl⟩
end
section
open Go Go.Sim
set_option maxRecDepth 100000

theorem none_at {b : Nat} {k : ABlk} (h : AHeap.none b = some k) : False := by cases h
theorem grow_nov0 {α : Type} {g : α → List AV} {sz : Nat} {ty : TypeId} {K : AHeap} {x : AV} {l : List α} (hg : Grow g sz ty AHeap.none K x l) (hf : ∀ y, ∀ c ∈ g y, NoV c) : NoV x ∧ ∀ b kb, K b = some kb → ∀ row ∈ kb.es, ∀ x ∈ row, NoV x := by
 by_cases hl : l = []
 ·subst hl
  rcases hg with ⟨_, rfl, rfl⟩ | ⟨b, cl, hb, rfl, rfl⟩
  ·exact ⟨.nil, fun b kb h => (none_at h).elim⟩
  ·refine ⟨.sl _ _ _ _ _, fun c kb hc row hr x hx => ?_⟩
   by_cases e : c = b
   ·subst e
    rw [AHeap.set_self] at hc
    cases hc
    simp at hr
   ·rw [set_other e] at hc; exact (none_at hc).elim
 ·exact grow_nov hg hl hf
theorem nov_fault (y : Fault) : ∀ c ∈ rFault y, NoV c := by
 intro c hc
 simp only [rFault,List.mem_cons,List.not_mem_nil,or_false] at hc
 rcases hc with rfl | rfl | rfl | rfl | rfl <;> exact .lit _
theorem nov_int (y : Int) : ∀ c ∈ rI y, NoV c := by
 intro c hc
 simp only [rI,List.mem_cons,List.not_mem_nil,or_false] at hc
 subst hc; exact .lit _
theorem nov_block {b : Nat} {sz : Nat} {ty : TypeId} {α : Type} {f : α → List AV} {l : List α} {K : AHeap} (hf : ∀ y, ∀ c ∈ f y, NoV c) (hK : ∀ b kb, K b = some kb → ∀ row ∈ kb.es, ∀ x ∈ row, NoV x) : ∀ c kb, (K.set b ⟨sz, ty, l.map f⟩) c = some kb → ∀ row ∈ kb.es, ∀ x ∈ row, NoV x := by
 intro c kb hc row hr x hx
 by_cases e : c = b
 ·subst e
  rw [AHeap.set_self] at hc
  cases hc
  obtain ⟨y, _, rfl⟩ := List.mem_map.1 hr
  exact hf y x hx
 ·rw [set_other e] at hc; exact hK c kb hc row hr x hx
theorem own_nov {K : AHeap} {r : AV} {R : Res} (h : OwnRes AHeap.none K r R) : NoV r ∧ (∀ b kb, K b = some kb → ∀ row ∈ kb.es, ∀ x ∈ row, NoV x) ∧ ∀ H : AHeap, (∀ b, K b ≠ none → H b = none) → OwnRes H (H.un K) r R := by
 obtain ⟨xl, xh, G1, rfl, h2, h3⟩ := h
 have n1 := grow_nov0 h2 nov_int
 have hagg : ∀ y, NoV y → NoV (.agg [xl, I R.ed, I R.val, y]) := by
  intro y hy
  refine .agg _ fun c hc => ?_
  simp only [List.mem_cons,List.not_mem_nil,or_false] at hc
  rcases hc with rfl | rfl | rfl | rfl
  ·exact n1.1
  ·exact .lit _
  ·exact .lit _
  ·exact hy
 rcases h3 with ⟨e1, e2, e3⟩ | ⟨b, cl, hb, e2, e3⟩
 ·subst e2 e3
  refine ⟨hagg _ .nil, n1.2, fun H hd => ⟨xl, _, _, rfl, grow_un h2 hd, .inl ⟨e1, rfl, rfl⟩⟩⟩
 ·subst e2 e3
  refine ⟨hagg _ (.sl _ _ _ _ _), nov_block nov_fault n1.2, fun H hd => ⟨xl, _, H.un G1, rfl, grow_un h2 fun c hc => hd c ?_, .inr ⟨b, cl, ?_, rfl, un_set⟩⟩⟩
  ·by_cases e : c = b
   ·subst e; rw [AHeap.set_self]; simp
   ·rw [set_other e]; exact hc
  ·unfold AHeap.un
   rw [hb]
   exact hd b (by rw [AHeap.set_self]; simp)
theorem lend_res {P : Program} {f : FuncId} {args : List AV} {H : AHeap} {Q : AV → AHeap → Prop} {R : Res} (args' : List AV) (hz : FrozL H args args') (h : ACalls P f args' AHeap.none fun r H' => OwnRes AHeap.none H' r R)
  (k : ∀ r H', OwnRes H H' r R → Q r H') : ACalls P f args H Q :=
 acalls_borrowX args' hz h fun r K hg => ⟨(own_nov hg).1, (own_nov hg).2.1, fun hd => k _ _ ((own_nov hg).2.2 H hd)⟩
section
variable {α β : Type} {f : α → List AV} {g : β → List AV} {sz sz' : Nat} {ty ty' : TypeId} {H0 H1 H2 : AHeap} {x y r : AV} {l : List α} {m : List β} {R : Res}
theorem res_down (hf : Grow f sz ty H0 H1 x l) (h : OwnRes H1 H2 r R) : ∃ H1', OwnRes H0 H1' r R ∧ Grow f sz ty H1' H2 x l := by
 obtain ⟨xl, xh, G1, rfl, h2, h3⟩ := h
 obtain ⟨G2, k1, k2⟩ := grow_swap hf h2
 obtain ⟨G3, k3, k4⟩ := grow_swap k2 h3
 exact ⟨G3, ⟨xl, xh, G2, rfl, k1, k3⟩, k4⟩
theorem res_up (h : OwnRes H0 H1 r R) (hf : Grow f sz ty H1 H2 x l) : ∃ H1', Grow f sz ty H0 H1' x l ∧ OwnRes H1' H2 r R := by
 obtain ⟨xl, xh, G1, rfl, h2, h3⟩ := h
 obtain ⟨G2, k1, k2⟩ := grow_swap h3 hf
 obtain ⟨G3, k3, k4⟩ := grow_swap h2 k1
 exact ⟨G3, k3, ⟨xl, xh, G2, rfl, k4, k2⟩⟩
theorem own_le (h : OwnRes H0 H1 r R) : AHeap.le H0 H1 := by
 obtain ⟨xl, xh, G1, rfl, h2, h3⟩ := h
 exact AHeap.le_trans (grow_le h2) (grow_le h3)
theorem froz_le {a a' : AV} (h : Froz H0 a a') (hle : AHeap.le H0 H1) : Froz H1 a a' := by
 induction h with
 | same a => exact .same a
 | sl h1 h2 h3 => exact .sl (hle _ _ h1) h2 h3
 | ptr h1 h2 => exact .ptr (hle _ _ h1) h2
 | agg h1 _ ih => exact .agg h1 ih
theorem own_froz (h : OwnRes H0 H1 r R) : ∃ c1 c2, Froz H1 r (aRes R c1 c2) := by
 obtain ⟨xl, xh, G1, rfl, h2, h3⟩ := h
 obtain ⟨c1, z1⟩ := grow_froz h2
 obtain ⟨c2, z2⟩ := grow_froz h3
 refine ⟨c1, c2, .agg rfl fun i c c' hc hc' => ?_⟩
 match i with
 | 0 => simp at hc hc'; subst hc hc'; exact froz_le z1 (grow_le h3)
 | 1 => simp at hc hc'; subst hc hc'; exact .same _
 | 2 => simp at hc hc'; subst hc hc'; exact .same _
 | 3 => simp at hc hc'; subst hc hc'; exact z2
 | i + 4 => simp at hc
theorem agg1_froz {x y : AV} {H : AHeap} (h : Froz H x y) : Froz H (.agg [x]) (.agg [y]) := by
 refine .agg rfl fun i c c' hc hc' => ?_
 match i with
 | 0 => simp at hc hc'; subst hc hc'; exact h
 | i + 1 => simp at hc
end
end
section
open Go Go.Sim Go.ChangeShapes Go.WideShapes Go.ChangeAt Go.RowKit Go.Deep
set_option maxRecDepth 100000

section
variable {H : Type} {enc : TypeId × Value → H} {P : Program} {w : World} {base : Nat} {spare : Nat → Bool} {held : Bool}
theorem open_slice_fields {t e : TypeId} {fs : Array Field} {fuel : Nat} {cs : List Value} {x : DataW H × List MemPlace} (ht : P.underlying t = some (.slice e)) (he : P.underlying e = some (.struct fs))
  (hone : oneCellFields P fs = true) (hC : P.cellsOf e = fs.size) (h : DataW.trod enc P w base spare held fuel t cs = some x) :
  (cs = [.slice none 0 0] ∧ x = (.nil, [])) ∨
  ∃ (a : Addr) (len cap m : Nat) (D : Nat → DataW H) (Pl : Nat → List MemPlace), cs = [.slice (some a) len cap] ∧ base ≤ a.block ∧ len ≤ cap ∧ cap ≤ maxLen ∧ m = (if spare a.block then cap else len) ∧
   x = (.slice ((List.range len).map D) ((List.range (m - len)).map fun j => D (len + j)), MemPlace.row a (m * fs.size) ++ (List.range m).flatMap Pl) ∧
   ∀ i, i < m → ∃ (ys : List (DataW H × List MemPlace)) (n : Nat), D i = .agg (ys.map (·.1)) ∧ Pl i = ys.flatMap (·.2) ∧ ys.length = fs.size ∧
    ∀ (j : Nat) (f : Field), fs[j]? = some f → ∃ (v : Value) (y : DataW H × List MemPlace), w.cell? (a.add (i * fs.size + j)) = some v ∧ ys[j]? = some y ∧ DataW.trod enc P w base spare held n f.type [v] = some y := by
 rcases open_slice ht h with h0 | ⟨a, len, cap, m, n, D, Pl, hcs, hb, hl, hm, hmm, hx, hi⟩
 ·exact .inl h0
 ·refine .inr ⟨a, len, cap, m, D, Pl, hcs, hb, hl, hm, hmm, by rw [hC] at hx; exact hx, fun i him => ?_⟩
  obtain ⟨cs', hc, ht'⟩ := hi i him
  rw [hC] at hc
  obtain ⟨ys, n', hn', hy, hlen, hyl, hf⟩ := DataW.trod_struct he ht'
  obtain ⟨_, hcl, hat⟩ := World.cells?_some hc
  simp only [Prod.mk.injEq] at hy
  refine ⟨ys, n', hy.1, hy.2, hyl, fun j f hj => ?_⟩
  obtain ⟨ho, hk⟩ := hone_of hone j f hj
  have hjl : j < fs.size := (Array.getElem?_eq_some_iff.1 hj).1
  have hcell := hat j hjl
  have hv : cs'[j]? = some (cs'[j]'(by omega)) := List.getElem?_eq_getElem (by omega)
  have h1 := hf j f hj
  rw [ho, hk] at h1
  have hone' : (cs'.drop j).take 1 = [cs'[j]'(by omega)] := by
   rw [List.drop_eq_getElem_cons (by omega)]
   rfl
  rw [hone'] at h1
  have hys : ys[j]? = some (ys[j]'(by omega)) := List.getElem?_eq_getElem (by omega)
  refine ⟨_, _, ?_, hys, h1.trans hys⟩
  rw [← Go.Deep.add_add, hcell, hv]
theorem weightsAll_mem {e : TypeId} {d : DataW H} {n : Nat} (hn : n ∈ d.weights P e) : ∀ {ds : List (DataW H)}, d ∈ ds → n ∈ DataW.weightsAll P e ds
 | [], h => by cases h
 | x :: r, h => by
  simp only [DataW.weightsAll,List.mem_append]
  rcases List.mem_cons.1 h with rfl | h
  ·exact .inl hn
  ·exact .inr (weightsAll_mem hn h)
end
def fieldsOf (P : Program) (t : TypeId) : Array Field := match P.underlying t with
 | some (.struct fs) => fs
 | _ => #[]
theorem own : ownKnob Tryz.prog.godebug = none := by kernel_rfl
theorem laidOut : laidOutB Tryz.prog = true := by kernel_rfl
theorem none_dom (b : Nat) : ¬ AHeap.none.dom b := fun h => h rfl
theorem hrel_none (w : World) : HRel AHeap.none w := ⟨fun b k h => (by cases h), fun b k h => (by cases h)⟩
theorem shape_lt {w : World} {b : Nat} {x : TypeId × Nat} (h : w.shape? b = some x) : b < w.heap.size := by
 unfold World.shape? at h
 rcases Nat.lt_or_ge b w.heap.size with q | q
 ·exact q
 ·rw [Array.getElem?_eq_none q] at h; cases h
theorem addr_add (b off k : Nat) : (⟨b, off, none⟩ : Addr).add k = ⟨b, off + k, none⟩ := by
 unfold Addr.add
 split
 ·rename_i h; subst h; rfl
 ·rfl
theorem rel_vals {α : Type} [Inhabited α] (vals : α → List Value) (row : α → List AV) (hrow : ∀ x, row x = (vals x).map .lit) (n : Nat) (hn : ∀ x, (vals x).length = n) (one : ∀ x, ∀ v ∈ vals x, v.oneCell' = true) {w : World} {b off len cap : Nat} (l : List α)
  (hl : l.length = len) (h1 : len ≤ cap) (h2 : cap ≤ maxLen) (hb : b < w.heap.size) (hc : ∀ i, i < len → ∀ j v, (vals (l.getD i default))[j]? = some v → w.cell? ⟨b, off + (i * n + j), none⟩ = some v) :
  Rel AHeap.none.dom w (.vsl (l.map row) false) (.slice (some ⟨b, off, none⟩) len cap) := by
 have hrl : (l.map row).length = len := by rw [List.length_map, hl]
 have at_ : ∀ (p : Nat) (r : List AV), (l.map row)[p]? = some r → p < len ∧ r = (vals (l.getD p default)).map .lit := by
  intro p r hp
  rw [List.getElem?_map] at hp
  cases hq : l[p]? with
  | none => rw [hq] at hp; cases hp
  | some y =>
   rw [hq] at hp
   have hlt := (List.getElem?_eq_some_iff.1 hq).1
   refine ⟨by omega, ?_⟩
   rw [List.getD_eq_getElem?_getD, hq]
   simp only [Option.map_some,Option.some.injEq] at hp
   rw [← hp, hrow]; rfl
 have key := Rel.vsl (O := AHeap.none.dom) (w := w) (l.map row) false b off n cap (fun p q => ((vals (l.getD p default)).getD q undef)) (by rw [hrl]; exact h1) h2 (fun h => by cases h) (by first | exact none_dom b | exact fun _ => none_dom b) hb ?_ ?_ ?_ ?_
 ·rw [hrl] at key; exact key
 ·intro p r hp
  rw [(at_ p r hp).2, List.length_map, hn]
 ·intro p q r x hp hx
  obtain ⟨h1, rfl⟩ := at_ p r hp
  rw [List.getElem?_map] at hx
  cases hv : (vals (l.getD p default))[q]? with
  | none => rw [hv] at hx; cases hx
  | some v => rw [hc p h1 q v hv, List.getD_eq_getElem?_getD, hv]; rfl
 ·intro p q r x hp hx
  obtain ⟨h1, rfl⟩ := at_ p r hp
  rw [List.getElem?_map] at hx
  cases hv : (vals (l.getD p default))[q]? with
  | none => rw [hv] at hx; cases hx
  | some v => rw [List.getD_eq_getElem?_getD, hv]; exact one _ v (List.mem_of_getElem? hv)
 ·intro p q r x hp hx
  obtain ⟨h1, rfl⟩ := at_ p r hp
  rw [List.getElem?_map] at hx
  cases hv : (vals (l.getD p default))[q]? with
  | none => rw [hv] at hx; cases hx
  | some v =>
   rw [hv] at hx
   simp only [Option.map_some,Option.some.injEq] at hx
   rw [List.getD_eq_getElem?_getD, hv, ← hx]
   exact .lit v
def vLine (x : Line) : List Value := [.int .i64 x.depth, .int .i64 x.kind, .int .i64 x.a, .int .i64 x.b]
def vClass (x : Class) : List Value := [.string ⟨x.name.toArray⟩, .int .i64 x.parent]
theorem vLine_row (x : Line) : rLine x = (vLine x).map .lit := rfl
def vExit (x : Exi) : List Value := [.int .i64 x.kind, .int .i64 x.a, .int .i64 x.b]
theorem vExit_row (x : Exi) : rExit x = (vExit x).map .lit := rfl
theorem vClass_row (x : Class) : rClass x = (vClass x).map .lit := rfl
section
variable {H : Type} {enc : TypeId × Value → H} {w : World} {held : Bool} {fuel : Nat}
theorem open_lines {v : Value} {x : DataW H × List MemPlace} (h : DataW.trod enc Tryz.prog w 0 (fun _ => true) held fuel 59 [v] = some x) (hs : Cell.okWide Tryz.prog w .any 0 59 v) (hz : ∀ n ∈ x.1.weights Tryz.prog 59, n ≤ reachBytes) :
  ∃ p : List Line, p.length ≤ 4398046511104 ∧ Rel AHeap.none.dom w (.vsl (p.map rLine) false) v := by
 rcases open_slice_fields (fs := fieldsOf Tryz.prog 113) Tryz.underlying59 (by kernel_rfl) (by kernel_rfl) (by kernel_rfl) h with ⟨hcs, _⟩ | ⟨a, len, cap, m, D, Pl, hcs, _, hl, hm, hmm, hx, hf⟩
 ·injection hcs with e _
  rw [e]
  exact ⟨[], by simp, .vnil false⟩
 ·injection hcs with e _
  subst e
  obtain ⟨b, off, spot⟩ := a
  simp only [Cell.okWide,Tryz.underlying59,Cell.ok,World.has] at hs
  obtain ⟨_, _, _, rfl, row, cells, hsh, _⟩ := hs
  simp only [if_true] at hmm
  subst hmm
  have hsz : (fieldsOf Tryz.prog 113).size = 4 := by kernel_rfl
  have hty : ∀ j, j < 4 → ∃ f, (fieldsOf Tryz.prog 113)[j]? = some f ∧ f.type = 3 := by
   intro j hj
   have h0 : ((fieldsOf Tryz.prog 113)[0]?).map (·.type) = some 3 := by kernel_rfl
   have h1 : ((fieldsOf Tryz.prog 113)[1]?).map (·.type) = some 3 := by kernel_rfl
   have h2 : ((fieldsOf Tryz.prog 113)[2]?).map (·.type) = some 3 := by kernel_rfl
   have h3 : ((fieldsOf Tryz.prog 113)[3]?).map (·.type) = some 3 := by kernel_rfl
   have hh : ((fieldsOf Tryz.prog 113)[j]?).map (·.type) = some 3 := by
    match j, hj with
    | 0, _ => exact h0
    | 1, _ => exact h1
    | 2, _ => exact h2
    | 3, _ => exact h3
   obtain ⟨f, hf1, hf2⟩ := Option.map_eq_some_iff.1 hh
   exact ⟨f, hf1, hf2⟩
  have cell : ∀ i, i < m → ∀ j, j < 4 → ∃ n : Int, w.cell? ⟨b, off + (i * 4 + j), none⟩ = some (.int .i64 n) := by
   intro i hi j hj
   obtain ⟨ys, n, _, _, _, hfj⟩ := hf i hi
   obtain ⟨f, hf1, hf2⟩ := hty j hj
   obtain ⟨v, y, hc, _, ht⟩ := hfj j f hf1
   rw [hf2] at ht
   obtain ⟨k, hk, _⟩ := DataW.trod_int Tryz.underlying3 ht
   injection hk with hk _
   rw [hsz, addr_add, hk] at hc
   exact ⟨k, hc⟩
  have cell' : ∀ i j, ∃ n : Int, i < m → j < 4 → w.cell? ⟨b, off + (i * 4 + j), none⟩ = some (.int .i64 n) := by
   intro i j
   by_cases hi : i < m
   ·by_cases hj : j < 4
    ·obtain ⟨n, hn⟩ := cell i hi j hj; exact ⟨n, fun _ _ => hn⟩
    ·exact ⟨0, fun _ q => absurd q hj⟩
   ·exact ⟨0, fun q => absurd q hi⟩
  let nn : Nat → Nat → Int := fun i j => (cell' i j).choose
  have hnn : ∀ i j, i < m → j < 4 → w.cell? ⟨b, off + (i * 4 + j), none⟩ = some (.int .i64 (nn i j)) := fun i j => (cell' i j).choose_spec
  let p : List Line := (List.range len).map fun i => ⟨nn i 0, nn i 1, nn i 2, nn i 3⟩
  have hpl : p.length = len := by simp [p]
  refine ⟨p, ?_, ?_⟩
  ·have hw := hz ((((List.range len).map D).length + ((List.range (m - len)).map fun j => D (len + j)).length) * Tryz.prog.bytesOf 113) (by rw [hx]; simp [DataW.weights, Tryz.underlying59])
   have hby : Tryz.prog.bytesOf 113 = 32 := by kernel_rfl
   rw [hby] at hw
   simp only [List.length_map,List.length_range,reachBytes] at hw
   rw [hpl]
   omega
  ·refine rel_vals vLine rLine vLine_row 4 (fun _ => rfl) (fun x v hv => ?_) p hpl hl hm (shape_lt hsh) (fun i hi j v hv => ?_)
   ·simp only [vLine,List.mem_cons,List.not_mem_nil,or_false] at hv
    rcases hv with rfl | rfl | rfl | rfl <;> rfl
   ·have hpi : p.getD i default = ⟨nn i 0, nn i 1, nn i 2, nn i 3⟩ := by
     simp [p, List.getD_eq_getElem?_getD, hi]
    rw [hpi] at hv
    have hc := fun j hj => hnn i j (by omega) hj
    match j, hv with
    | 0, hv => simp only [vLine,List.getElem?_cons_zero,Option.some.injEq] at hv; rw [← hv]; exact hc 0 (by omega)
    | 1, hv => simp only [vLine,List.getElem?_cons_succ,List.getElem?_cons_zero,Option.some.injEq] at hv; rw [← hv]; exact hc 1 (by omega)
    | 2, hv => simp only [vLine,List.getElem?_cons_succ,List.getElem?_cons_zero,Option.some.injEq] at hv; rw [← hv]; exact hc 2 (by omega)
    | 3, hv => simp only [vLine,List.getElem?_cons_succ,List.getElem?_cons_zero,Option.some.injEq] at hv; rw [← hv]; exact hc 3 (by omega)
    | j + 4, hv => simp [vLine] at hv
theorem open_exits {v : Value} {x : DataW H × List MemPlace} (h : DataW.trod enc Tryz.prog w 0 (fun _ => true) held fuel 71 [v] = some x) (hs : Cell.okWide Tryz.prog w .any 0 71 v) (hz : ∀ n ∈ x.1.weights Tryz.prog 71, n ≤ reachBytes) :
  ∃ p : List Exi, p.length ≤ 6000000000000 ∧ Rel AHeap.none.dom w (.vsl (p.map rExit) false) v := by
 rcases open_slice_fields (fs := fieldsOf Tryz.prog 120) Tryz.underlying71 (by kernel_rfl) (by kernel_rfl) (by kernel_rfl) h with ⟨hcs, _⟩ | ⟨a, len, cap, m, D, Pl, hcs, _, hl, hm, hmm, hx, hf⟩
 ·injection hcs with e _
  rw [e]
  exact ⟨[], by simp, .vnil false⟩
 ·injection hcs with e _
  subst e
  obtain ⟨b, off, spot⟩ := a
  simp only [Cell.okWide,Tryz.underlying71,Cell.ok,World.has] at hs
  obtain ⟨_, _, _, rfl, row, cells, hsh, _⟩ := hs
  simp only [if_true] at hmm
  subst hmm
  have hsz : (fieldsOf Tryz.prog 120).size = 3 := by kernel_rfl
  have hty : ∀ j, j < 3 → ∃ f, (fieldsOf Tryz.prog 120)[j]? = some f ∧ f.type = 3 := by
   intro j hj
   have h0 : ((fieldsOf Tryz.prog 120)[0]?).map (·.type) = some 3 := by kernel_rfl
   have h1 : ((fieldsOf Tryz.prog 120)[1]?).map (·.type) = some 3 := by kernel_rfl
   have h2 : ((fieldsOf Tryz.prog 120)[2]?).map (·.type) = some 3 := by kernel_rfl
   have hh : ((fieldsOf Tryz.prog 120)[j]?).map (·.type) = some 3 := by
    match j, hj with
    | 0, _ => exact h0
    | 1, _ => exact h1
    | 2, _ => exact h2
   obtain ⟨f, hf1, hf2⟩ := Option.map_eq_some_iff.1 hh
   exact ⟨f, hf1, hf2⟩
  have cell : ∀ i, i < m → ∀ j, j < 3 → ∃ n : Int, w.cell? ⟨b, off + (i * 3 + j), none⟩ = some (.int .i64 n) := by
   intro i hi j hj
   obtain ⟨ys, n, _, _, _, hfj⟩ := hf i hi
   obtain ⟨f, hf1, hf2⟩ := hty j hj
   obtain ⟨v, y, hc, _, ht⟩ := hfj j f hf1
   rw [hf2] at ht
   obtain ⟨k, hk, _⟩ := DataW.trod_int Tryz.underlying3 ht
   injection hk with hk _
   rw [hsz, addr_add, hk] at hc
   exact ⟨k, hc⟩
  have cell' : ∀ i j, ∃ n : Int, i < m → j < 3 → w.cell? ⟨b, off + (i * 3 + j), none⟩ = some (.int .i64 n) := by
   intro i j
   by_cases hi : i < m
   ·by_cases hj : j < 3
    ·obtain ⟨n, hn⟩ := cell i hi j hj; exact ⟨n, fun _ _ => hn⟩
    ·exact ⟨0, fun _ q => absurd q hj⟩
   ·exact ⟨0, fun q => absurd q hi⟩
  let nn : Nat → Nat → Int := fun i j => (cell' i j).choose
  have hnn : ∀ i j, i < m → j < 3 → w.cell? ⟨b, off + (i * 3 + j), none⟩ = some (.int .i64 (nn i j)) := fun i j => (cell' i j).choose_spec
  let p : List Exi := (List.range len).map fun i => ⟨nn i 0, nn i 1, nn i 2⟩
  have hpl : p.length = len := by simp [p]
  refine ⟨p, ?_, ?_⟩
  ·have hw := hz ((((List.range len).map D).length + ((List.range (m - len)).map fun j => D (len + j)).length) * Tryz.prog.bytesOf 120) (by rw [hx]; simp [DataW.weights, Tryz.underlying71])
   have hby : Tryz.prog.bytesOf 120 = 24 := by kernel_rfl
   rw [hby] at hw
   simp only [List.length_map,List.length_range,reachBytes] at hw
   rw [hpl]
   omega
  ·refine rel_vals vExit rExit vExit_row 3 (fun _ => rfl) (fun x v hv => ?_) p hpl hl hm (shape_lt hsh) (fun i hi j v hv => ?_)
   ·simp only [vExit,List.mem_cons,List.not_mem_nil,or_false] at hv
    rcases hv with rfl | rfl | rfl <;> rfl
   ·have hpi : p.getD i default = ⟨nn i 0, nn i 1, nn i 2⟩ := by
     simp [p, List.getD_eq_getElem?_getD, hi]
    rw [hpi] at hv
    have hc := fun j hj => hnn i j (by omega) hj
    match j, hv with
    | 0, hv => simp only [vExit,List.getElem?_cons_zero,Option.some.injEq] at hv; rw [← hv]; exact hc 0 (by omega)
    | 1, hv => simp only [vExit,List.getElem?_cons_succ,List.getElem?_cons_zero,Option.some.injEq] at hv; rw [← hv]; exact hc 1 (by omega)
    | 2, hv => simp only [vExit,List.getElem?_cons_succ,List.getElem?_cons_zero,Option.some.injEq] at hv; rw [← hv]; exact hc 2 (by omega)
    | j + 3, hv => simp [vExit] at hv
theorem open_classes {v : Value} {x : DataW H × List MemPlace} (h : DataW.trod enc Tryz.prog w 0 (fun _ => true) held fuel 56 [v] = some x) (hs : Cell.okWide Tryz.prog w .any 0 56 v) (hz : ∀ n ∈ x.1.weights Tryz.prog 56, n ≤ reachBytes) :
  ∃ t : List Class, namesOk t ∧ Rel AHeap.none.dom w (.vsl (t.map rClass) false) v := by
 rcases open_slice_fields (fs := fieldsOf Tryz.prog 169) Tryz.underlying56 (by kernel_rfl) (by kernel_rfl) (by kernel_rfl) h with ⟨hcs, _⟩ | ⟨a, len, cap, m, D, Pl, hcs, _, hl, hm, hmm, hx, hf⟩
 ·injection hcs with e _
  rw [e]
  exact ⟨[], fun c hc => (by cases hc), .vnil false⟩
 ·injection hcs with e _
  subst e
  obtain ⟨b, off, spot⟩ := a
  simp only [Cell.okWide,Tryz.underlying56,Cell.ok,World.has] at hs
  obtain ⟨_, _, _, rfl, row, cells, hsh, _⟩ := hs
  simp only [if_true] at hmm
  subst hmm
  have hsz : (fieldsOf Tryz.prog 169).size = 2 := by kernel_rfl
  have h0 : ((fieldsOf Tryz.prog 169)[0]?).map (·.type) = some 9 := by kernel_rfl
  have h1 : ((fieldsOf Tryz.prog 169)[1]?).map (·.type) = some 3 := by kernel_rfl
  have hst : Tryz.prog.underlying 169 = some (.struct (fieldsOf Tryz.prog 169)) := by kernel_rfl
  have hts : (fieldsOf Tryz.prog 169).toList.map (·.type) = [9, 3] := by kernel_rfl
  obtain ⟨f0, hf0, ht0⟩ := Option.map_eq_some_iff.1 h0
  obtain ⟨f1, hf1, ht1⟩ := Option.map_eq_some_iff.1 h1
  have cell : ∀ i, i < m → ∃ (s : List UInt8) (n : Int), w.cell? ⟨b, off + (i * 2 + 0), none⟩ = some (.string ⟨s.toArray⟩) ∧ w.cell? ⟨b, off + (i * 2 + 1), none⟩ = some (.int .i64 n) ∧ (i < len → s.length ≤ reachBytes) := by
   intro i hi
   obtain ⟨ys, n, hD, _, hyl, hfj⟩ := hf i hi
   obtain ⟨v0, y0, hc0, hy0, g0⟩ := hfj 0 f0 hf0
   obtain ⟨v1, y1, hc1, hy1, g1⟩ := hfj 1 f1 hf1
   rw [ht0] at g0
   rw [ht1] at g1
   obtain ⟨s, hs1, hs2, _⟩ := DataW.trod_string Tryz.underlying9 g0
   obtain ⟨k, hk1, _, _⟩ := DataW.trod_int Tryz.underlying3 g1
   injection hs1 with hs1 _
   injection hk1 with hk1 _
   rw [hsz, addr_add, hs1] at hc0
   rw [hsz, addr_add, hk1] at hc1
   refine ⟨s.data.toList, k, by rw [hc0], hc1, fun hil => hz _ ?_⟩
   rw [hx]
   simp only [DataW.weights,Tryz.underlying56,List.mem_cons,List.mem_append]
   refine .inr (.inl (weightsAll_mem (d := D i) ?_ (List.mem_map.2 ⟨i, List.mem_range.2 hil, rfl⟩)))
   rw [hD]
   simp only [DataW.weights,hst,hts]
   rw [hsz] at hyl
   match ys, hyl, hy0 with
   | [z0, z1], _, hy0 =>
    simp only [List.getElem?_cons_zero,Option.some.injEq] at hy0
    subst hy0
    rw [hs2]
    simp [DataW.weightsEach, DataW.weights]
  have cell' : ∀ i, ∃ q : List UInt8 × Int, i < m → w.cell? ⟨b, off + (i * 2 + 0), none⟩ = some (.string ⟨q.1.toArray⟩) ∧ w.cell? ⟨b, off + (i * 2 + 1), none⟩ = some (.int .i64 q.2) ∧ (i < len → q.1.length ≤ reachBytes) := by
   intro i
   by_cases hi : i < m
   ·obtain ⟨s, n, hn⟩ := cell i hi; exact ⟨(s, n), fun _ => hn⟩
   ·exact ⟨([], 0), fun q => absurd q hi⟩
  let nn : Nat → List UInt8 × Int := fun i => (cell' i).choose
  have hnn : ∀ i, i < m → w.cell? ⟨b, off + (i * 2 + 0), none⟩ = some (.string ⟨(nn i).1.toArray⟩) ∧ w.cell? ⟨b, off + (i * 2 + 1), none⟩ = some (.int .i64 (nn i).2) ∧ (i < len → (nn i).1.length ≤ reachBytes) := fun i => (cell' i).choose_spec
  let p : List Class := (List.range len).map fun i => ⟨(nn i).1, (nn i).2⟩
  have hpl : p.length = len := by simp [p]
  refine ⟨p, ?_, ?_⟩
  ·intro c hc
   obtain ⟨i, hi, rfl⟩ := List.mem_map.1 hc
   have hi' := List.mem_range.1 hi
   have := (hnn i (by omega)).2.2 hi'
   simp only [reachBytes] at this
   show (nn i).1.length < _
   omega
  ·refine rel_vals vClass rClass vClass_row 2 (fun _ => rfl) (fun x v hv => ?_) p hpl hl hm (shape_lt hsh) (fun i hi j v hv => ?_)
   ·simp only [vClass,List.mem_cons,List.not_mem_nil,or_false] at hv
    rcases hv with rfl | rfl <;> rfl
   ·have hpi : p.getD i default = ⟨(nn i).1, (nn i).2⟩ := by
     simp [p, List.getD_eq_getElem?_getD, hi]
    rw [hpi] at hv
    have hc := hnn i (by omega)
    match j, hv with
    | 0, hv => simp only [vClass,List.getElem?_cons_zero,Option.some.injEq] at hv; rw [← hv]; exact hc.1
    | 1, hv => simp only [vClass,List.getElem?_cons_succ,List.getElem?_cons_zero,Option.some.injEq] at hv; rw [← hv]; exact hc.2.1
    | j + 2, hv => simp [vClass] at hv
theorem size_one {cs : Array Value} (h : cs.size = 1) : ∃ c, cs = #[c] := by
 obtain ⟨l⟩ := cs
 match l, h with
 | [c], _ => exact ⟨c, rfl⟩
theorem len_one {α : Type} {l : List α} (h : l.length = 1) : ∃ c, l = [c] := by
 match l, h with
 | [c], _ => exact ⟨c, rfl⟩
theorem open_tree {v : Value} {x : DataW H × List MemPlace} (h : DataW.trod enc Tryz.prog w 0 (fun _ => true) held fuel 58 v.cells.toList = some x) (hs : Value.okWide Tryz.prog w .any 0 58 v) (hz : ∀ n ∈ x.1.weights Tryz.prog 58, n ≤ reachBytes) :
  ∃ (t : List Class) (c : Value), v = .agg #[c] ∧ c.oneCell' = true ∧ namesOk t ∧ Rel AHeap.none.dom w (.vsl (t.map rClass) false) c := by
 have hst : Tryz.prog.underlying 58 = some (.struct (fieldsOf Tryz.prog 58)) := by kernel_rfl
 have hC : Tryz.prog.cellsOf 58 = 1 := by kernel_rfl
 have hts2 : Tryz.prog.cellTypes Tryz.prog.depth 58 = some [56] := by kernel_rfl
 have hfs : (fieldsOf Tryz.prog 58).size = 1 := by kernel_rfl
 have hft : ((fieldsOf Tryz.prog 58)[0]?).map (·.type) = some 56 := by kernel_rfl
 have hone : oneCellFields Tryz.prog (fieldsOf Tryz.prog 58) = true := by kernel_rfl
 have htl : (fieldsOf Tryz.prog 58).toList.map (·.type) = [56] := by kernel_rfl
 simp only [Value.okWide,hst] at hs
 obtain ⟨cs, rfl, hcs, ts, hts, _, hcell⟩ := hs
 rw [hts2] at hts
 injection hts with hts
 rw [hC] at hcs
 obtain ⟨c0, rfl⟩ := size_one hcs
 have hc0 : Cell.okWide Tryz.prog w .any 0 56 c0 := by
  obtain ⟨u, hu1, hu2⟩ := hcell 0 c0 rfl
  rw [← hts] at hu1
  simp only [List.length_singleton,Nat.mod_one,List.getElem?_cons_zero,Option.some.injEq] at hu1
  rw [← hu1] at hu2
  exact hu2
 obtain ⟨xs, n, _, hx, _, hlen, hg⟩ := DataW.trod_struct hst h
 obtain ⟨f0, hf0, ht0⟩ := Option.map_eq_some_iff.1 hft
 obtain ⟨o0, ok0⟩ := hone_of hone 0 f0 hf0
 rw [hfs] at hlen
 obtain ⟨y0, rfl⟩ := len_one hlen
 have h2 := hg 0 f0 hf0
 rw [o0, ok0, ht0] at h2
 simp only [Value.cells,List.drop_zero,List.take_succ_cons,List.take_zero,List.getElem?_cons_zero] at h2
 rw [hx] at hz
 obtain ⟨tl, g1, g2⟩ := open_classes (x := y0) h2 hc0 fun n hn => hz n (by
  simp only [List.map_cons,List.map_nil,DataW.weights,hst,htl,DataW.weightsEach,List.mem_append]
  exact .inl hn)
 refine ⟨tl, c0, rfl, ?_, g1, g2⟩
 simp only [Cell.okWide,Tryz.underlying56] at hc0
 cases c0 <;> first | rfl | (simp [Cell.ok, Tryz.underlying56] at hc0)
end
theorem below_of {H' : AHeap} {w w' : World} (h : Ev AHeap.none.dom w w') : Below w.heap.size w w' :=
 ⟨h.os, h.tape, h.output, h.size, fun k hk => h.keep k hk (none_dom k)⟩
theorem rel_tree {w : World} {t : List Class} {v : Value} (ht : Rel AHeap.none.dom w (.vsl (t.map rClass) false) v) (hv1 : v.oneCell' = true) : Rel AHeap.none.dom w (aTree t false) (.agg #[v]) := by
 refine .agg _ _ rfl (fun i x hx => ?_) (fun i c x hc hx => ?_)
 ·cases i with
  | zero => simp at hx; subst hx; exact hv1
  | succ i => simp at hx
 ·cases i with
  | zero => simp at hx hc; subst hx; subst hc; exact ht
  | succ i => simp at hx
theorem range_only (f : Nat) : ∀ n : Nat, (List.range n).filter (fun i => decide (i = f)) = if f < n then [f] else []
 | 0 => by simp
 | n + 1 => by
  rw [List.range_succ, List.filter_append, range_only f n]
  by_cases h : f < n
  ·rw [if_pos h, if_pos (by omega)]
   have : ¬ n = f := by omega
   simp [this]
  ·rw [if_neg h]
   by_cases e : n = f
   ·rw [if_pos (by omega)]; simp [e]
   ·rw [if_neg (by omega)]; simp [e]
def namedPart (P : Program) (name : String) (f a k : Nat) : Bool := (List.range k).all fun i => (P.funcs[a + i]?).any (·.name == name) == decide (a + i = f)
theorem namedPart_at {P : Program} {name : String} {f a k i : Nat} (h : namedPart P name f a k = true) (h1 : a ≤ i) (h2 : i < a + k) : (P.funcs[i]?).any (·.name == name) = decide (i = f) := by
 unfold namedPart at h
 have := List.all_eq_true.1 h (i - a) (List.mem_range.2 (by omega))
 rw [show a + (i - a) = i by omega] at this
 exact eq_of_beq this
theorem named_of {P : Program} {name : String} {f : Nat} (hf : f < P.funcs.size) (hs : P.funcs.size ≤ 320) (h0 : namedPart P name f 0 40 = true) (h1 : namedPart P name f 40 40 = true) (h2 : namedPart P name f 80 40 = true) (h3 : namedPart P name f 120 40 = true) (h4 : namedPart P name f 160 40 = true) (h5 : namedPart P name f 200 40 = true) (h6 : namedPart P name f 240 40 = true) (h7 : namedPart P name f 280 40 = true) : P.funcNamed name = some f := by
 have key : ∀ i, i < P.funcs.size → (P.funcs[i]?).any (·.name == name) = decide (i = f) := by
  intro i hi
  rcases Nat.lt_or_ge i 40 with q | q
  ·exact namedPart_at h0 (by omega) (by omega)
  rcases Nat.lt_or_ge i 80 with q | q
  ·exact namedPart_at h1 (by omega) (by omega)
  rcases Nat.lt_or_ge i 120 with q | q
  ·exact namedPart_at h2 (by omega) (by omega)
  rcases Nat.lt_or_ge i 160 with q | q
  ·exact namedPart_at h3 (by omega) (by omega)
  rcases Nat.lt_or_ge i 200 with q | q
  ·exact namedPart_at h4 (by omega) (by omega)
  rcases Nat.lt_or_ge i 240 with q | q
  ·exact namedPart_at h5 (by omega) (by omega)
  rcases Nat.lt_or_ge i 280 with q | q
  ·exact namedPart_at h6 (by omega) (by omega)
  ·exact namedPart_at h7 (by omega) (by omega)
 unfold Program.funcNamed
 rw [List.filter_congr (fun i hi => key i (List.mem_range.1 hi)), range_only, if_pos hf]
end
section
open Go Go.Sim
set_option maxRecDepth 100000
theorem le_s1 {F G : AHeap} {b : Nat} {A : ABlk} (h : AHeap.le F G) (hb : F b = none) : AHeap.le F (G.set b A) := by
 intro c k hc
 have c1 : c ≠ b := fun e => by rw [e, hb] at hc; cases hc
 rw [set_other c1]; exact h c k hc
end
section
open Go Go.Sim
set_option maxRecDepth 100000
set_option maxHeartbeats 4000000

theorem c_toClass (x : Class) (H : AHeap) : ACalls Tryz.prog 125 [.agg (rClass x)] H fun r H' => r = .agg (rClass x) ∧ H' = H := by
 refine acalls_of1 Tryz.func125 rfl (by kernel_rfl) rfl rfl (awp_sound (fz := fun _ => []) (im := fun s => s == 1) mixed _ _ _ _ (by kernel_rfl) ?_)
 simp +contextual -dsimp -implicitDefEqProofs (maxSteps:=5000000) only [go_sem,reduceIte,reduceCtorEq,Nat.reduceEqDiff,Nat.reduceBEq,Nat.reduceAdd,Nat.reduceLeDiff,Nat.reduceMul,Nat.reduceLT,Int.reduceEq,Int.reduceLT,Int.reduceLE]
 intro b2 hb2 b3 hb3
 obtain ⟨n1, n2, hb3⟩ := hb3
 refine retR_less (l := [.agg (rClass x)]) (H' := H) ?_ (le_s1 (le_s1 (AHeap.le_refl _) hb2) hb3) ⟨rfl, rfl⟩
 simp only [resA,go_sem,reduceIte,reduceCtorEq,Nat.reduceEqDiff,Nat.reduceBEq,Nat.reduceAdd,Nat.reduceLeDiff,Nat.reduceMul,Nat.reduceLT,Int.reduceEq,Int.reduceLT,Int.reduceLE,n1,n2]
theorem c_toLine (x : Line) (H : AHeap) : ACalls Tryz.prog 78 [.agg (rLine x)] H fun r H' => r = .agg (rLine x) ∧ H' = H := by
 refine acalls_of1 Tryz.func78 rfl (by kernel_rfl) rfl rfl (awp_sound (fz := fun _ => []) (im := fun s => s == 1) mixed _ _ _ _ (by kernel_rfl) ?_)
 simp +contextual -dsimp -implicitDefEqProofs (maxSteps:=5000000) only [go_sem,reduceIte,reduceCtorEq,Nat.reduceEqDiff,Nat.reduceBEq,Nat.reduceAdd,Nat.reduceLeDiff,Nat.reduceMul,Nat.reduceLT,Int.reduceEq,Int.reduceLT,Int.reduceLE]
 intro b2 hb2 b3 hb3
 obtain ⟨n1, n2, hb3⟩ := hb3
 refine retR_less (l := [.agg (rLine x)]) (H' := H) ?_ (le_s1 (le_s1 (AHeap.le_refl _) hb2) hb3) ⟨rfl, rfl⟩
 simp only [resA,go_sem,reduceIte,reduceCtorEq,Nat.reduceEqDiff,Nat.reduceBEq,Nat.reduceAdd,Nat.reduceLeDiff,Nat.reduceMul,Nat.reduceLT,Int.reduceEq,Int.reduceLT,Int.reduceLE,n1,n2]
theorem c_toExit (x : Exi) (H : AHeap) : ACalls Tryz.prog 86 [.agg (rExit x)] H fun r H' => r = .agg (rExit x) ∧ H' = H := by
 refine acalls_of1 Tryz.func86 rfl (by kernel_rfl) rfl rfl (awp_sound (fz := fun _ => []) (im := fun s => s == 1) mixed _ _ _ _ (by kernel_rfl) ?_)
 simp +contextual -dsimp -implicitDefEqProofs (maxSteps:=5000000) only [go_sem,reduceIte,reduceCtorEq,Nat.reduceEqDiff,Nat.reduceBEq,Nat.reduceAdd,Nat.reduceLeDiff,Nat.reduceMul,Nat.reduceLT,Int.reduceEq,Int.reduceLT,Int.reduceLE]
 intro b2 hb2 b3 hb3
 obtain ⟨n1, n2, hb3⟩ := hb3
 refine retR_less (l := [.agg (rExit x)]) (H' := H) ?_ (le_s1 (le_s1 (AHeap.le_refl _) hb2) hb3) ⟨rfl, rfl⟩
 simp only [resA,go_sem,reduceIte,reduceCtorEq,Nat.reduceEqDiff,Nat.reduceBEq,Nat.reduceAdd,Nat.reduceLeDiff,Nat.reduceMul,Nat.reduceLT,Int.reduceEq,Int.reduceLT,Int.reduceLE,n1,n2]
theorem wr_row {F : AHeap} {b sz k : Nat} {ty : TypeId} {es : List (List AV)} {row : List AV} (hk : k < es.length) (hr : ∀ r ∈ es, r.length = sz) (hrow : row.length = sz) : wrA (F.set b ⟨sz, ty, es⟩) (.ptr b sz k 0) row = some (F.set b ⟨sz, ty, es.set k row⟩) := by
 have h1 := hr es[k] (List.getElem_mem hk)
 simp only [wrA,AHeap.set_self,if_true,List.getElem?_eq_getElem hk,Nat.zero_add,List.take_zero,List.nil_append,set_set]
 rw [if_pos (by omega), List.drop_eq_nil_of_le (by omega), List.append_nil]
theorem row_step {α : Type} [Inhabited α] {g : α → List AV} {l : List α} {es : List (List AV)} {k : Nat} (hk : k < l.length) (hes : es.length = l.length) (h : es.take k = (l.take k).map g) : (es.set k (g (l.getD k default))).take (k + 1) = (l.take (k + 1)).map g := by
 rw [List.take_succ_eq_append_getElem (by simpa [hes] using hk), List.take_succ_eq_append_getElem hk, List.map_append, List.take_set_of_le (Nat.le_refl _), h, List.getElem_set_self]
 rw [List.getD_eq_getElem?_getD, List.getElem?_eq_getElem hk]
 rfl
theorem rows_set {es : List (List AV)} {k n : Nat} {r : List AV} (h : ∀ x ∈ es, x.length = n) (hr : r.length = n) : ∀ x ∈ es.set k r, x.length = n := by
 intro x hx
 rcases List.mem_or_eq_of_mem_set hx with q | q
 ·exact h x q
 ·rw [q]; exact hr
theorem c_toClassS (l : List Class) (cl : Bool) (H : AHeap) (hl : l.length ≤ 1048576) : ACalls Tryz.prog 77 [.vsl (l.map rClass) cl] H fun r H' => Grow rClass 2 144 H H' r l := by
 refine acalls_of0 Tryz.func77 rfl (by kernel_rfl) rfl rfl (awp_sound (fz := fun _ => []) (im := fun _ => false) mixed _ _ _ _ (by kernel_rfl) ?_)
 simp +contextual -dsimp -implicitDefEqProofs (maxSteps:=5000000) only [go_sem,reduceIte,reduceCtorEq,Nat.reduceEqDiff,Nat.reduceBEq,Nat.reduceAdd,Nat.reduceLeDiff,Nat.reduceMul,Nat.reduceLT,Int.reduceEq,Int.reduceLT,Int.reduceLE]
 refine ⟨by omega, by omega, by omega, fun b hb => ?_⟩
 refine aloop mixed (fz := fun _ => []) (im := fun _ => false) (by kernel_rfl) (fun m tm H' => ∃ (k : Nat) (es : List (List AV)), m = l.length - k ∧ k ≤ l.length ∧ es.length = l.length ∧ es.take k = (l.take k).map rClass ∧ (∀ r ∈ es, r.length = 2) ∧ H' = H.set b ⟨2, 144, es⟩ ∧ tm 0 = .vsl (l.map rClass) cl ∧ tm 3 = .sl b 2 0 l.length false ∧ tm 4 = I k) l.length ⟨0, _, by omega, by omega, List.length_replicate, rfl, (fun r hr => by rw [List.eq_of_mem_replicate hr]; rfl), rfl, ?_⟩ ?_
 ·simp +contextual -dsimp -implicitDefEqProofs (maxSteps:=5000000) only [go_sem,reduceIte,reduceCtorEq,Nat.reduceEqDiff,Nat.reduceBEq,Nat.reduceAdd,Nat.reduceLeDiff,Nat.reduceMul,Nat.reduceLT,Int.reduceEq,Int.reduceLT,Int.reduceLE]
 ·rintro m tm H' ⟨k, es, rfl, hk, hes, htk, hrow, rfl, t0, t3, t4⟩
  by_cases hlt : k < l.length
  ·have hw := wr_row (F := H) (b := b) (ty := 144) (k := k) (es := es) (row := rClass (l.getD k default)) (by omega) hrow rfl
   rw [wr_o, AHeap.set_self] at hw
   simp only [rClass] at hw
   simp +contextual -dsimp -implicitDefEqProofs (maxSteps:=5000000) only [go_sem,reduceIte,reduceCtorEq,Nat.reduceEqDiff,Nat.reduceBEq,Nat.reduceAdd,Nat.reduceLeDiff,Nat.reduceMul,Nat.reduceLT,Int.reduceEq,Int.reduceLT,Int.reduceLE,ixv te56 ti169 rClass_len (show 0 < 2 by decide),t0,t3,t4,hlt]
   refine (c_toClass _ _).det ?_
   simp +contextual -dsimp -implicitDefEqProofs (maxSteps:=5000000) only [go_sem,reduceIte,reduceCtorEq,Nat.reduceEqDiff,Nat.reduceBEq,Nat.reduceAdd,Nat.reduceLeDiff,Nat.reduceMul,Nat.reduceLT,Int.reduceEq,Int.reduceLT,Int.reduceLE,hw,t0,t3,t4,hlt]
   exact ⟨_, by omega, k + 1, _, rfl, hlt, by rw [List.length_set]; exact hes, row_step hlt hes htk, rows_set hrow rfl, rfl, I_wrap (by omega) (by omega) (by omega)⟩
  ·have hke : k = l.length := by omega
   subst hke
   rw [List.take_length, List.take_of_length_le (by omega)] at htk
   subst htk
   simp +contextual -dsimp -implicitDefEqProofs (maxSteps:=5000000) only [go_sem,reduceIte,reduceCtorEq,Nat.reduceEqDiff,Nat.reduceBEq,Nat.reduceAdd,Nat.reduceLeDiff,Nat.reduceMul,Nat.reduceLT,Int.reduceEq,Int.reduceLT,Int.reduceLE,t0,t3,t4,hlt]
   exact .inr ⟨b, false, hb, rfl, rfl⟩
theorem c_toLineS (l : List Line) (cl : Bool) (H : AHeap) (hl : l.length ≤ 1048576) : ACalls Tryz.prog 27 [.vsl (l.map rLine) cl] H fun r H' => Grow rLine 4 41 H H' r l := by
 refine acalls_of0 Tryz.func27 rfl (by kernel_rfl) rfl rfl (awp_sound (fz := fun _ => []) (im := fun _ => false) mixed _ _ _ _ (by kernel_rfl) ?_)
 simp +contextual -dsimp -implicitDefEqProofs (maxSteps:=5000000) only [go_sem,reduceIte,reduceCtorEq,Nat.reduceEqDiff,Nat.reduceBEq,Nat.reduceAdd,Nat.reduceLeDiff,Nat.reduceMul,Nat.reduceLT,Int.reduceEq,Int.reduceLT,Int.reduceLE]
 refine ⟨by omega, by omega, by omega, fun b hb => ?_⟩
 refine aloop mixed (fz := fun _ => []) (im := fun _ => false) (by kernel_rfl) (fun m tm H' => ∃ (k : Nat) (es : List (List AV)), m = l.length - k ∧ k ≤ l.length ∧ es.length = l.length ∧ es.take k = (l.take k).map rLine ∧ (∀ r ∈ es, r.length = 4) ∧ H' = H.set b ⟨4, 41, es⟩ ∧ tm 0 = .vsl (l.map rLine) cl ∧ tm 3 = .sl b 4 0 l.length false ∧ tm 4 = I k) l.length ⟨0, _, by omega, by omega, List.length_replicate, rfl, (fun r hr => by rw [List.eq_of_mem_replicate hr]; rfl), rfl, ?_⟩ ?_
 ·simp +contextual -dsimp -implicitDefEqProofs (maxSteps:=5000000) only [go_sem,reduceIte,reduceCtorEq,Nat.reduceEqDiff,Nat.reduceBEq,Nat.reduceAdd,Nat.reduceLeDiff,Nat.reduceMul,Nat.reduceLT,Int.reduceEq,Int.reduceLT,Int.reduceLE]
 ·rintro m tm H' ⟨k, es, rfl, hk, hes, htk, hrow, rfl, t0, t3, t4⟩
  by_cases hlt : k < l.length
  ·have hw := wr_row (F := H) (b := b) (ty := 41) (k := k) (es := es) (row := rLine (l.getD k default)) (by omega) hrow rfl
   rw [wr_o, AHeap.set_self] at hw
   simp only [rLine] at hw
   simp +contextual -dsimp -implicitDefEqProofs (maxSteps:=5000000) only [go_sem,reduceIte,reduceCtorEq,Nat.reduceEqDiff,Nat.reduceBEq,Nat.reduceAdd,Nat.reduceLeDiff,Nat.reduceMul,Nat.reduceLT,Int.reduceEq,Int.reduceLT,Int.reduceLE,ixv te59 ti113 rLine_len (show 0 < 4 by decide),t0,t3,t4,hlt]
   refine (c_toLine _ _).det ?_
   simp +contextual -dsimp -implicitDefEqProofs (maxSteps:=5000000) only [go_sem,reduceIte,reduceCtorEq,Nat.reduceEqDiff,Nat.reduceBEq,Nat.reduceAdd,Nat.reduceLeDiff,Nat.reduceMul,Nat.reduceLT,Int.reduceEq,Int.reduceLT,Int.reduceLE,hw,t0,t3,t4,hlt]
   exact ⟨_, by omega, k + 1, _, rfl, hlt, by rw [List.length_set]; exact hes, row_step hlt hes htk, rows_set hrow rfl, rfl, I_wrap (by omega) (by omega) (by omega)⟩
  ·have hke : k = l.length := by omega
   subst hke
   rw [List.take_length, List.take_of_length_le (by omega)] at htk
   subst htk
   simp +contextual -dsimp -implicitDefEqProofs (maxSteps:=5000000) only [go_sem,reduceIte,reduceCtorEq,Nat.reduceEqDiff,Nat.reduceBEq,Nat.reduceAdd,Nat.reduceLeDiff,Nat.reduceMul,Nat.reduceLT,Int.reduceEq,Int.reduceLT,Int.reduceLE,t0,t3,t4,hlt]
   exact .inr ⟨b, false, hb, rfl, rfl⟩
theorem c_toExitS (l : List Exi) (cl : Bool) (H : AHeap) (hl : l.length ≤ 1048576) : ACalls Tryz.prog 40 [.vsl (l.map rExit) cl] H fun r H' => Grow rExit 3 44 H H' r l := by
 refine acalls_of0 Tryz.func40 rfl (by kernel_rfl) rfl rfl (awp_sound (fz := fun _ => []) (im := fun _ => false) mixed _ _ _ _ (by kernel_rfl) ?_)
 simp +contextual -dsimp -implicitDefEqProofs (maxSteps:=5000000) only [go_sem,reduceIte,reduceCtorEq,Nat.reduceEqDiff,Nat.reduceBEq,Nat.reduceAdd,Nat.reduceLeDiff,Nat.reduceMul,Nat.reduceLT,Int.reduceEq,Int.reduceLT,Int.reduceLE]
 refine ⟨by omega, by omega, by omega, fun b hb => ?_⟩
 refine aloop mixed (fz := fun _ => []) (im := fun _ => false) (by kernel_rfl) (fun m tm H' => ∃ (k : Nat) (es : List (List AV)), m = l.length - k ∧ k ≤ l.length ∧ es.length = l.length ∧ es.take k = (l.take k).map rExit ∧ (∀ r ∈ es, r.length = 3) ∧ H' = H.set b ⟨3, 44, es⟩ ∧ tm 0 = .vsl (l.map rExit) cl ∧ tm 3 = .sl b 3 0 l.length false ∧ tm 4 = I k) l.length ⟨0, _, by omega, by omega, List.length_replicate, rfl, (fun r hr => by rw [List.eq_of_mem_replicate hr]; rfl), rfl, ?_⟩ ?_
 ·simp +contextual -dsimp -implicitDefEqProofs (maxSteps:=5000000) only [go_sem,reduceIte,reduceCtorEq,Nat.reduceEqDiff,Nat.reduceBEq,Nat.reduceAdd,Nat.reduceLeDiff,Nat.reduceMul,Nat.reduceLT,Int.reduceEq,Int.reduceLT,Int.reduceLE]
 ·rintro m tm H' ⟨k, es, rfl, hk, hes, htk, hrow, rfl, t0, t3, t4⟩
  by_cases hlt : k < l.length
  ·have hw := wr_row (F := H) (b := b) (ty := 44) (k := k) (es := es) (row := rExit (l.getD k default)) (by omega) hrow rfl
   rw [wr_o, AHeap.set_self] at hw
   simp only [rExit] at hw
   simp +contextual -dsimp -implicitDefEqProofs (maxSteps:=5000000) only [go_sem,reduceIte,reduceCtorEq,Nat.reduceEqDiff,Nat.reduceBEq,Nat.reduceAdd,Nat.reduceLeDiff,Nat.reduceMul,Nat.reduceLT,Int.reduceEq,Int.reduceLT,Int.reduceLE,ixv te71 ti120 rExit_len (show 0 < 3 by decide),t0,t3,t4,hlt]
   refine (c_toExit _ _).det ?_
   simp +contextual -dsimp -implicitDefEqProofs (maxSteps:=5000000) only [go_sem,reduceIte,reduceCtorEq,Nat.reduceEqDiff,Nat.reduceBEq,Nat.reduceAdd,Nat.reduceLeDiff,Nat.reduceMul,Nat.reduceLT,Int.reduceEq,Int.reduceLT,Int.reduceLE,hw,t0,t3,t4,hlt]
   exact ⟨_, by omega, k + 1, _, rfl, hlt, by rw [List.length_set]; exact hes, row_step hlt hes htk, rows_set hrow rfl, rfl, I_wrap (by omega) (by omega) (by omega)⟩
  ·have hke : k = l.length := by omega
   subst hke
   rw [List.take_length, List.take_of_length_le (by omega)] at htk
   subst htk
   simp +contextual -dsimp -implicitDefEqProofs (maxSteps:=5000000) only [go_sem,reduceIte,reduceCtorEq,Nat.reduceEqDiff,Nat.reduceBEq,Nat.reduceAdd,Nat.reduceLeDiff,Nat.reduceMul,Nat.reduceLT,Int.reduceEq,Int.reduceLT,Int.reduceLE,t0,t3,t4,hlt]
   exact .inr ⟨b, false, hb, rfl, rfl⟩
theorem c_eqClass (x : Class) (H : AHeap) : ACalls Tryz.prog 126 [.agg (rClass x), .agg (rClass x)] H fun r H' => r = B true ∧ H' = H := by
 refine acalls_of0 Tryz.func126 rfl (by kernel_rfl) rfl rfl (awp_sound (fz := fun _ => []) (im := fun s => s == 2 || s == 3) mixed _ _ _ _ (by kernel_rfl) ?_)
 simp +contextual -dsimp -implicitDefEqProofs (maxSteps:=5000000) only [go_sem,reduceIte,reduceCtorEq,Nat.reduceEqDiff,Nat.reduceBEq,Nat.reduceAdd,Nat.reduceLeDiff,Nat.reduceMul,Nat.reduceLT,Int.reduceEq,Int.reduceLT,Int.reduceLE]
theorem c_eqLine (x : Line) (H : AHeap) : ACalls Tryz.prog 80 [.agg (rLine x), .agg (rLine x)] H fun r H' => r = B true ∧ H' = H := by
 refine acalls_of0 Tryz.func80 rfl (by kernel_rfl) rfl rfl (awp_sound (fz := fun _ => []) (im := fun s => s == 2 || s == 3) mixed _ _ _ _ (by kernel_rfl) ?_)
 simp +contextual -dsimp -implicitDefEqProofs (maxSteps:=5000000) only [go_sem,reduceIte,reduceCtorEq,Nat.reduceEqDiff,Nat.reduceBEq,Nat.reduceAdd,Nat.reduceLeDiff,Nat.reduceMul,Nat.reduceLT,Int.reduceEq,Int.reduceLT,Int.reduceLE]
theorem c_eqExit (x : Exi) (H : AHeap) : ACalls Tryz.prog 88 [.agg (rExit x), .agg (rExit x)] H fun r H' => r = B true ∧ H' = H := by
 refine acalls_of0 Tryz.func88 rfl (by kernel_rfl) rfl rfl (awp_sound (fz := fun _ => []) (im := fun s => s == 2 || s == 3) mixed _ _ _ _ (by kernel_rfl) ?_)
 simp +contextual -dsimp -implicitDefEqProofs (maxSteps:=5000000) only [go_sem,reduceIte,reduceCtorEq,Nat.reduceEqDiff,Nat.reduceBEq,Nat.reduceAdd,Nat.reduceLeDiff,Nat.reduceMul,Nat.reduceLT,Int.reduceEq,Int.reduceLT,Int.reduceLE]
theorem c_eqFault (x : Fault) (H : AHeap) : ACalls Tryz.prog 171 [.agg (rFault x), .agg (rFault x)] H fun r H' => r = B true ∧ H' = H := by
 refine acalls_of0 Tryz.func171 rfl (by kernel_rfl) rfl rfl (awp_sound (fz := fun _ => []) (im := fun s => s == 2 || s == 3) mixed _ _ _ _ (by kernel_rfl) ?_)
 simp +contextual -dsimp -implicitDefEqProofs (maxSteps:=5000000) only [go_sem,reduceIte,reduceCtorEq,Nat.reduceEqDiff,Nat.reduceBEq,Nat.reduceAdd,Nat.reduceLeDiff,Nat.reduceMul,Nat.reduceLT,Int.reduceEq,Int.reduceLT,Int.reduceLE]
theorem c_eqIntS (l : List Int) (c1 c2 : Bool) (H : AHeap) : ACalls Tryz.prog 28 [.vsl (l.map rI) c1, .vsl (l.map rI) c2] H fun r H' => r = B true ∧ H' = H := by
 refine acalls_len (by kernel_rfl) (List.mem_cons_self ..) fun hl => ?_
 rw [List.length_map] at hl
 refine acalls_of0 Tryz.func28 rfl (by kernel_rfl) rfl rfl (awp_sound (fz := fun _ => []) (im := fun _ => false) mixed _ _ _ _ (by kernel_rfl) ?_)
 simp +contextual -dsimp -implicitDefEqProofs (maxSteps:=5000000) only [go_sem,reduceIte,reduceCtorEq,Nat.reduceEqDiff,Nat.reduceBEq,Nat.reduceAdd,Nat.reduceLeDiff,Nat.reduceMul,Nat.reduceLT,Int.reduceEq,Int.reduceLT,Int.reduceLE]
 refine aloop mixed (fz := fun _ => []) (im := fun _ => false) (by kernel_rfl) (fun m tm H' => ∃ k : Nat, m = l.length - k ∧ k ≤ l.length ∧ H' = H ∧ tm 0 = .vsl (l.map rI) c1 ∧ tm 1 = .vsl (l.map rI) c2 ∧ tm 5 = I k) l.length ⟨0, by omega, by omega, rfl, ?_⟩ ?_
 ·simp +contextual -dsimp -implicitDefEqProofs (maxSteps:=5000000) only [go_sem,reduceIte,reduceCtorEq,Nat.reduceEqDiff,Nat.reduceBEq,Nat.reduceAdd,Nat.reduceLeDiff,Nat.reduceMul,Nat.reduceLT,Int.reduceEq,Int.reduceLT,Int.reduceLE]
 ·rintro m tm H ⟨k, rfl, hk, rfl, t0, t1, t5⟩
  by_cases hlt : k < l.length
  ·simp +contextual -dsimp -implicitDefEqProofs (maxSteps:=5000000) only [go_sem,reduceIte,reduceCtorEq,Nat.reduceEqDiff,Nat.reduceBEq,Nat.reduceAdd,Nat.reduceLeDiff,Nat.reduceMul,Nat.reduceLT,Int.reduceEq,Int.reduceLT,Int.reduceLE,t0,t1,t5,hlt]
   refine draw_intro [0, 0, 0, 0, 0, 0, 0, 0, 0] AHeap.none (by kernel_rfl) none_le ?_
   simp +contextual -dsimp -implicitDefEqProofs (maxSteps:=5000000) only [go_sem,reduceIte,reduceCtorEq,Nat.reduceEqDiff,Nat.reduceBEq,Nat.reduceAdd,Nat.reduceLeDiff,Nat.reduceMul,Nat.reduceLT,Int.reduceEq,Int.reduceLT,Int.reduceLE,t0,t1,t5,hlt]
   exact ⟨_, by omega, k + 1, rfl, hlt, I_wrap (by omega) (by omega) (by omega)⟩
  ·simp +contextual -dsimp -implicitDefEqProofs (maxSteps:=5000000) only [go_sem,reduceIte,reduceCtorEq,Nat.reduceEqDiff,Nat.reduceBEq,Nat.reduceAdd,Nat.reduceLeDiff,Nat.reduceMul,Nat.reduceLT,Int.reduceEq,Int.reduceLT,Int.reduceLE,t0,t1,t5,hlt]
theorem c_eqClassS (l : List Class) (c1 c2 : Bool) (H : AHeap) : ACalls Tryz.prog 79 [.vsl (l.map rClass) c1, .vsl (l.map rClass) c2] H fun r H' => r = B true ∧ H' = H := by
 refine acalls_len (by kernel_rfl) (List.mem_cons_self ..) fun hl => ?_
 rw [List.length_map] at hl
 refine acalls_of0 Tryz.func79 rfl (by kernel_rfl) rfl rfl (awp_sound (fz := fun _ => []) (im := fun _ => false) mixed _ _ _ _ (by kernel_rfl) ?_)
 simp +contextual -dsimp -implicitDefEqProofs (maxSteps:=5000000) only [go_sem,reduceIte,reduceCtorEq,Nat.reduceEqDiff,Nat.reduceBEq,Nat.reduceAdd,Nat.reduceLeDiff,Nat.reduceMul,Nat.reduceLT,Int.reduceEq,Int.reduceLT,Int.reduceLE]
 refine aloop mixed (fz := fun _ => []) (im := fun _ => false) (by kernel_rfl) (fun m tm H' => ∃ k : Nat, m = l.length - k ∧ k ≤ l.length ∧ H' = H ∧ tm 0 = .vsl (l.map rClass) c1 ∧ tm 1 = .vsl (l.map rClass) c2 ∧ tm 5 = I k) l.length ⟨0, by omega, by omega, rfl, ?_⟩ ?_
 ·simp +contextual -dsimp -implicitDefEqProofs (maxSteps:=5000000) only [go_sem,reduceIte,reduceCtorEq,Nat.reduceEqDiff,Nat.reduceBEq,Nat.reduceAdd,Nat.reduceLeDiff,Nat.reduceMul,Nat.reduceLT,Int.reduceEq,Int.reduceLT,Int.reduceLE]
 ·rintro m tm H ⟨k, rfl, hk, rfl, t0, t1, t5⟩
  by_cases hlt : k < l.length
  ·simp +contextual -dsimp -implicitDefEqProofs (maxSteps:=5000000) only [go_sem,reduceIte,reduceCtorEq,Nat.reduceEqDiff,Nat.reduceBEq,Nat.reduceAdd,Nat.reduceLeDiff,Nat.reduceMul,Nat.reduceLT,Int.reduceEq,Int.reduceLT,Int.reduceLE,t0,t1,t5,hlt]
   refine draw_intro [0, 0, 0, 0, 0, 0, 0, 0, 2, 0] AHeap.none (by kernel_rfl) none_le ?_
   simp +contextual -dsimp -implicitDefEqProofs (maxSteps:=5000000) only [go_sem,reduceIte,reduceCtorEq,Nat.reduceEqDiff,Nat.reduceBEq,Nat.reduceAdd,Nat.reduceLeDiff,Nat.reduceMul,Nat.reduceLT,Int.reduceEq,Int.reduceLT,Int.reduceLE,t0,t1,t5,hlt]
   exact (c_eqClass _ _).det (by simp +contextual -dsimp -implicitDefEqProofs (maxSteps:=5000000) only [go_sem,reduceIte,reduceCtorEq,Nat.reduceEqDiff,Nat.reduceBEq,Nat.reduceAdd,Nat.reduceLeDiff,Nat.reduceMul,Nat.reduceLT,Int.reduceEq,Int.reduceLT,Int.reduceLE,t0,t1,t5,hlt]; exact ⟨_,by omega,k + 1,rfl,hlt,I_wrap (by omega) (by omega) (by omega)⟩)
  ·simp +contextual -dsimp -implicitDefEqProofs (maxSteps:=5000000) only [go_sem,reduceIte,reduceCtorEq,Nat.reduceEqDiff,Nat.reduceBEq,Nat.reduceAdd,Nat.reduceLeDiff,Nat.reduceMul,Nat.reduceLT,Int.reduceEq,Int.reduceLT,Int.reduceLE,t0,t1,t5,hlt]
theorem c_eqLineS (l : List Line) (c1 c2 : Bool) (H : AHeap) : ACalls Tryz.prog 30 [.vsl (l.map rLine) c1, .vsl (l.map rLine) c2] H fun r H' => r = B true ∧ H' = H := by
 refine acalls_len (by kernel_rfl) (List.mem_cons_self ..) fun hl => ?_
 rw [List.length_map] at hl
 refine acalls_of0 Tryz.func30 rfl (by kernel_rfl) rfl rfl (awp_sound (fz := fun _ => []) (im := fun _ => false) mixed _ _ _ _ (by kernel_rfl) ?_)
 simp +contextual -dsimp -implicitDefEqProofs (maxSteps:=5000000) only [go_sem,reduceIte,reduceCtorEq,Nat.reduceEqDiff,Nat.reduceBEq,Nat.reduceAdd,Nat.reduceLeDiff,Nat.reduceMul,Nat.reduceLT,Int.reduceEq,Int.reduceLT,Int.reduceLE]
 refine aloop mixed (fz := fun _ => []) (im := fun _ => false) (by kernel_rfl) (fun m tm H' => ∃ k : Nat, m = l.length - k ∧ k ≤ l.length ∧ H' = H ∧ tm 0 = .vsl (l.map rLine) c1 ∧ tm 1 = .vsl (l.map rLine) c2 ∧ tm 5 = I k) l.length ⟨0, by omega, by omega, rfl, ?_⟩ ?_
 ·simp +contextual -dsimp -implicitDefEqProofs (maxSteps:=5000000) only [go_sem,reduceIte,reduceCtorEq,Nat.reduceEqDiff,Nat.reduceBEq,Nat.reduceAdd,Nat.reduceLeDiff,Nat.reduceMul,Nat.reduceLT,Int.reduceEq,Int.reduceLT,Int.reduceLE]
 ·rintro m tm H ⟨k, rfl, hk, rfl, t0, t1, t5⟩
  by_cases hlt : k < l.length
  ·simp +contextual -dsimp -implicitDefEqProofs (maxSteps:=5000000) only [go_sem,reduceIte,reduceCtorEq,Nat.reduceEqDiff,Nat.reduceBEq,Nat.reduceAdd,Nat.reduceLeDiff,Nat.reduceMul,Nat.reduceLT,Int.reduceEq,Int.reduceLT,Int.reduceLE,t0,t1,t5,hlt]
   refine draw_intro [0, 0, 0, 0, 0, 0, 0, 0, 2, 0] AHeap.none (by kernel_rfl) none_le ?_
   simp +contextual -dsimp -implicitDefEqProofs (maxSteps:=5000000) only [go_sem,reduceIte,reduceCtorEq,Nat.reduceEqDiff,Nat.reduceBEq,Nat.reduceAdd,Nat.reduceLeDiff,Nat.reduceMul,Nat.reduceLT,Int.reduceEq,Int.reduceLT,Int.reduceLE,t0,t1,t5,hlt]
   exact (c_eqLine _ _).det (by simp +contextual -dsimp -implicitDefEqProofs (maxSteps:=5000000) only [go_sem,reduceIte,reduceCtorEq,Nat.reduceEqDiff,Nat.reduceBEq,Nat.reduceAdd,Nat.reduceLeDiff,Nat.reduceMul,Nat.reduceLT,Int.reduceEq,Int.reduceLT,Int.reduceLE,t0,t1,t5,hlt]; exact ⟨_,by omega,k + 1,rfl,hlt,I_wrap (by omega) (by omega) (by omega)⟩)
  ·simp +contextual -dsimp -implicitDefEqProofs (maxSteps:=5000000) only [go_sem,reduceIte,reduceCtorEq,Nat.reduceEqDiff,Nat.reduceBEq,Nat.reduceAdd,Nat.reduceLeDiff,Nat.reduceMul,Nat.reduceLT,Int.reduceEq,Int.reduceLT,Int.reduceLE,t0,t1,t5,hlt]
theorem c_eqExitS (l : List Exi) (c1 c2 : Bool) (H : AHeap) : ACalls Tryz.prog 43 [.vsl (l.map rExit) c1, .vsl (l.map rExit) c2] H fun r H' => r = B true ∧ H' = H := by
 refine acalls_len (by kernel_rfl) (List.mem_cons_self ..) fun hl => ?_
 rw [List.length_map] at hl
 refine acalls_of0 Tryz.func43 rfl (by kernel_rfl) rfl rfl (awp_sound (fz := fun _ => []) (im := fun _ => false) mixed _ _ _ _ (by kernel_rfl) ?_)
 simp +contextual -dsimp -implicitDefEqProofs (maxSteps:=5000000) only [go_sem,reduceIte,reduceCtorEq,Nat.reduceEqDiff,Nat.reduceBEq,Nat.reduceAdd,Nat.reduceLeDiff,Nat.reduceMul,Nat.reduceLT,Int.reduceEq,Int.reduceLT,Int.reduceLE]
 refine aloop mixed (fz := fun _ => []) (im := fun _ => false) (by kernel_rfl) (fun m tm H' => ∃ k : Nat, m = l.length - k ∧ k ≤ l.length ∧ H' = H ∧ tm 0 = .vsl (l.map rExit) c1 ∧ tm 1 = .vsl (l.map rExit) c2 ∧ tm 5 = I k) l.length ⟨0, by omega, by omega, rfl, ?_⟩ ?_
 ·simp +contextual -dsimp -implicitDefEqProofs (maxSteps:=5000000) only [go_sem,reduceIte,reduceCtorEq,Nat.reduceEqDiff,Nat.reduceBEq,Nat.reduceAdd,Nat.reduceLeDiff,Nat.reduceMul,Nat.reduceLT,Int.reduceEq,Int.reduceLT,Int.reduceLE]
 ·rintro m tm H ⟨k, rfl, hk, rfl, t0, t1, t5⟩
  by_cases hlt : k < l.length
  ·simp +contextual -dsimp -implicitDefEqProofs (maxSteps:=5000000) only [go_sem,reduceIte,reduceCtorEq,Nat.reduceEqDiff,Nat.reduceBEq,Nat.reduceAdd,Nat.reduceLeDiff,Nat.reduceMul,Nat.reduceLT,Int.reduceEq,Int.reduceLT,Int.reduceLE,t0,t1,t5,hlt]
   refine draw_intro [0, 0, 0, 0, 0, 0, 0, 0, 2, 0] AHeap.none (by kernel_rfl) none_le ?_
   simp +contextual -dsimp -implicitDefEqProofs (maxSteps:=5000000) only [go_sem,reduceIte,reduceCtorEq,Nat.reduceEqDiff,Nat.reduceBEq,Nat.reduceAdd,Nat.reduceLeDiff,Nat.reduceMul,Nat.reduceLT,Int.reduceEq,Int.reduceLT,Int.reduceLE,t0,t1,t5,hlt]
   exact (c_eqExit _ _).det (by simp +contextual -dsimp -implicitDefEqProofs (maxSteps:=5000000) only [go_sem,reduceIte,reduceCtorEq,Nat.reduceEqDiff,Nat.reduceBEq,Nat.reduceAdd,Nat.reduceLeDiff,Nat.reduceMul,Nat.reduceLT,Int.reduceEq,Int.reduceLT,Int.reduceLE,t0,t1,t5,hlt]; exact ⟨_,by omega,k + 1,rfl,hlt,I_wrap (by omega) (by omega) (by omega)⟩)
  ·simp +contextual -dsimp -implicitDefEqProofs (maxSteps:=5000000) only [go_sem,reduceIte,reduceCtorEq,Nat.reduceEqDiff,Nat.reduceBEq,Nat.reduceAdd,Nat.reduceLeDiff,Nat.reduceMul,Nat.reduceLT,Int.reduceEq,Int.reduceLT,Int.reduceLE,t0,t1,t5,hlt]
theorem c_eqFaultS (l : List Fault) (c1 c2 : Bool) (H : AHeap) : ACalls Tryz.prog 128 [.vsl (l.map rFault) c1, .vsl (l.map rFault) c2] H fun r H' => r = B true ∧ H' = H := by
 refine acalls_len (by kernel_rfl) (List.mem_cons_self ..) fun hl => ?_
 rw [List.length_map] at hl
 refine acalls_of0 Tryz.func128 rfl (by kernel_rfl) rfl rfl (awp_sound (fz := fun _ => []) (im := fun _ => false) mixed _ _ _ _ (by kernel_rfl) ?_)
 simp +contextual -dsimp -implicitDefEqProofs (maxSteps:=5000000) only [go_sem,reduceIte,reduceCtorEq,Nat.reduceEqDiff,Nat.reduceBEq,Nat.reduceAdd,Nat.reduceLeDiff,Nat.reduceMul,Nat.reduceLT,Int.reduceEq,Int.reduceLT,Int.reduceLE]
 refine aloop mixed (fz := fun _ => []) (im := fun _ => false) (by kernel_rfl) (fun m tm H' => ∃ k : Nat, m = l.length - k ∧ k ≤ l.length ∧ H' = H ∧ tm 0 = .vsl (l.map rFault) c1 ∧ tm 1 = .vsl (l.map rFault) c2 ∧ tm 5 = I k) l.length ⟨0, by omega, by omega, rfl, ?_⟩ ?_
 ·simp +contextual -dsimp -implicitDefEqProofs (maxSteps:=5000000) only [go_sem,reduceIte,reduceCtorEq,Nat.reduceEqDiff,Nat.reduceBEq,Nat.reduceAdd,Nat.reduceLeDiff,Nat.reduceMul,Nat.reduceLT,Int.reduceEq,Int.reduceLT,Int.reduceLE]
 ·rintro m tm H ⟨k, rfl, hk, rfl, t0, t1, t5⟩
  by_cases hlt : k < l.length
  ·simp +contextual -dsimp -implicitDefEqProofs (maxSteps:=5000000) only [go_sem,reduceIte,reduceCtorEq,Nat.reduceEqDiff,Nat.reduceBEq,Nat.reduceAdd,Nat.reduceLeDiff,Nat.reduceMul,Nat.reduceLT,Int.reduceEq,Int.reduceLT,Int.reduceLE,t0,t1,t5,hlt]
   refine draw_intro [0, 0, 0, 0, 0, 0, 0, 0, 2, 0] AHeap.none (by kernel_rfl) none_le ?_
   simp +contextual -dsimp -implicitDefEqProofs (maxSteps:=5000000) only [go_sem,reduceIte,reduceCtorEq,Nat.reduceEqDiff,Nat.reduceBEq,Nat.reduceAdd,Nat.reduceLeDiff,Nat.reduceMul,Nat.reduceLT,Int.reduceEq,Int.reduceLT,Int.reduceLE,t0,t1,t5,hlt]
   exact (c_eqFault _ _).det (by simp +contextual -dsimp -implicitDefEqProofs (maxSteps:=5000000) only [go_sem,reduceIte,reduceCtorEq,Nat.reduceEqDiff,Nat.reduceBEq,Nat.reduceAdd,Nat.reduceLeDiff,Nat.reduceMul,Nat.reduceLT,Int.reduceEq,Int.reduceLT,Int.reduceLE,t0,t1,t5,hlt]; exact ⟨_,by omega,k + 1,rfl,hlt,I_wrap (by omega) (by omega) (by omega)⟩)
  ·simp +contextual -dsimp -implicitDefEqProofs (maxSteps:=5000000) only [go_sem,reduceIte,reduceCtorEq,Nat.reduceEqDiff,Nat.reduceBEq,Nat.reduceAdd,Nat.reduceLeDiff,Nat.reduceMul,Nat.reduceLT,Int.reduceEq,Int.reduceLT,Int.reduceLE,t0,t1,t5,hlt]
theorem c_eqTree (t : List Class) (c1 c2 : Bool) (H : AHeap) : ACalls Tryz.prog 29 [aTree t c1, aTree t c2] H fun r H' => r = B true ∧ H' = H := by
 refine acalls_of0 Tryz.func29 rfl (by kernel_rfl) rfl rfl (awp_sound (fz := fun _ => []) (im := fun s => s == 2 || s == 3) mixed _ _ _ _ (by kernel_rfl) ?_)
 simp +contextual -dsimp -implicitDefEqProofs (maxSteps:=5000000) only [go_sem,reduceIte,reduceCtorEq,Nat.reduceEqDiff,Nat.reduceBEq,Nat.reduceAdd,Nat.reduceLeDiff,Nat.reduceMul,Nat.reduceLT,Int.reduceEq,Int.reduceLT,Int.reduceLE]
 refine (c_eqClassS _ _ _ _).det ?_
 simp +contextual -dsimp -implicitDefEqProofs (maxSteps:=5000000) only [go_sem,reduceIte,reduceCtorEq,Nat.reduceEqDiff,Nat.reduceBEq,Nat.reduceAdd,Nat.reduceLeDiff,Nat.reduceMul,Nat.reduceLT,Int.reduceEq,Int.reduceLT,Int.reduceLE]
theorem c_eqHeap (h : List Fault) (c1 c2 : Bool) (H : AHeap) : ACalls Tryz.prog 82 [aHeap h c1, aHeap h c2] H fun r H' => r = B true ∧ H' = H := by
 refine acalls_of0 Tryz.func82 rfl (by kernel_rfl) rfl rfl (awp_sound (fz := fun _ => []) (im := fun s => s == 2 || s == 3) mixed _ _ _ _ (by kernel_rfl) ?_)
 simp +contextual -dsimp -implicitDefEqProofs (maxSteps:=5000000) only [go_sem,reduceIte,reduceCtorEq,Nat.reduceEqDiff,Nat.reduceBEq,Nat.reduceAdd,Nat.reduceLeDiff,Nat.reduceMul,Nat.reduceLT,Int.reduceEq,Int.reduceLT,Int.reduceLE]
 refine (c_eqFaultS _ _ _ _).det ?_
 simp +contextual -dsimp -implicitDefEqProofs (maxSteps:=5000000) only [go_sem,reduceIte,reduceCtorEq,Nat.reduceEqDiff,Nat.reduceBEq,Nat.reduceAdd,Nat.reduceLeDiff,Nat.reduceMul,Nat.reduceLT,Int.reduceEq,Int.reduceLT,Int.reduceLE]
theorem c_eqResult (R : Res) (c1 c2 c3 c4 : Bool) (H : AHeap) : ACalls Tryz.prog 35 [aRes R c1 c2, aRes R c3 c4] H fun r H' => r = B true ∧ H' = H := by
 refine acalls_of0 Tryz.func35 rfl (by kernel_rfl) rfl rfl (awp_sound (fz := fun _ => []) (im := fun s => s == 2 || s == 3) mixed _ _ _ _ (by kernel_rfl) ?_)
 simp +contextual -dsimp -implicitDefEqProofs (maxSteps:=5000000) only [go_sem,reduceIte,reduceCtorEq,Nat.reduceEqDiff,Nat.reduceBEq,Nat.reduceAdd,Nat.reduceLeDiff,Nat.reduceMul,Nat.reduceLT,Int.reduceEq,Int.reduceLT,Int.reduceLE]
 refine (c_eqIntS _ _ _ _).det ?_
 simp +contextual -dsimp -implicitDefEqProofs (maxSteps:=5000000) only [go_sem,reduceIte,reduceCtorEq,Nat.reduceEqDiff,Nat.reduceBEq,Nat.reduceAdd,Nat.reduceLeDiff,Nat.reduceMul,Nat.reduceLT,Int.reduceEq,Int.reduceLT,Int.reduceLE]
 refine (c_eqHeap _ _ _ _).det ?_
 simp +contextual -dsimp -implicitDefEqProofs (maxSteps:=5000000) only [go_sem,reduceIte,reduceCtorEq,Nat.reduceEqDiff,Nat.reduceBEq,Nat.reduceAdd,Nat.reduceLeDiff,Nat.reduceMul,Nat.reduceLT,Int.reduceEq,Int.reduceLT,Int.reduceLE]
theorem c_toTree0 (t : List Class) (cl : Bool) (H : AHeap) (hl : t.length ≤ 1048576) : ACalls Tryz.prog 26 [aTree t cl] H fun r H' => ∃ x, r = .agg [x] ∧ Grow rClass 2 144 H H' x t := by
 refine acalls_of1 Tryz.func26 rfl (by kernel_rfl) rfl rfl (awp_sound (fz := fun _ => []) (im := fun s => s == 1) mixed _ _ _ _ (by kernel_rfl) ?_)
 simp +contextual -dsimp -implicitDefEqProofs (maxSteps:=5000000) only [go_sem,reduceIte,reduceCtorEq,Nat.reduceEqDiff,Nat.reduceBEq,Nat.reduceAdd,Nat.reduceLeDiff,Nat.reduceMul,Nat.reduceLT,Int.reduceEq,Int.reduceLT,Int.reduceLE]
 intro b2 hb2 b3 hb3
 obtain ⟨n1, n2, hb3⟩ := hb3
 refine (c_toClassS t cl _ hl).mono ?_
 rintro x H1 hg
 have hb3' : (H.set b2 ⟨1, 25, [[.vsl [] true]]⟩) b3 = none := by rw [set_other n1]; exact hb3
 obtain ⟨G, hg1, rfl, m3⟩ := grow_out hg hb3'
 obtain ⟨G2, hg2, rfl, m2⟩ := grow_out hg1 hb2
 obtain ⟨o1, o2⟩ := one_grow hg2
 have m3' : G2 b3 = none := by rw [set_other n1] at m3; exact m3
 simp +contextual -dsimp -implicitDefEqProofs (maxSteps:=5000000) only [go_sem,reduceIte,reduceCtorEq,Nat.reduceEqDiff,Nat.reduceBEq,Nat.reduceAdd,Nat.reduceLeDiff,Nat.reduceMul,Nat.reduceLT,Int.reduceEq,Int.reduceLT,Int.reduceLE,n1,n2,o1,o2]
 refine retR_less (l := [.agg [x]]) (H' := G2) ?_ (le_s1 (le_s1 (AHeap.le_refl _) m2) m3') ⟨x, rfl, hg2⟩
 simp only [resA,go_sem,reduceIte,reduceCtorEq,Nat.reduceEqDiff,Nat.reduceBEq,Nat.reduceAdd,Nat.reduceLeDiff,Nat.reduceMul,Nat.reduceLT,Int.reduceEq,Int.reduceLT,Int.reduceLE,n1,n2,o1,o2]
end
section
open Go Go.Sim
set_option maxRecDepth 100000
set_option maxHeartbeats 4000000

theorem wr_set {α : Type} [Inhabited α] {g : α → List AV} {F : AHeap} {b sz q j : Nat} {ty : TypeId} {L : List α} {v : AV} {y y' : α} (hj : j < L.length) (hy : stRow (g y) q [v] = some (g y')) :
  wrA (F.set b ⟨sz, ty, (L.set j y).map g⟩) (.ptr b sz j q) [v] = some (F.set b ⟨sz, ty, (L.set j y').map g⟩) := by
 rw [wrP (AHeap.set_self ..) (y := y') (by simpa using hj) (by rw [List.getD_eq_getElem?_getD, List.getElem?_set_self hj]; exact hy), set_set, List.set_set]
def markP {α : Type} (g : Nat → α) (l : List α) (j : Nat) : List α := (List.range j).map g ++ l.drop j
theorem markP_len {α : Type} (g : Nat → α) (l : List α) {j : Nat} (h : j ≤ l.length) : (markP g l j).length = l.length := by
 unfold markP; simp; omega
theorem markP_set {α : Type} (g : Nat → α) (l : List α) {j : Nat} (h : j < l.length) : (markP g l j).set j (g j) = markP g l (j + 1) := by
 unfold markP
 rw [List.set_append_right _ _ (by simp), List.length_map, List.length_range, Nat.sub_self, List.drop_eq_getElem_cons h, List.set_cons_zero, List.range_succ, List.map_append, List.append_assoc]
 rfl
theorem markP_all {α : Type} (g : Nat → α) (l : List α) : markP g l l.length = (List.range l.length).map g := by
 unfold markP; rw [List.drop_length, List.append_nil]
theorem set_same {α : Type} [Inhabited α] {L : List α} {j : Nat} (h : j < L.length) : L.set j (L.getD j default) = L := by
 rw [List.getD_eq_getElem?_getD, List.getElem?_eq_getElem h]
 exact List.set_getElem_self h
def markI (k : Int) (i : Nat) : Int := k + i
def markF (k : Int) (i : Nat) : Fault := ⟨k + 5 * i, k + 5 * i + 1, k + 5 * i + 2, k + 5 * i + 3, decide ((k + 5 * i + 4).tmod 3 = 0)⟩

theorem c_markIntS0 (k : Int) (H : AHeap) : ACalls Tryz.prog 33 [.vsl [] true, I k] H fun r H' => r = I k ∧ H' = H := by
 refine acalls_of0 Tryz.func33 rfl (by kernel_rfl) rfl rfl (awp_sound (fz := fun _ => []) (im := fun _ => false) mixed _ _ _ _ (by kernel_rfl) ?_)
 simp +contextual -dsimp -implicitDefEqProofs (maxSteps:=5000000) only [go_sem,reduceIte,reduceCtorEq,Nat.reduceEqDiff,Nat.reduceBEq,Nat.reduceAdd,Nat.reduceLeDiff,Nat.reduceMul,Nat.reduceLT,Int.reduceEq,Int.reduceLT,Int.reduceLE]
 refine aloop mixed (fz := fun _ => []) (im := fun _ => false) (by kernel_rfl) (fun m tm H' => m = 0 ∧ H' = H ∧ tm 0 = .vsl [] true ∧ tm 1 = I k ∧ tm 5 = I 0) 0 ⟨rfl, rfl, ?_⟩ ?_
 ·simp +contextual -dsimp -implicitDefEqProofs (maxSteps:=5000000) only [go_sem,reduceIte,reduceCtorEq,Nat.reduceEqDiff,Nat.reduceBEq,Nat.reduceAdd,Nat.reduceLeDiff,Nat.reduceMul,Nat.reduceLT,Int.reduceEq,Int.reduceLT,Int.reduceLE]
 ·rintro m tm H ⟨rfl, rfl, t0, t1, t5⟩
  simp +contextual -dsimp -implicitDefEqProofs (maxSteps:=5000000) only [go_sem,reduceIte,reduceCtorEq,Nat.reduceEqDiff,Nat.reduceBEq,Nat.reduceAdd,Nat.reduceLeDiff,Nat.reduceMul,Nat.reduceLT,Int.reduceEq,Int.reduceLT,Int.reduceLE,t0,t1,t5]
theorem c_markFaultS0 (k : Int) (H : AHeap) : ACalls Tryz.prog 129 [.vsl [] true, I k] H fun r H' => r = I k ∧ H' = H := by
 refine acalls_of0 Tryz.func129 rfl (by kernel_rfl) rfl rfl (awp_sound (fz := fun _ => []) (im := fun _ => false) mixed _ _ _ _ (by kernel_rfl) ?_)
 simp +contextual -dsimp -implicitDefEqProofs (maxSteps:=5000000) only [go_sem,reduceIte,reduceCtorEq,Nat.reduceEqDiff,Nat.reduceBEq,Nat.reduceAdd,Nat.reduceLeDiff,Nat.reduceMul,Nat.reduceLT,Int.reduceEq,Int.reduceLT,Int.reduceLE]
 refine aloop mixed (fz := fun _ => []) (im := fun _ => false) (by kernel_rfl) (fun m tm H' => m = 0 ∧ H' = H ∧ tm 0 = .vsl [] true ∧ tm 1 = I k ∧ tm 5 = I 0) 0 ⟨rfl, rfl, ?_⟩ ?_
 ·simp +contextual -dsimp -implicitDefEqProofs (maxSteps:=5000000) only [go_sem,reduceIte,reduceCtorEq,Nat.reduceEqDiff,Nat.reduceBEq,Nat.reduceAdd,Nat.reduceLeDiff,Nat.reduceMul,Nat.reduceLT,Int.reduceEq,Int.reduceLT,Int.reduceLE]
 ·rintro m tm H ⟨rfl, rfl, t0, t1, t5⟩
  simp +contextual -dsimp -implicitDefEqProofs (maxSteps:=5000000) only [go_sem,reduceIte,reduceCtorEq,Nat.reduceEqDiff,Nat.reduceBEq,Nat.reduceAdd,Nat.reduceLeDiff,Nat.reduceMul,Nat.reduceLT,Int.reduceEq,Int.reduceLT,Int.reduceLE,t0,t1,t5]
theorem c_markClassS0 (k : Int) (H : AHeap) : ACalls Tryz.prog 81 [.vsl [] true, I k] H fun r H' => r = I k ∧ H' = H := by
 refine acalls_of0 Tryz.func81 rfl (by kernel_rfl) rfl rfl (awp_sound (fz := fun _ => []) (im := fun _ => false) mixed _ _ _ _ (by kernel_rfl) ?_)
 simp +contextual -dsimp -implicitDefEqProofs (maxSteps:=5000000) only [go_sem,reduceIte,reduceCtorEq,Nat.reduceEqDiff,Nat.reduceBEq,Nat.reduceAdd,Nat.reduceLeDiff,Nat.reduceMul,Nat.reduceLT,Int.reduceEq,Int.reduceLT,Int.reduceLE]
 refine aloop mixed (fz := fun _ => []) (im := fun _ => false) (by kernel_rfl) (fun m tm H' => m = 0 ∧ H' = H ∧ tm 0 = .vsl [] true ∧ tm 1 = I k ∧ tm 5 = I 0) 0 ⟨rfl, rfl, ?_⟩ ?_
 ·simp +contextual -dsimp -implicitDefEqProofs (maxSteps:=5000000) only [go_sem,reduceIte,reduceCtorEq,Nat.reduceEqDiff,Nat.reduceBEq,Nat.reduceAdd,Nat.reduceLeDiff,Nat.reduceMul,Nat.reduceLT,Int.reduceEq,Int.reduceLT,Int.reduceLE]
 ·rintro m tm H ⟨rfl, rfl, t0, t1, t5⟩
  simp +contextual -dsimp -implicitDefEqProofs (maxSteps:=5000000) only [go_sem,reduceIte,reduceCtorEq,Nat.reduceEqDiff,Nat.reduceBEq,Nat.reduceAdd,Nat.reduceLeDiff,Nat.reduceMul,Nat.reduceLT,Int.reduceEq,Int.reduceLT,Int.reduceLE,t0,t1,t5]
theorem c_markLineS0 (k : Int) (H : AHeap) : ACalls Tryz.prog 32 [.vsl [] true, I k] H fun r H' => r = I k ∧ H' = H := by
 refine acalls_of0 Tryz.func32 rfl (by kernel_rfl) rfl rfl (awp_sound (fz := fun _ => []) (im := fun _ => false) mixed _ _ _ _ (by kernel_rfl) ?_)
 simp +contextual -dsimp -implicitDefEqProofs (maxSteps:=5000000) only [go_sem,reduceIte,reduceCtorEq,Nat.reduceEqDiff,Nat.reduceBEq,Nat.reduceAdd,Nat.reduceLeDiff,Nat.reduceMul,Nat.reduceLT,Int.reduceEq,Int.reduceLT,Int.reduceLE]
 refine aloop mixed (fz := fun _ => []) (im := fun _ => false) (by kernel_rfl) (fun m tm H' => m = 0 ∧ H' = H ∧ tm 0 = .vsl [] true ∧ tm 1 = I k ∧ tm 5 = I 0) 0 ⟨rfl, rfl, ?_⟩ ?_
 ·simp +contextual -dsimp -implicitDefEqProofs (maxSteps:=5000000) only [go_sem,reduceIte,reduceCtorEq,Nat.reduceEqDiff,Nat.reduceBEq,Nat.reduceAdd,Nat.reduceLeDiff,Nat.reduceMul,Nat.reduceLT,Int.reduceEq,Int.reduceLT,Int.reduceLE]
 ·rintro m tm H ⟨rfl, rfl, t0, t1, t5⟩
  simp +contextual -dsimp -implicitDefEqProofs (maxSteps:=5000000) only [go_sem,reduceIte,reduceCtorEq,Nat.reduceEqDiff,Nat.reduceBEq,Nat.reduceAdd,Nat.reduceLeDiff,Nat.reduceMul,Nat.reduceLT,Int.reduceEq,Int.reduceLT,Int.reduceLE,t0,t1,t5]
theorem c_markExitS0 (k : Int) (H : AHeap) : ACalls Tryz.prog 44 [.vsl [] true, I k] H fun r H' => r = I k ∧ H' = H := by
 refine acalls_of0 Tryz.func44 rfl (by kernel_rfl) rfl rfl (awp_sound (fz := fun _ => []) (im := fun _ => false) mixed _ _ _ _ (by kernel_rfl) ?_)
 simp +contextual -dsimp -implicitDefEqProofs (maxSteps:=5000000) only [go_sem,reduceIte,reduceCtorEq,Nat.reduceEqDiff,Nat.reduceBEq,Nat.reduceAdd,Nat.reduceLeDiff,Nat.reduceMul,Nat.reduceLT,Int.reduceEq,Int.reduceLT,Int.reduceLE]
 refine aloop mixed (fz := fun _ => []) (im := fun _ => false) (by kernel_rfl) (fun m tm H' => m = 0 ∧ H' = H ∧ tm 0 = .vsl [] true ∧ tm 1 = I k ∧ tm 5 = I 0) 0 ⟨rfl, rfl, ?_⟩ ?_
 ·simp +contextual -dsimp -implicitDefEqProofs (maxSteps:=5000000) only [go_sem,reduceIte,reduceCtorEq,Nat.reduceEqDiff,Nat.reduceBEq,Nat.reduceAdd,Nat.reduceLeDiff,Nat.reduceMul,Nat.reduceLT,Int.reduceEq,Int.reduceLT,Int.reduceLE]
 ·rintro m tm H ⟨rfl, rfl, t0, t1, t5⟩
  simp +contextual -dsimp -implicitDefEqProofs (maxSteps:=5000000) only [go_sem,reduceIte,reduceCtorEq,Nat.reduceEqDiff,Nat.reduceBEq,Nat.reduceAdd,Nat.reduceLeDiff,Nat.reduceMul,Nat.reduceLT,Int.reduceEq,Int.reduceLT,Int.reduceLE,t0,t1,t5]
theorem c_markIntS (F H : AHeap) (x : AV) (l : List Int) (k : Int) (hg : Grow rI 1 3 F H x l) (hl : l.length ≤ 1000000000) (h0 : 0 ≤ k) (hk : k ≤ 100000000000) : ACalls Tryz.prog 33 [x, I k] H fun r H' => r = I (k + (l.length : Nat)) ∧ Grow rI 1 3 F H' x ((List.range l.length).map (markI k)) := by
 rcases hg with ⟨rfl, rfl, rfl⟩ | ⟨b, cl, hb, rfl, rfl⟩
 ·refine (c_markIntS0 k H).mono ?_
  rintro _ _ ⟨rfl, rfl⟩
  exact ⟨by simp, .inl ⟨rfl, rfl, rfl⟩⟩
 ·refine acalls_of0 Tryz.func33 rfl (by kernel_rfl) rfl rfl (awp_sound (fz := fun _ => []) (im := fun _ => false) mixed _ _ _ _ (by kernel_rfl) ?_)
  simp +contextual -dsimp -implicitDefEqProofs (maxSteps:=5000000) only [go_sem,reduceIte,reduceCtorEq,Nat.reduceEqDiff,Nat.reduceBEq,Nat.reduceAdd,Nat.reduceLeDiff,Nat.reduceMul,Nat.reduceLT,Int.reduceEq,Int.reduceLT,Int.reduceLE]
  refine aloop mixed (fz := fun _ => []) (im := fun _ => false) (by kernel_rfl) (fun m tm H' => ∃ j : Nat, m = l.length - j ∧ j ≤ l.length ∧ H' = F.set b ⟨1, 3, (markP (markI k) l j).map rI⟩ ∧ tm 0 = .sl b 1 0 l.length cl ∧ tm 1 = I (k + (j : Nat)) ∧ tm 5 = I j) l.length ⟨0, by omega, by omega, rfl, ?_⟩ ?_
  ·simp +contextual -dsimp -implicitDefEqProofs (maxSteps:=5000000) only [go_sem,reduceIte,reduceCtorEq,Nat.reduceEqDiff,Nat.reduceBEq,Nat.reduceAdd,Nat.reduceLeDiff,Nat.reduceMul,Nat.reduceLT,Int.reduceEq,Int.reduceLT,Int.reduceLE]
   simp
  ·rintro m tm _ ⟨j, rfl, hj, rfl, t0, t1, t5⟩
   by_cases hlt : j < l.length
   ·have hln := markP_len (markI k) l hj
    have hw : wrA (F.set b ⟨1, 3, (markP (markI k) l j).map rI⟩) (.ptr b 1 j 0) [I (k + (j : Nat))] = some (F.set b ⟨1, 3, (markP (markI k) l (j + 1)).map rI⟩) := by
     rw [wrP (AHeap.set_self ..) (y := k + (j : Nat)) (by omega) rfl, set_set]
     show some (F.set b ⟨1, _, ((markP (markI k) l j).set j (markI k j)).map rI⟩) = _
     rw [markP_set _ _ hlt]
    rw [wr_o, AHeap.set_self] at hw
    simp +contextual -dsimp -implicitDefEqProofs (maxSteps:=5000000) only [go_sem,reduceIte,reduceCtorEq,Nat.reduceEqDiff,Nat.reduceBEq,Nat.reduceAdd,Nat.reduceLeDiff,Nat.reduceMul,Nat.reduceLT,Int.reduceEq,Int.reduceLT,Int.reduceLE,t0,t1,t5,hlt,hw]
    exact ⟨_, by omega, j + 1, rfl, hlt, rfl, I_wrap (by omega) (by omega) (by omega), I_wrap (by omega) (by omega) (by omega)⟩
   ·have hje : j = l.length := by omega
    subst hje
    rw [markP_all]
    simp +contextual -dsimp -implicitDefEqProofs (maxSteps:=5000000) only [go_sem,reduceIte,reduceCtorEq,Nat.reduceEqDiff,Nat.reduceBEq,Nat.reduceAdd,Nat.reduceLeDiff,Nat.reduceMul,Nat.reduceLT,Int.reduceEq,Int.reduceLT,Int.reduceLE,t0,t1,t5,hlt]
    exact .inr ⟨b, cl, hb, by simp, rfl⟩
theorem c_heldIntS (n : Nat) (cl : Bool) (k : Int) (H : AHeap) (hn : n ≤ 1000000000) (h0 : 0 ≤ k) (hk : k ≤ 100000000000) : ACalls Tryz.prog 34 [.vsl (((List.range n).map (markI k)).map rI) cl, I k] H fun r H' => r = I (k + (n : Nat)) ∧ H' = H := by
 obtain ⟨l, hl⟩ : ∃ l, (List.range n).map (markI k) = l := ⟨_, rfl⟩
 have hln : l.length = n := by rw [← hl]; simp
 have hat : ∀ j, j < n → l.getD j default = k + (j : Nat) := fun j hj => by rw [← hl]; simp [List.getD_eq_getElem?_getD, hj, markI]
 rw [hl]
 refine acalls_of0 Tryz.func34 rfl (by kernel_rfl) rfl rfl (awp_sound (fz := fun _ => []) (im := fun _ => false) mixed _ _ _ _ (by kernel_rfl) ?_)
 simp +contextual -dsimp -implicitDefEqProofs (maxSteps:=5000000) only [go_sem,reduceIte,reduceCtorEq,Nat.reduceEqDiff,Nat.reduceBEq,Nat.reduceAdd,Nat.reduceLeDiff,Nat.reduceMul,Nat.reduceLT,Int.reduceEq,Int.reduceLT,Int.reduceLE]
 refine aloop mixed (fz := fun _ => []) (im := fun _ => false) (by kernel_rfl) (fun m tm H' => ∃ j : Nat, m = n - j ∧ j ≤ n ∧ H' = H ∧ tm 0 = .vsl (l.map rI) cl ∧ tm 1 = I (k + (j : Nat)) ∧ tm 5 = I j) n ⟨0, by omega, by omega, rfl, ?_⟩ ?_
 ·simp +contextual -dsimp -implicitDefEqProofs (maxSteps:=5000000) only [go_sem,reduceIte,reduceCtorEq,Nat.reduceEqDiff,Nat.reduceBEq,Nat.reduceAdd,Nat.reduceLeDiff,Nat.reduceMul,Nat.reduceLT,Int.reduceEq,Int.reduceLT,Int.reduceLE]
  simp
 ·rintro m tm H ⟨j, rfl, hj, rfl, t0, t1, t5⟩
  by_cases hlt : j < n
  ·have hat' := hat j hlt
   simp +contextual -dsimp -implicitDefEqProofs (maxSteps:=5000000) only [go_sem,reduceIte,reduceCtorEq,Nat.reduceEqDiff,Nat.reduceBEq,Nat.reduceAdd,Nat.reduceLeDiff,Nat.reduceMul,Nat.reduceLT,Int.reduceEq,Int.reduceLT,Int.reduceLE,t0,t1,t5,hln,hlt,hat']
   exact ⟨_, by omega, j + 1, rfl, hlt, I_wrap (by omega) (by omega) (by omega), I_wrap (by omega) (by omega) (by omega)⟩
  ·have hje : j = n := by omega
   subst hje
   simp +contextual -dsimp -implicitDefEqProofs (maxSteps:=5000000) only [go_sem,reduceIte,reduceCtorEq,Nat.reduceEqDiff,Nat.reduceBEq,Nat.reduceAdd,Nat.reduceLeDiff,Nat.reduceMul,Nat.reduceLT,Int.reduceEq,Int.reduceLT,Int.reduceLE,t0,t1,t5,hln,hlt]
theorem cv_u8 (cl : Bool) (n : Int) : convA Tryz.prog 22 9 (.vsl [[.lit (.int .u8 (IntKind.u8.wrap n))]] cl) = some (S [UInt8.ofNat (IntKind.u8.wrap n).toNat]) := by
 have h : 0 ≤ IntKind.u8.wrap n ∧ IntKind.u8.wrap n < 256 := by
  simp only [IntKind.wrap,IntKind.signed,IntKind.bits]
  simp
  omega
 have e1 : telem Tryz.prog 22 = some 5 := te22
 have e2 : tint Tryz.prog 5 = some .u8 := by kernel_rfl
 have e3 : tstr Tryz.prog 9 = true := by kernel_rfl
 simp only [convA,e1,e2,e3,and_self,if_true,bytesRows,byteRow,if_pos h,Option.map_some]
theorem c_markText (k : Int) (H : AHeap) (h0 : 0 ≤ k) (hk : k ≤ 1000000000000) : ACalls Tryz.prog 127 [I k] H fun r H' => (∃ s, r = S s) ∧ H' = H := by
 refine acalls_of0 Tryz.func127 rfl (by kernel_rfl) rfl rfl (awp_sound (fz := fun _ => []) (im := fun s => s == 12) mixed _ _ _ _ (by kernel_rfl) ?_)
 by_cases hz : k ≤ 0
 ·simp +contextual -dsimp -implicitDefEqProofs (maxSteps:=5000000) only [go_sem,reduceIte,reduceCtorEq,Nat.reduceEqDiff,Nat.reduceBEq,Nat.reduceAdd,Nat.reduceLeDiff,Nat.reduceMul,Nat.reduceLT,Int.reduceEq,Int.reduceLT,Int.reduceLE,hz]
  exact ⟨_, rfl⟩
 ·simp +contextual -dsimp -implicitDefEqProofs (maxSteps:=5000000) only [go_sem,reduceIte,reduceCtorEq,Nat.reduceEqDiff,Nat.reduceBEq,Nat.reduceAdd,Nat.reduceLeDiff,Nat.reduceMul,Nat.reduceLT,Int.reduceEq,Int.reduceLT,Int.reduceLE,hz]
  refine aloop mixed (fz := fun _ => []) (im := fun s => s == 12) (by kernel_rfl) (fun m tm H' => ∃ (q : Int) (s : Str), m = q.toNat ∧ 0 ≤ q ∧ q ≤ k ∧ s.length + q ≤ k ∧ H' = H ∧ tm 0 = I q ∧ tm 3 = S s) k.toNat ⟨k, [], rfl, by omega, by omega, by simp, rfl, ?_⟩ ?_
  ·simp +contextual -dsimp -implicitDefEqProofs (maxSteps:=5000000) only [go_sem,reduceIte,reduceCtorEq,Nat.reduceEqDiff,Nat.reduceBEq,Nat.reduceAdd,Nat.reduceLeDiff,Nat.reduceMul,Nat.reduceLT,Int.reduceEq,Int.reduceLT,Int.reduceLE]
  ·rintro m tm H ⟨q, s, rfl, hq0, hqk, hs, rfl, t0, t3⟩
   by_cases hlt : 0 < q
   ·have e : q.tdiv 10 = q / 10 := Int.tdiv_eq_ediv_of_nonneg hq0
    have w : IntKind.i64.wrap (q.tdiv 10) = q / 10 := by rw [e, w64 (by omega) (by omega)]
    simp +contextual -dsimp -implicitDefEqProofs (maxSteps:=5000000) only [go_sem,reduceIte,reduceCtorEq,Nat.reduceEqDiff,Nat.reduceBEq,Nat.reduceAdd,Nat.reduceLeDiff,Nat.reduceMul,Nat.reduceLT,Int.reduceEq,Int.reduceLT,Int.reduceLE,t0,t3,hlt,cv_u8,w]
    exact ⟨by omega, _, by omega, q / 10, _, rfl, by omega, by omega, by simp only [List.length_cons]; omega,rfl,rfl⟩
   ·simp +contextual -dsimp -implicitDefEqProofs (maxSteps:=5000000) only [go_sem,reduceIte,reduceCtorEq,Nat.reduceEqDiff,Nat.reduceBEq,Nat.reduceAdd,Nat.reduceLeDiff,Nat.reduceMul,Nat.reduceLT,Int.reduceEq,Int.reduceLT,Int.reduceLE,t0,t3,hlt]
    exact ⟨by omega, _, rfl⟩
theorem c_markLineS (F H : AHeap) (x : AV) (l : List Line) (k : Int) (hg : Grow rLine 4 41 F H x l) (hl : l.length ≤ 1000000000) (h0 : 0 ≤ k) (hk : k ≤ 100000000000) : ACalls Tryz.prog 32 [x, I k] H fun r H' => r = I (k + 4 * (l.length : Nat)) ∧ ∃ l' : List Line, Grow rLine 4 41 F H' x l' := by
 rcases hg with ⟨rfl, rfl, rfl⟩ | ⟨b, cl, hb, rfl, rfl⟩
 ·refine (c_markLineS0 k H).mono ?_
  rintro _ _ ⟨rfl, rfl⟩
  exact ⟨by simp, [], .inl ⟨rfl, rfl, rfl⟩⟩
 ·refine acalls_of0 Tryz.func32 rfl (by kernel_rfl) rfl rfl (awp_sound (fz := fun _ => []) (im := fun _ => false) mixed _ _ _ _ (by kernel_rfl) ?_)
  simp +contextual -dsimp -implicitDefEqProofs (maxSteps:=5000000) only [go_sem,reduceIte,reduceCtorEq,Nat.reduceEqDiff,Nat.reduceBEq,Nat.reduceAdd,Nat.reduceLeDiff,Nat.reduceMul,Nat.reduceLT,Int.reduceEq,Int.reduceLT,Int.reduceLE]
  refine aloop mixed (fz := fun _ => []) (im := fun _ => false) (by kernel_rfl) (fun m tm H' => ∃ (j : Nat) (L : List Line), m = l.length - j ∧ j ≤ l.length ∧ L.length = l.length ∧ H' = F.set b ⟨4, 41, L.map rLine⟩ ∧ tm 0 = .sl b 4 0 l.length cl ∧ tm 1 = I (k + 4 * (j : Nat)) ∧ tm 5 = I j) l.length ⟨0, l, by omega, by omega, rfl, rfl, ?_⟩ ?_
  ·simp +contextual -dsimp -implicitDefEqProofs (maxSteps:=5000000) only [go_sem,reduceIte,reduceCtorEq,Nat.reduceEqDiff,Nat.reduceBEq,Nat.reduceAdd,Nat.reduceLeDiff,Nat.reduceMul,Nat.reduceLT,Int.reduceEq,Int.reduceLT,Int.reduceLE]
   simp
  ·rintro m tm _ ⟨j, L, rfl, hj, hL, rfl, t0, t1, t5⟩
   by_cases hlt : j < l.length
   ·have hjL : j < L.length := by omega
    obtain ⟨⟨c, d, e, f⟩, hy⟩ : ∃ y : Line, L.map rLine = (L.set j y).map rLine := ⟨L.getD j default, by rw [set_same hjL]⟩
    rw [hy]
    have w0 := fun c d e f v => wr_set (F := F) (b := b) (g := rLine) (sz := 4) (ty := 41) (L := L) (j := j) (q := 0) (v := I v) (y := ⟨c, d, e, f⟩) (y' := ⟨v, d, e, f⟩) hjL rfl
    have w1 := fun c d e f v => wr_set (F := F) (b := b) (g := rLine) (sz := 4) (ty := 41) (L := L) (j := j) (q := 1) (v := I v) (y := ⟨c, d, e, f⟩) (y' := ⟨c, v, e, f⟩) hjL rfl
    have w2 := fun c d e f v => wr_set (F := F) (b := b) (g := rLine) (sz := 4) (ty := 41) (L := L) (j := j) (q := 2) (v := I v) (y := ⟨c, d, e, f⟩) (y' := ⟨c, d, v, f⟩) hjL rfl
    have w3 := fun c d e f v => wr_set (F := F) (b := b) (g := rLine) (sz := 4) (ty := 41) (L := L) (j := j) (q := 3) (v := I v) (y := ⟨c, d, e, f⟩) (y' := ⟨c, d, e, v⟩) hjL rfl
    simp only [wr_o,AHeap.set_self] at w0 w1 w2 w3
    obtain ⟨K0, hK0⟩ : ∃ K0, K0 = k + 4 * ((j : Nat) : Int) := ⟨_, rfl⟩
    obtain ⟨K1, hK1⟩ : ∃ K, K = K0 + 1 := ⟨_, rfl⟩
    have e1 : IntKind.i64.wrap (K0 + 1) = K1 := by rw [w64 (by omega) (by omega)]; omega
    obtain ⟨K2, hK2⟩ : ∃ K, K = K1 + 1 := ⟨_, rfl⟩
    have e2 : IntKind.i64.wrap (K1 + 1) = K2 := by rw [w64 (by omega) (by omega)]; omega
    obtain ⟨K3, hK3⟩ : ∃ K, K = K2 + 1 := ⟨_, rfl⟩
    have e3 : IntKind.i64.wrap (K2 + 1) = K3 := by rw [w64 (by omega) (by omega)]; omega
    obtain ⟨K4, hK4⟩ : ∃ K, K = K3 + 1 := ⟨_, rfl⟩
    have e4 : IntKind.i64.wrap (K3 + 1) = K4 := by rw [w64 (by omega) (by omega)]; omega
    rw [← hK0] at t1
    simp +contextual -dsimp -implicitDefEqProofs (maxSteps:=5000000) only [go_sem,reduceIte,reduceCtorEq,Nat.reduceEqDiff,Nat.reduceBEq,Nat.reduceAdd,Nat.reduceLeDiff,Nat.reduceMul,Nat.reduceLT,Int.reduceEq,Int.reduceLT,Int.reduceLE,t0,t1,t5,hlt,w0,w1,w2,w3,e1,e2,e3,e4]
    exact ⟨_, by omega, j + 1, _, rfl, hlt, by rw [List.length_set]; exact hL, rfl, by rw [show K4 = k + 4 * ((j + 1 : Nat) : Int) by omega], I_wrap (by omega) (by omega) (by omega)⟩
   ·have hje : j = l.length := by omega
    subst hje
    simp +contextual -dsimp -implicitDefEqProofs (maxSteps:=5000000) only [go_sem,reduceIte,reduceCtorEq,Nat.reduceEqDiff,Nat.reduceBEq,Nat.reduceAdd,Nat.reduceLeDiff,Nat.reduceMul,Nat.reduceLT,Int.reduceEq,Int.reduceLT,Int.reduceLE,t0,t1,t5,hlt]
    exact ⟨L, .inr ⟨b, cl, hb, by rw [hL], rfl⟩⟩
theorem c_markExitS (F H : AHeap) (x : AV) (l : List Exi) (k : Int) (hg : Grow rExit 3 44 F H x l) (hl : l.length ≤ 1000000000) (h0 : 0 ≤ k) (hk : k ≤ 100000000000) : ACalls Tryz.prog 44 [x, I k] H fun r H' => r = I (k + 3 * (l.length : Nat)) ∧ ∃ l' : List Exi, Grow rExit 3 44 F H' x l' := by
 rcases hg with ⟨rfl, rfl, rfl⟩ | ⟨b, cl, hb, rfl, rfl⟩
 ·refine (c_markExitS0 k H).mono ?_
  rintro _ _ ⟨rfl, rfl⟩
  exact ⟨by simp, [], .inl ⟨rfl, rfl, rfl⟩⟩
 ·refine acalls_of0 Tryz.func44 rfl (by kernel_rfl) rfl rfl (awp_sound (fz := fun _ => []) (im := fun _ => false) mixed _ _ _ _ (by kernel_rfl) ?_)
  simp +contextual -dsimp -implicitDefEqProofs (maxSteps:=5000000) only [go_sem,reduceIte,reduceCtorEq,Nat.reduceEqDiff,Nat.reduceBEq,Nat.reduceAdd,Nat.reduceLeDiff,Nat.reduceMul,Nat.reduceLT,Int.reduceEq,Int.reduceLT,Int.reduceLE]
  refine aloop mixed (fz := fun _ => []) (im := fun _ => false) (by kernel_rfl) (fun m tm H' => ∃ (j : Nat) (L : List Exi), m = l.length - j ∧ j ≤ l.length ∧ L.length = l.length ∧ H' = F.set b ⟨3, 44, L.map rExit⟩ ∧ tm 0 = .sl b 3 0 l.length cl ∧ tm 1 = I (k + 3 * (j : Nat)) ∧ tm 5 = I j) l.length ⟨0, l, by omega, by omega, rfl, rfl, ?_⟩ ?_
  ·simp +contextual -dsimp -implicitDefEqProofs (maxSteps:=5000000) only [go_sem,reduceIte,reduceCtorEq,Nat.reduceEqDiff,Nat.reduceBEq,Nat.reduceAdd,Nat.reduceLeDiff,Nat.reduceMul,Nat.reduceLT,Int.reduceEq,Int.reduceLT,Int.reduceLE]
   simp
  ·rintro m tm _ ⟨j, L, rfl, hj, hL, rfl, t0, t1, t5⟩
   by_cases hlt : j < l.length
   ·have hjL : j < L.length := by omega
    obtain ⟨⟨c, d, e⟩, hy⟩ : ∃ y : Exi, L.map rExit = (L.set j y).map rExit := ⟨L.getD j default, by rw [set_same hjL]⟩
    rw [hy]
    have w0 := fun c d e v => wr_set (F := F) (b := b) (g := rExit) (sz := 3) (ty := 44) (L := L) (j := j) (q := 0) (v := I v) (y := ⟨c, d, e⟩) (y' := ⟨v, d, e⟩) hjL rfl
    have w1 := fun c d e v => wr_set (F := F) (b := b) (g := rExit) (sz := 3) (ty := 44) (L := L) (j := j) (q := 1) (v := I v) (y := ⟨c, d, e⟩) (y' := ⟨c, v, e⟩) hjL rfl
    have w2 := fun c d e v => wr_set (F := F) (b := b) (g := rExit) (sz := 3) (ty := 44) (L := L) (j := j) (q := 2) (v := I v) (y := ⟨c, d, e⟩) (y' := ⟨c, d, v⟩) hjL rfl
    simp only [wr_o,AHeap.set_self] at w0 w1 w2
    obtain ⟨K0, hK0⟩ : ∃ K0, K0 = k + 3 * ((j : Nat) : Int) := ⟨_, rfl⟩
    obtain ⟨K1, hK1⟩ : ∃ K, K = K0 + 1 := ⟨_, rfl⟩
    have e1 : IntKind.i64.wrap (K0 + 1) = K1 := by rw [w64 (by omega) (by omega)]; omega
    obtain ⟨K2, hK2⟩ : ∃ K, K = K1 + 1 := ⟨_, rfl⟩
    have e2 : IntKind.i64.wrap (K1 + 1) = K2 := by rw [w64 (by omega) (by omega)]; omega
    obtain ⟨K3, hK3⟩ : ∃ K, K = K2 + 1 := ⟨_, rfl⟩
    have e3 : IntKind.i64.wrap (K2 + 1) = K3 := by rw [w64 (by omega) (by omega)]; omega
    rw [← hK0] at t1
    simp +contextual -dsimp -implicitDefEqProofs (maxSteps:=5000000) only [go_sem,reduceIte,reduceCtorEq,Nat.reduceEqDiff,Nat.reduceBEq,Nat.reduceAdd,Nat.reduceLeDiff,Nat.reduceMul,Nat.reduceLT,Int.reduceEq,Int.reduceLT,Int.reduceLE,t0,t1,t5,hlt,w0,w1,w2,e1,e2,e3]
    exact ⟨_, by omega, j + 1, _, rfl, hlt, by rw [List.length_set]; exact hL, rfl, by rw [show K3 = k + 3 * ((j + 1 : Nat) : Int) by omega], I_wrap (by omega) (by omega) (by omega)⟩
   ·have hje : j = l.length := by omega
    subst hje
    simp +contextual -dsimp -implicitDefEqProofs (maxSteps:=5000000) only [go_sem,reduceIte,reduceCtorEq,Nat.reduceEqDiff,Nat.reduceBEq,Nat.reduceAdd,Nat.reduceLeDiff,Nat.reduceMul,Nat.reduceLT,Int.reduceEq,Int.reduceLT,Int.reduceLE,t0,t1,t5,hlt]
    exact ⟨L, .inr ⟨b, cl, hb, by rw [hL], rfl⟩⟩
theorem c_markClassS (F H : AHeap) (x : AV) (l : List Class) (k : Int) (hg : Grow rClass 2 144 F H x l) (hl : l.length ≤ 1000000000) (h0 : 0 ≤ k) (hk : k ≤ 100000000000) : ACalls Tryz.prog 81 [x, I k] H fun r H' => r = I (k + 2 * (l.length : Nat)) ∧ ∃ l' : List Class, Grow rClass 2 144 F H' x l' := by
 rcases hg with ⟨rfl, rfl, rfl⟩ | ⟨b, cl, hb, rfl, rfl⟩
 ·refine (c_markClassS0 k H).mono ?_
  rintro _ _ ⟨rfl, rfl⟩
  exact ⟨by simp, [], .inl ⟨rfl, rfl, rfl⟩⟩
 ·refine acalls_of0 Tryz.func81 rfl (by kernel_rfl) rfl rfl (awp_sound (fz := fun _ => []) (im := fun _ => false) mixed _ _ _ _ (by kernel_rfl) ?_)
  simp +contextual -dsimp -implicitDefEqProofs (maxSteps:=5000000) only [go_sem,reduceIte,reduceCtorEq,Nat.reduceEqDiff,Nat.reduceBEq,Nat.reduceAdd,Nat.reduceLeDiff,Nat.reduceMul,Nat.reduceLT,Int.reduceEq,Int.reduceLT,Int.reduceLE]
  refine aloop mixed (fz := fun _ => []) (im := fun _ => false) (by kernel_rfl) (fun m tm H' => ∃ (j : Nat) (L : List Class), m = l.length - j ∧ j ≤ l.length ∧ L.length = l.length ∧ H' = F.set b ⟨2, 144, L.map rClass⟩ ∧ tm 0 = .sl b 2 0 l.length cl ∧ tm 1 = I (k + 2 * (j : Nat)) ∧ tm 5 = I j) l.length ⟨0, l, by omega, by omega, rfl, rfl, ?_⟩ ?_
  ·simp +contextual -dsimp -implicitDefEqProofs (maxSteps:=5000000) only [go_sem,reduceIte,reduceCtorEq,Nat.reduceEqDiff,Nat.reduceBEq,Nat.reduceAdd,Nat.reduceLeDiff,Nat.reduceMul,Nat.reduceLT,Int.reduceEq,Int.reduceLT,Int.reduceLE]
   simp
  ·rintro m tm _ ⟨j, L, rfl, hj, hL, rfl, t0, t1, t5⟩
   by_cases hlt : j < l.length
   ·have hjL : j < L.length := by omega
    obtain ⟨⟨c, d⟩, hy⟩ : ∃ y : Class, L.map rClass = (L.set j y).map rClass := ⟨L.getD j default, by rw [set_same hjL]⟩
    rw [hy]
    have w0 := fun c d v => wr_set (F := F) (b := b) (g := rClass) (sz := 2) (ty := 144) (L := L) (j := j) (q := 0) (v := S v) (y := ⟨c, d⟩) (y' := ⟨v, d⟩) hjL rfl
    have w1 := fun c d v => wr_set (F := F) (b := b) (g := rClass) (sz := 2) (ty := 144) (L := L) (j := j) (q := 1) (v := I v) (y := ⟨c, d⟩) (y' := ⟨c, v⟩) hjL rfl
    simp only [wr_o,AHeap.set_self] at w0 w1
    obtain ⟨K0, hK0⟩ : ∃ K0, K0 = k + 2 * ((j : Nat) : Int) := ⟨_, rfl⟩
    obtain ⟨K1, hK1⟩ : ∃ K, K = K0 + 1 := ⟨_, rfl⟩
    have e1 : IntKind.i64.wrap (K0 + 1) = K1 := by rw [w64 (by omega) (by omega)]; omega
    obtain ⟨K2, hK2⟩ : ∃ K, K = K1 + 1 := ⟨_, rfl⟩
    have e2 : IntKind.i64.wrap (K1 + 1) = K2 := by rw [w64 (by omega) (by omega)]; omega
    rw [← hK0] at t1
    simp +contextual -dsimp -implicitDefEqProofs (maxSteps:=5000000) only [go_sem,reduceIte,reduceCtorEq,Nat.reduceEqDiff,Nat.reduceBEq,Nat.reduceAdd,Nat.reduceLeDiff,Nat.reduceMul,Nat.reduceLT,Int.reduceEq,Int.reduceLT,Int.reduceLE,t0,t1,t5,hlt,w0,w1,e1,e2]
    refine (c_markText K0 _ (by omega) (by omega)).mono ?_
    rintro _ _ ⟨⟨s, rfl⟩, rfl⟩
    simp +contextual -dsimp -implicitDefEqProofs (maxSteps:=5000000) only [go_sem,reduceIte,reduceCtorEq,Nat.reduceEqDiff,Nat.reduceBEq,Nat.reduceAdd,Nat.reduceLeDiff,Nat.reduceMul,Nat.reduceLT,Int.reduceEq,Int.reduceLT,Int.reduceLE,t0,t1,t5,hlt,w0,w1,e1,e2]
    exact ⟨_, by omega, j + 1, _, rfl, hlt, by rw [List.length_set]; exact hL, rfl, by rw [show K2 = k + 2 * ((j + 1 : Nat) : Int) by omega], I_wrap (by omega) (by omega) (by omega)⟩
   ·have hje : j = l.length := by omega
    subst hje
    simp +contextual -dsimp -implicitDefEqProofs (maxSteps:=5000000) only [go_sem,reduceIte,reduceCtorEq,Nat.reduceEqDiff,Nat.reduceBEq,Nat.reduceAdd,Nat.reduceLeDiff,Nat.reduceMul,Nat.reduceLT,Int.reduceEq,Int.reduceLT,Int.reduceLE,t0,t1,t5,hlt]
    exact ⟨L, .inr ⟨b, cl, hb, by rw [hL], rfl⟩⟩
end
section
open Go Go.Sim
set_option maxRecDepth 100000
set_option maxHeartbeats 4000000

theorem c_markFaultS (F H : AHeap) (x : AV) (l : List Fault) (k : Int) (hg : Grow rFault 5 103 F H x l) (hl : l.length ≤ 1000000000) (h0 : 0 ≤ k) (hk : k ≤ 100000000000) : ACalls Tryz.prog 129 [x, I k] H fun r H' => r = I (k + 5 * (l.length : Nat)) ∧ Grow rFault 5 103 F H' x ((List.range l.length).map (markF k)) := by
 rcases hg with ⟨rfl, rfl, rfl⟩ | ⟨b, cl, hb, rfl, rfl⟩
 ·refine (c_markFaultS0 k H).mono ?_
  rintro _ _ ⟨rfl, rfl⟩
  exact ⟨by simp, .inl ⟨rfl, rfl, rfl⟩⟩
 ·refine acalls_of0 Tryz.func129 rfl (by kernel_rfl) rfl rfl (awp_sound (fz := fun _ => []) (im := fun _ => false) mixed _ _ _ _ (by kernel_rfl) ?_)
  simp +contextual -dsimp -implicitDefEqProofs (maxSteps:=5000000) only [go_sem,reduceIte,reduceCtorEq,Nat.reduceEqDiff,Nat.reduceBEq,Nat.reduceAdd,Nat.reduceLeDiff,Nat.reduceMul,Nat.reduceLT,Int.reduceEq,Int.reduceLT,Int.reduceLE]
  refine aloop mixed (fz := fun _ => []) (im := fun _ => false) (by kernel_rfl) (fun m tm H' => ∃ (j : Nat) (L : List Fault), m = l.length - j ∧ j ≤ l.length ∧ L = markP (markF k) l j ∧ H' = F.set b ⟨5, 103, L.map rFault⟩ ∧ tm 0 = .sl b 5 0 l.length cl ∧ tm 1 = I (k + 5 * (j : Nat)) ∧ tm 5 = I j) l.length ⟨0, l, by omega, by omega, rfl, rfl, ?_⟩ ?_
  ·simp +contextual -dsimp -implicitDefEqProofs (maxSteps:=5000000) only [go_sem,reduceIte,reduceCtorEq,Nat.reduceEqDiff,Nat.reduceBEq,Nat.reduceAdd,Nat.reduceLeDiff,Nat.reduceMul,Nat.reduceLT,Int.reduceEq,Int.reduceLT,Int.reduceLE]
   simp
  ·rintro m tm _ ⟨j, L, rfl, hj, hL, rfl, t0, t1, t5⟩
   by_cases hlt : j < l.length
   ·have hjL : j < L.length := by rw [hL, markP_len _ _ hj]; exact hlt
    obtain ⟨⟨c, d, e, f, g⟩, hy⟩ : ∃ y : Fault, L.map rFault = (L.set j y).map rFault := ⟨L.getD j default, by rw [set_same hjL]⟩
    rw [hy]
    have w0 := fun (c d e f : Int) (g : Bool) (v : Int) => wr_set (F := F) (b := b) (g := rFault) (sz := 5) (ty := 103) (L := L) (j := j) (q := 0) (v := I v) (y := ⟨c, d, e, f, g⟩) (y' := ⟨v, d, e, f, g⟩) hjL rfl
    have w1 := fun (c d e f : Int) (g : Bool) (v : Int) => wr_set (F := F) (b := b) (g := rFault) (sz := 5) (ty := 103) (L := L) (j := j) (q := 1) (v := I v) (y := ⟨c, d, e, f, g⟩) (y' := ⟨c, v, e, f, g⟩) hjL rfl
    have w2 := fun (c d e f : Int) (g : Bool) (v : Int) => wr_set (F := F) (b := b) (g := rFault) (sz := 5) (ty := 103) (L := L) (j := j) (q := 2) (v := I v) (y := ⟨c, d, e, f, g⟩) (y' := ⟨c, d, v, f, g⟩) hjL rfl
    have w3 := fun (c d e f : Int) (g : Bool) (v : Int) => wr_set (F := F) (b := b) (g := rFault) (sz := 5) (ty := 103) (L := L) (j := j) (q := 3) (v := I v) (y := ⟨c, d, e, f, g⟩) (y' := ⟨c, d, e, v, g⟩) hjL rfl
    have w4 := fun (c d e f : Int) (g : Bool) (v : Bool) => wr_set (F := F) (b := b) (g := rFault) (sz := 5) (ty := 103) (L := L) (j := j) (q := 4) (v := B v) (y := ⟨c, d, e, f, g⟩) (y' := ⟨c, d, e, f, v⟩) hjL rfl
    simp only [wr_o,AHeap.set_self] at w0 w1 w2 w3 w4
    obtain ⟨K0, hK0⟩ : ∃ K0, K0 = k + 5 * ((j : Nat) : Int) := ⟨_, rfl⟩
    obtain ⟨K1, hK1⟩ : ∃ K, K = K0 + 1 := ⟨_, rfl⟩
    have e1 : IntKind.i64.wrap (K0 + 1) = K1 := by rw [w64 (by omega) (by omega)]; omega
    obtain ⟨K2, hK2⟩ : ∃ K, K = K1 + 1 := ⟨_, rfl⟩
    have e2 : IntKind.i64.wrap (K1 + 1) = K2 := by rw [w64 (by omega) (by omega)]; omega
    obtain ⟨K3, hK3⟩ : ∃ K, K = K2 + 1 := ⟨_, rfl⟩
    have e3 : IntKind.i64.wrap (K2 + 1) = K3 := by rw [w64 (by omega) (by omega)]; omega
    obtain ⟨K4, hK4⟩ : ∃ K, K = K3 + 1 := ⟨_, rfl⟩
    have e4 : IntKind.i64.wrap (K3 + 1) = K4 := by rw [w64 (by omega) (by omega)]; omega
    obtain ⟨K5, hK5⟩ : ∃ K, K = K4 + 1 := ⟨_, rfl⟩
    have e5 : IntKind.i64.wrap (K4 + 1) = K5 := by rw [w64 (by omega) (by omega)]; omega
    rw [← hK0] at t1
    have hnew : L.set j ⟨K0, K1, K2, K3, decide (K4.tmod 3 = 0)⟩ = markP (markF k) l (j + 1) := by
     rw [← markP_set _ _ hlt, hL]
     unfold markF
     rw [show k + 5 * ((j : Nat) : Int) = K0 by omega, show K0 + 1 = K1 by omega, show K0 + 2 = K2 by omega, show K0 + 3 = K3 by omega, show K0 + 4 = K4 by omega]
    simp +contextual -dsimp -implicitDefEqProofs (maxSteps:=5000000) only [go_sem,reduceIte,reduceCtorEq,Nat.reduceEqDiff,Nat.reduceBEq,Nat.reduceAdd,Nat.reduceLeDiff,Nat.reduceMul,Nat.reduceLT,Int.reduceEq,Int.reduceLT,Int.reduceLE,t0,t1,t5,hlt,w0,w1,w2,w3,w4,e1,e2,e3,e4,e5]
    exact ⟨_, by omega, j + 1, _, rfl, hlt, hnew, rfl, by rw [show K5 = k + 5 * ((j + 1 : Nat) : Int) by omega], I_wrap (by omega) (by omega) (by omega)⟩
   ·have hje : j = l.length := by omega
    subst hje
    rw [markP_all] at hL
    subst hL
    simp +contextual -dsimp -implicitDefEqProofs (maxSteps:=5000000) only [go_sem,reduceIte,reduceCtorEq,Nat.reduceEqDiff,Nat.reduceBEq,Nat.reduceAdd,Nat.reduceLeDiff,Nat.reduceMul,Nat.reduceLT,Int.reduceEq,Int.reduceLT,Int.reduceLE,t0,t1,t5,hlt]
    exact .inr ⟨b, cl, hb, by simp, rfl⟩
theorem c_heldFaultS (n : Nat) (cl : Bool) (k : Int) (H : AHeap) (hn : n ≤ 1000000000) (h0 : 0 ≤ k) (hk : k ≤ 100000000000) : ACalls Tryz.prog 130 [.vsl (((List.range n).map (markF k)).map rFault) cl, I k] H fun r H' => r = I (k + 5 * (n : Nat)) ∧ H' = H := by
 obtain ⟨l, hl⟩ : ∃ l, (List.range n).map (markF k) = l := ⟨_, rfl⟩
 have hln : l.length = n := by rw [← hl]; simp
 have hat : ∀ j, j < n → l.getD j default = markF k j := fun j hj => by rw [← hl]; simp [List.getD_eq_getElem?_getD, hj]
 rw [hl]
 refine acalls_of0 Tryz.func130 rfl (by kernel_rfl) rfl rfl (awp_sound (fz := fun _ => []) (im := fun _ => false) mixed _ _ _ _ (by kernel_rfl) ?_)
 simp +contextual -dsimp -implicitDefEqProofs (maxSteps:=5000000) only [go_sem,reduceIte,reduceCtorEq,Nat.reduceEqDiff,Nat.reduceBEq,Nat.reduceAdd,Nat.reduceLeDiff,Nat.reduceMul,Nat.reduceLT,Int.reduceEq,Int.reduceLT,Int.reduceLE]
 refine aloop mixed (fz := fun _ => []) (im := fun _ => false) (by kernel_rfl) (fun m tm H' => ∃ j : Nat, m = n - j ∧ j ≤ n ∧ H' = H ∧ tm 0 = .vsl (l.map rFault) cl ∧ tm 1 = I (k + 5 * (j : Nat)) ∧ tm 5 = I j) n ⟨0, by omega, by omega, rfl, ?_⟩ ?_
 ·simp +contextual -dsimp -implicitDefEqProofs (maxSteps:=5000000) only [go_sem,reduceIte,reduceCtorEq,Nat.reduceEqDiff,Nat.reduceBEq,Nat.reduceAdd,Nat.reduceLeDiff,Nat.reduceMul,Nat.reduceLT,Int.reduceEq,Int.reduceLT,Int.reduceLE]
  simp
 ·rintro m tm H ⟨j, rfl, hj, rfl, t0, t1, t5⟩
  by_cases hlt : j < n
  ·have hat' := hat j hlt
   obtain ⟨K0, hK0⟩ : ∃ K0, K0 = k + 5 * ((j : Nat) : Int) := ⟨_, rfl⟩
   obtain ⟨K1, hK1⟩ : ∃ K, K = K0 + 1 := ⟨_, rfl⟩
   have e1 : IntKind.i64.wrap (K0 + 1) = K1 := by rw [w64 (by omega) (by omega)]; omega
   obtain ⟨K2, hK2⟩ : ∃ K, K = K1 + 1 := ⟨_, rfl⟩
   have e2 : IntKind.i64.wrap (K1 + 1) = K2 := by rw [w64 (by omega) (by omega)]; omega
   obtain ⟨K3, hK3⟩ : ∃ K, K = K2 + 1 := ⟨_, rfl⟩
   have e3 : IntKind.i64.wrap (K2 + 1) = K3 := by rw [w64 (by omega) (by omega)]; omega
   obtain ⟨K4, hK4⟩ : ∃ K, K = K3 + 1 := ⟨_, rfl⟩
   have e4 : IntKind.i64.wrap (K3 + 1) = K4 := by rw [w64 (by omega) (by omega)]; omega
   obtain ⟨K5, hK5⟩ : ∃ K, K = K4 + 1 := ⟨_, rfl⟩
   have e5 : IntKind.i64.wrap (K4 + 1) = K5 := by rw [w64 (by omega) (by omega)]; omega
   unfold markF at hat'
   rw [show k + 5 * ((j : Nat) : Int) = K0 by omega, show K0 + 1 = K1 by omega, show K0 + 2 = K2 by omega, show K0 + 3 = K3 by omega, show K0 + 4 = K4 by omega] at hat'
   rw [← hK0] at t1
   simp +contextual -dsimp -implicitDefEqProofs (maxSteps:=5000000) only [go_sem,reduceIte,reduceCtorEq,Nat.reduceEqDiff,Nat.reduceBEq,Nat.reduceAdd,Nat.reduceLeDiff,Nat.reduceMul,Nat.reduceLT,Int.reduceEq,Int.reduceLT,Int.reduceLE,t0,t1,t5,hln,hlt,hat',e1,e2,e3,e4,e5]
   exact ⟨_, by omega, j + 1, rfl, hlt, by rw [show K5 = k + 5 * ((j + 1 : Nat) : Int) by omega], I_wrap (by omega) (by omega) (by omega)⟩
  ·have hje : j = n := by omega
   subst hje
   simp +contextual -dsimp -implicitDefEqProofs (maxSteps:=5000000) only [go_sem,reduceIte,reduceCtorEq,Nat.reduceEqDiff,Nat.reduceBEq,Nat.reduceAdd,Nat.reduceLeDiff,Nat.reduceMul,Nat.reduceLT,Int.reduceEq,Int.reduceLT,Int.reduceLE,t0,t1,t5,hln,hlt]
theorem c_markHeap (F H : AHeap) (x : AV) (l : List Fault) (k : Int) (hg : Grow rFault 5 103 F H x l) (hl : l.length ≤ 1000000000) (h0 : 0 ≤ k) (hk : k ≤ 100000000000) : ACalls Tryz.prog 83 [.agg [x], I k] H fun r H' => r = I (k + 5 * (l.length : Nat)) ∧ Grow rFault 5 103 F H' x ((List.range l.length).map (markF k)) := by
 obtain ⟨o1, o2⟩ := one_grow hg
 refine acalls_of0 Tryz.func83 rfl (by kernel_rfl) rfl rfl (awp_sound (fz := fun _ => []) (im := fun s => s == 2) mixed _ _ _ _ (by kernel_rfl) ?_)
 simp +contextual -dsimp -implicitDefEqProofs (maxSteps:=5000000) only [go_sem,reduceIte,reduceCtorEq,Nat.reduceEqDiff,Nat.reduceBEq,Nat.reduceAdd,Nat.reduceLeDiff,Nat.reduceMul,Nat.reduceLT,Int.reduceEq,Int.reduceLT,Int.reduceLE,o1,o2]
 refine (c_markFaultS F _ x l k hg hl h0 hk).mono ?_
 rintro _ H1 ⟨rfl, k3⟩
 simp +contextual -dsimp -implicitDefEqProofs (maxSteps:=5000000) only [go_sem,reduceIte,reduceCtorEq,Nat.reduceEqDiff,Nat.reduceBEq,Nat.reduceAdd,Nat.reduceLeDiff,Nat.reduceMul,Nat.reduceLT,Int.reduceEq,Int.reduceLT,Int.reduceLE,o1,o2]
 exact k3
theorem c_heldHeap (n : Nat) (cl : Bool) (k : Int) (H : AHeap) (hn : n ≤ 1000000000) (h0 : 0 ≤ k) (hk : k ≤ 100000000000) : ACalls Tryz.prog 84 [aHeap ((List.range n).map (markF k)) cl, I k] H fun r H' => r = I (k + 5 * (n : Nat)) ∧ H' = H := by
 have n1 : ¬ k + 5 * (n : Nat) < 0 := by omega
 refine acalls_of0 Tryz.func84 rfl (by kernel_rfl) rfl rfl (awp_sound (fz := fun _ => []) (im := fun s => s == 2) mixed _ _ _ _ (by kernel_rfl) ?_)
 simp +contextual -dsimp -implicitDefEqProofs (maxSteps:=5000000) only [go_sem,reduceIte,reduceCtorEq,Nat.reduceEqDiff,Nat.reduceBEq,Nat.reduceAdd,Nat.reduceLeDiff,Nat.reduceMul,Nat.reduceLT,Int.reduceEq,Int.reduceLT,Int.reduceLE]
 refine (c_heldFaultS n cl k _ hn h0 hk).det ?_
 simp +contextual -dsimp -implicitDefEqProofs (maxSteps:=5000000) only [go_sem,reduceIte,reduceCtorEq,Nat.reduceEqDiff,Nat.reduceBEq,Nat.reduceAdd,Nat.reduceLeDiff,Nat.reduceMul,Nat.reduceLT,Int.reduceEq,Int.reduceLT,Int.reduceLE,n1]
theorem c_markTree (F H : AHeap) (x : AV) (l : List Class) (k : Int) (hg : Grow rClass 2 144 F H x l) (hl : l.length ≤ 1000000000) (h0 : 0 ≤ k) (hk : k ≤ 100000000000) : ACalls Tryz.prog 31 [.agg [x], I k] H fun r H' => r = I (k + 2 * (l.length : Nat)) ∧ ∃ l' : List Class, Grow rClass 2 144 F H' x l' := by
 obtain ⟨o1, o2⟩ := one_grow hg
 refine acalls_of0 Tryz.func31 rfl (by kernel_rfl) rfl rfl (awp_sound (fz := fun _ => []) (im := fun s => s == 2) mixed _ _ _ _ (by kernel_rfl) ?_)
 simp +contextual -dsimp -implicitDefEqProofs (maxSteps:=5000000) only [go_sem,reduceIte,reduceCtorEq,Nat.reduceEqDiff,Nat.reduceBEq,Nat.reduceAdd,Nat.reduceLeDiff,Nat.reduceMul,Nat.reduceLT,Int.reduceEq,Int.reduceLT,Int.reduceLE,o1,o2]
 refine (c_markClassS F _ x l k hg hl h0 hk).mono ?_
 rintro _ H1 ⟨rfl, k3⟩
 simp +contextual -dsimp -implicitDefEqProofs (maxSteps:=5000000) only [go_sem,reduceIte,reduceCtorEq,Nat.reduceEqDiff,Nat.reduceBEq,Nat.reduceAdd,Nat.reduceLeDiff,Nat.reduceMul,Nat.reduceLT,Int.reduceEq,Int.reduceLT,Int.reduceLE,o1,o2]
 exact k3
def markR (R : Res) (k : Int) : Res := ⟨(List.range R.log.length).map (markI k), R.ed, R.val, (List.range R.heap.length).map (markF (k + (R.log.length : Nat)))⟩
theorem c_markResult (F H : AHeap) (r : AV) (R : Res) (k : Int) (hr : OwnRes F H r R) (hl : R.log.length ≤ 1000000000) (hh : R.heap.length ≤ 1000000000) (h0 : 0 ≤ k) (hk : k ≤ 1000000000) : ACalls Tryz.prog 36 [r, I k] H fun v H' => v = I (k + (R.log.length : Nat) + 5 * (R.heap.length : Nat)) ∧ OwnRes F H' r (markR R k) := by
 obtain ⟨xl, xh, G1, rfl, h2, h3⟩ := hr
 obtain ⟨G2, k1, k2⟩ := grow_swap h2 h3
 obtain ⟨o1, o2⟩ := one_grow h2
 obtain ⟨o3, o4⟩ := one_grow h3
 refine acalls_of0 Tryz.func36 rfl (by kernel_rfl) rfl rfl (awp_sound (fz := fun _ => []) (im := fun s => s == 2) mixed _ _ _ _ (by kernel_rfl) ?_)
 simp +contextual -dsimp -implicitDefEqProofs (maxSteps:=5000000) only [go_sem,reduceIte,reduceCtorEq,Nat.reduceEqDiff,Nat.reduceBEq,Nat.reduceAdd,Nat.reduceLeDiff,Nat.reduceMul,Nat.reduceLT,Int.reduceEq,Int.reduceLT,Int.reduceLE,o1,o2,o3,o4]
 refine (c_markIntS _ _ _ _ k k2 hl h0 (by omega)).mono ?_
 rintro _ H1 ⟨rfl, k3⟩
 obtain ⟨G3, k4, k5⟩ := grow_swap k1 k3
 simp +contextual -dsimp -implicitDefEqProofs (maxSteps:=5000000) only [go_sem,reduceIte,reduceCtorEq,Nat.reduceEqDiff,Nat.reduceBEq,Nat.reduceAdd,Nat.reduceLeDiff,Nat.reduceMul,Nat.reduceLT,Int.reduceEq,Int.reduceLT,Int.reduceLE,o1,o2,o3,o4]
 refine (ACalls.mono (c_markHeap _ _ _ _ _ k5 hh (by omega) (by omega)) ?_)
 rintro _ H2 ⟨rfl, k6⟩
 simp +contextual -dsimp -implicitDefEqProofs (maxSteps:=5000000) only [go_sem,reduceIte,reduceCtorEq,Nat.reduceEqDiff,Nat.reduceBEq,Nat.reduceAdd,Nat.reduceLeDiff,Nat.reduceMul,Nat.reduceLT,Int.reduceEq,Int.reduceLT,Int.reduceLE,o1,o2,o3,o4]
 exact ⟨xl, xh, G3, rfl, k4, k6⟩
theorem c_heldResult (R : Res) (c1 c2 : Bool) (k : Int) (H : AHeap) (hl : R.log.length ≤ 1000000000) (hh : R.heap.length ≤ 1000000000) (h0 : 0 ≤ k) (hk : k ≤ 1000000000) : ACalls Tryz.prog 37 [aRes (markR R k) c1 c2, I k] H fun v H' => v = I (k + (R.log.length : Nat) + 5 * (R.heap.length : Nat)) ∧ H' = H := by
 refine acalls_of0 Tryz.func37 rfl (by kernel_rfl) rfl rfl (awp_sound (fz := fun _ => []) (im := fun s => s == 2) mixed _ _ _ _ (by kernel_rfl) ?_)
 simp +contextual -dsimp -implicitDefEqProofs (maxSteps:=5000000) only [go_sem,reduceIte,reduceCtorEq,Nat.reduceEqDiff,Nat.reduceBEq,Nat.reduceAdd,Nat.reduceLeDiff,Nat.reduceMul,Nat.reduceLT,Int.reduceEq,Int.reduceLT,Int.reduceLE]
 refine (c_heldIntS R.log.length c1 k _ hl h0 (by omega)).det ?_
 have n1 : ¬ k + (R.log.length : Nat) < 0 := by omega
 have n2 : ¬ k + (R.log.length : Nat) + 5 * (R.heap.length : Nat) < 0 := by omega
 simp +contextual -dsimp -implicitDefEqProofs (maxSteps:=5000000) only [go_sem,reduceIte,reduceCtorEq,Nat.reduceEqDiff,Nat.reduceBEq,Nat.reduceAdd,Nat.reduceLeDiff,Nat.reduceMul,Nat.reduceLT,Int.reduceEq,Int.reduceLT,Int.reduceLE,n1]
 refine (c_heldHeap R.heap.length c2 (k + (R.log.length : Nat)) _ hh (by omega) (by omega)).det ?_
 simp +contextual -dsimp -implicitDefEqProofs (maxSteps:=5000000) only [go_sem,reduceIte,reduceCtorEq,Nat.reduceEqDiff,Nat.reduceBEq,Nat.reduceAdd,Nat.reduceLeDiff,Nat.reduceMul,Nat.reduceLT,Int.reduceEq,Int.reduceLT,Int.reduceLE,n2]
end
section
open Go Go.Sim
set_option maxRecDepth 100000
set_option maxHeartbeats 4000000

theorem c_szClass (c : Class) (left : Int) (H : AHeap) (hn : c.name.length ≤ 4700000000000000000) (h0 : 0 ≤ left) (h1 : left ≤ 1048576) : ACalls Tryz.prog 124 [.agg (rClass c), I left] H fun r H' => (∃ v : Int, r = I v ∧ v ≤ left) ∧ H' = H := by
 refine acalls_of0 Tryz.func124 rfl (by kernel_rfl) rfl rfl (awp_sound (fz := fun _ => []) (im := fun s => s == 2) mixed _ _ _ _ (by kernel_rfl) ?_)
 have hw : IntKind.i64.wrap (left - (c.name.length : Nat)) = left - (c.name.length : Nat) := w64 (by omega) (by omega)
 by_cases h : left - (c.name.length : Nat) < 0
 ·simp +contextual -dsimp -implicitDefEqProofs (maxSteps:=5000000) only [go_sem,reduceIte,reduceCtorEq,Nat.reduceEqDiff,Nat.reduceBEq,Nat.reduceAdd,Nat.reduceLeDiff,Nat.reduceMul,Nat.reduceLT,Int.reduceEq,Int.reduceLT,Int.reduceLE,hw,h]
  exact ⟨_, rfl, by omega⟩
 ·simp +contextual -dsimp -implicitDefEqProofs (maxSteps:=5000000) only [go_sem,reduceIte,reduceCtorEq,Nat.reduceEqDiff,Nat.reduceBEq,Nat.reduceAdd,Nat.reduceLeDiff,Nat.reduceMul,Nat.reduceLT,Int.reduceEq,Int.reduceLT,Int.reduceLE,hw,h]
  exact ⟨_, rfl, by omega⟩
theorem c_szClassS (t : List Class) (cl : Bool) (left : Int) (H : AHeap) (hn : ∀ c ∈ t, c.name.length ≤ 4700000000000000000) (h0 : 0 ≤ left) (h1 : left ≤ 1048576) : ACalls Tryz.prog 76 [.vsl (t.map rClass) cl, I left] H fun r H' => (∃ v : Int, r = I v ∧ v ≤ left ∧ (0 ≤ v → t.length ≤ 1048576)) ∧ H' = H := by
 refine acalls_len (by kernel_rfl) (List.mem_cons_self ..) fun hl => ?_
 rw [List.length_map] at hl
 have hw : IntKind.i64.wrap (left - (t.length : Nat)) = left - (t.length : Nat) := w64 (by omega) (by omega)
 refine acalls_of0 Tryz.func76 rfl (by kernel_rfl) rfl rfl (awp_sound (fz := fun _ => []) (im := fun _ => false) mixed _ _ _ _ (by kernel_rfl) ?_)
 by_cases h : left - (t.length : Nat) < 0
 ·simp +contextual -dsimp -implicitDefEqProofs (maxSteps:=5000000) only [go_sem,reduceIte,reduceCtorEq,Nat.reduceEqDiff,Nat.reduceBEq,Nat.reduceAdd,Nat.reduceLeDiff,Nat.reduceMul,Nat.reduceLT,Int.reduceEq,Int.reduceLT,Int.reduceLE,hw,h]
  exact ⟨_, rfl, by omega, by omega⟩
 ·simp +contextual -dsimp -implicitDefEqProofs (maxSteps:=5000000) only [go_sem,reduceIte,reduceCtorEq,Nat.reduceEqDiff,Nat.reduceBEq,Nat.reduceAdd,Nat.reduceLeDiff,Nat.reduceMul,Nat.reduceLT,Int.reduceEq,Int.reduceLT,Int.reduceLE,hw,h]
  refine aloop mixed (fz := fun _ => []) (im := fun _ => false) (by kernel_rfl) (fun m tm H' => ∃ (k : Nat) (v : Int), m = t.length - k ∧ k ≤ t.length ∧ H' = H ∧ 0 ≤ v ∧ v ≤ left ∧ tm 0 = .vsl (t.map rClass) cl ∧ tm 1 = I v ∧ tm 5 = I k) t.length ⟨0, left - (t.length : Nat), by omega, by omega, rfl, by omega, by omega, ?_⟩ ?_
  ·simp +contextual -dsimp -implicitDefEqProofs (maxSteps:=5000000) only [go_sem,reduceIte,reduceCtorEq,Nat.reduceEqDiff,Nat.reduceBEq,Nat.reduceAdd,Nat.reduceLeDiff,Nat.reduceMul,Nat.reduceLT,Int.reduceEq,Int.reduceLT,Int.reduceLE]
  ·rintro m tm H ⟨k, v, rfl, hk, rfl, hv0, hv1, t0, t1, t5⟩
   by_cases hlt : k < t.length
   ·have hm : t.getD k default ∈ t := by rw [List.getD_eq_getElem?_getD, List.getElem?_eq_getElem hlt]; exact List.getElem_mem hlt
    simp +contextual -dsimp -implicitDefEqProofs (maxSteps:=5000000) only [go_sem,reduceIte,reduceCtorEq,Nat.reduceEqDiff,Nat.reduceBEq,Nat.reduceAdd,Nat.reduceLeDiff,Nat.reduceMul,Nat.reduceLT,Int.reduceEq,Int.reduceLT,Int.reduceLE,ixv te56 ti169 rClass_len (show 0 < 2 by decide),t0,t1,t5,hlt]
    refine (c_szClass (t.getD k default) v _ (hn _ hm) hv0 (by omega)).mono ?_
    rintro _ _ ⟨⟨u, rfl, hu⟩, rfl⟩
    by_cases hu0 : u < 0
    ·simp +contextual -dsimp -implicitDefEqProofs (maxSteps:=5000000) only [go_sem,reduceIte,reduceCtorEq,Nat.reduceEqDiff,Nat.reduceBEq,Nat.reduceAdd,Nat.reduceLeDiff,Nat.reduceMul,Nat.reduceLT,Int.reduceEq,Int.reduceLT,Int.reduceLE,t0,t1,t5,hlt,hu0]
     exact ⟨_, rfl, by omega, by omega⟩
    ·simp +contextual -dsimp -implicitDefEqProofs (maxSteps:=5000000) only [go_sem,reduceIte,reduceCtorEq,Nat.reduceEqDiff,Nat.reduceBEq,Nat.reduceAdd,Nat.reduceLeDiff,Nat.reduceMul,Nat.reduceLT,Int.reduceEq,Int.reduceLT,Int.reduceLE,t0,t1,t5,hlt,hu0]
     exact ⟨_, by omega, k + 1, u, rfl, hlt, by omega, by omega, rfl, I_wrap (by omega) (by omega) (by omega)⟩
   ·simp +contextual -dsimp -implicitDefEqProofs (maxSteps:=5000000) only [go_sem,reduceIte,reduceCtorEq,Nat.reduceEqDiff,Nat.reduceBEq,Nat.reduceAdd,Nat.reduceLeDiff,Nat.reduceMul,Nat.reduceLT,Int.reduceEq,Int.reduceLT,Int.reduceLE,t0,t1,t5,hlt]
    exact ⟨_, rfl, by omega, by omega⟩
theorem c_szTree (t : List Class) (cl : Bool) (left : Int) (H : AHeap) (hn : namesOk t) (h0 : 0 ≤ left) (h1 : left ≤ 1048576) : ACalls Tryz.prog 23 [aTree t cl, I left] H fun r H' => (∃ v : Int, r = I v ∧ v ≤ left ∧ (0 ≤ v → t.length ≤ 1048576)) ∧ H' = H := by
 have hn' : ∀ c ∈ t, c.name.length ≤ 4700000000000000000 := fun c hc => by have := hn c hc; omega
 refine acalls_of0 Tryz.func23 rfl (by kernel_rfl) rfl rfl (awp_sound (fz := fun _ => []) (im := fun s => s == 2) mixed _ _ _ _ (by kernel_rfl) ?_)
 simp +contextual -dsimp -implicitDefEqProofs (maxSteps:=5000000) only [go_sem,reduceIte,reduceCtorEq,Nat.reduceEqDiff,Nat.reduceBEq,Nat.reduceAdd,Nat.reduceLeDiff,Nat.reduceMul,Nat.reduceLT,Int.reduceEq,Int.reduceLT,Int.reduceLE]
 refine (c_szClassS t cl left _ hn' h0 h1).mono ?_
 rintro _ _ ⟨⟨v, rfl, hv, hvt⟩, rfl⟩
 by_cases h : v < 0
 ·simp +contextual -dsimp -implicitDefEqProofs (maxSteps:=5000000) only [go_sem,reduceIte,reduceCtorEq,Nat.reduceEqDiff,Nat.reduceBEq,Nat.reduceAdd,Nat.reduceLeDiff,Nat.reduceMul,Nat.reduceLT,Int.reduceEq,Int.reduceLT,Int.reduceLE,h]
  exact ⟨_, rfl, by omega, by omega⟩
 ·simp +contextual -dsimp -implicitDefEqProofs (maxSteps:=5000000) only [go_sem,reduceIte,reduceCtorEq,Nat.reduceEqDiff,Nat.reduceBEq,Nat.reduceAdd,Nat.reduceLeDiff,Nat.reduceMul,Nat.reduceLT,Int.reduceEq,Int.reduceLT,Int.reduceLE,h]
  exact ⟨_, rfl, hv, hvt⟩
theorem c_szLineS (l : List Line) (cl : Bool) (left : Int) (H : AHeap) (h0 : 0 ≤ left) (h1 : left ≤ 1048576) : ACalls Tryz.prog 24 [.vsl (l.map rLine) cl, I left] H fun r H' => (∃ v : Int, r = I v ∧ v ≤ left ∧ (0 ≤ v → l.length ≤ 1048576)) ∧ H' = H := by
 refine acalls_len (by kernel_rfl) (List.mem_cons_self ..) fun hl => ?_
 rw [List.length_map] at hl
 have hw : IntKind.i64.wrap (left - (l.length : Nat)) = left - (l.length : Nat) := w64 (by omega) (by omega)
 refine acalls_of0 Tryz.func24 rfl (by kernel_rfl) rfl rfl (awp_sound (fz := fun _ => []) (im := fun _ => false) mixed _ _ _ _ (by kernel_rfl) ?_)
 by_cases h : left - (l.length : Nat) < 0
 ·simp +contextual -dsimp -implicitDefEqProofs (maxSteps:=5000000) only [go_sem,reduceIte,reduceCtorEq,Nat.reduceEqDiff,Nat.reduceBEq,Nat.reduceAdd,Nat.reduceLeDiff,Nat.reduceMul,Nat.reduceLT,Int.reduceEq,Int.reduceLT,Int.reduceLE,hw,h]
  exact ⟨_, rfl, by omega, by omega⟩
 ·simp +contextual -dsimp -implicitDefEqProofs (maxSteps:=5000000) only [go_sem,reduceIte,reduceCtorEq,Nat.reduceEqDiff,Nat.reduceBEq,Nat.reduceAdd,Nat.reduceLeDiff,Nat.reduceMul,Nat.reduceLT,Int.reduceEq,Int.reduceLT,Int.reduceLE,hw,h]
  exact ⟨_, rfl, by omega, by omega⟩
theorem c_szExitS (l : List Exi) (cl : Bool) (left : Int) (H : AHeap) (h0 : 0 ≤ left) (h1 : left ≤ 1048576) : ACalls Tryz.prog 38 [.vsl (l.map rExit) cl, I left] H fun r H' => (∃ v : Int, r = I v ∧ v ≤ left ∧ (0 ≤ v → l.length ≤ 1048576)) ∧ H' = H := by
 refine acalls_len (by kernel_rfl) (List.mem_cons_self ..) fun hl => ?_
 rw [List.length_map] at hl
 have hw : IntKind.i64.wrap (left - (l.length : Nat)) = left - (l.length : Nat) := w64 (by omega) (by omega)
 refine acalls_of0 Tryz.func38 rfl (by kernel_rfl) rfl rfl (awp_sound (fz := fun _ => []) (im := fun _ => false) mixed _ _ _ _ (by kernel_rfl) ?_)
 by_cases h : left - (l.length : Nat) < 0
 ·simp +contextual -dsimp -implicitDefEqProofs (maxSteps:=5000000) only [go_sem,reduceIte,reduceCtorEq,Nat.reduceEqDiff,Nat.reduceBEq,Nat.reduceAdd,Nat.reduceLeDiff,Nat.reduceMul,Nat.reduceLT,Int.reduceEq,Int.reduceLT,Int.reduceLE,hw,h]
  exact ⟨_, rfl, by omega, by omega⟩
 ·simp +contextual -dsimp -implicitDefEqProofs (maxSteps:=5000000) only [go_sem,reduceIte,reduceCtorEq,Nat.reduceEqDiff,Nat.reduceBEq,Nat.reduceAdd,Nat.reduceLeDiff,Nat.reduceMul,Nat.reduceLT,Int.reduceEq,Int.reduceLT,Int.reduceLE,hw,h]
  exact ⟨_, rfl, by omega, by omega⟩
end
section
open Go Go.Sim
set_option maxRecDepth 100000

theorem bfsG_dch {h : List Fault} (ho : heapOk h) : ∀ (n : Nat) (pre : List Int) (f : Int), 0 ≤ f → f < h.length → f < n → (∀ a ∈ pre, f < a) → bfsG h n pre.length (pre ++ [f]) = pre ++ dchF h f
 | 0, pre, f, h0, h1, h2, _ => by omega
 | n + 1, pre, f, h0, h1, h2, h3 => by
  obtain ⟨o1, o2, o3⟩ := ho f.toNat (by omega)
  have e : (pre ++ [f]).getD pre.length default = f := by simp [List.getD_eq_getElem?_getD]
  have e1 : causeOf h f = -1 := o1
  have e2 : -1 ≤ ctxOf h f := o2
  have e3 : ctxOf h f < f := by have : ctxOf h f < f.toNat := o3; omega
  simp only [bfsG]
  rw [if_pos (by simp), e, e1, dchF_step ho h0 h1]
  have a1 : addF (pre ++ [f]) (-1) = pre ++ [f] := by unfold addF; rw [if_neg (by omega)]
  rw [a1]
  by_cases hg : ctxOf h f < 0
  ·have a2 : addF (pre ++ [f]) (ctxOf h f) = pre ++ [f] := by unfold addF; rw [if_neg (by omega)]
   rw [a2, dchF_neg hg]
   cases n with
   | zero => rfl
   | succ n => simp only [bfsG]; rw [if_neg (by simp)]
  ·have a2 : addF (pre ++ [f]) (ctxOf h f) = (pre ++ [f]) ++ [ctxOf h f] := by
    have hany : ((pre ++ [f]).any fun x => decide (ctxOf h f = x)) = false := by
     rw [List.any_eq_false]
     intro a ha
     rcases List.mem_append.1 ha with q | q
     ·have := h3 a q
      have : ¬ ctxOf h f = a := by omega
      simp [this]
     ·simp at q
      have : ¬ ctxOf h f = a := by omega
      simp [this]
    unfold addF
    rw [if_pos ⟨by omega, hany⟩]
   rw [a2]
   have := bfsG_dch ho n (pre ++ [f]) (ctxOf h f) (by omega) (by omega) (by omega) (fun a ha => by
    rcases List.mem_append.1 ha with q | q
    ·have := h3 a q; omega
    ·simp at q; subst q; exact e3)
   rw [List.length_append] at this
   simpa using this
theorem bfsF_dch {h : List Fault} (ho : heapOk h) {f : Int} (h0 : 0 ≤ f) (h1 : f < h.length) : bfsF h f = dchF h f :=
 bfsG_dch ho (h.length + 1) [] f h0 h1 (by omega) (fun a ha => by cases ha)
theorem dchG_dec {h : List Fault} (ho : heapOk h) : ∀ (n : Nat) (f : Int), f < h.length → (dchG h n f).Pairwise (fun a b => b < a) ∧ ∀ a ∈ dchG h n f, a ≤ f
 | 0, f, _ => ⟨.nil, fun a ha => by cases ha⟩
 | n + 1, f, h1 => by
  simp only [dchG]
  split
  ·rename_i h0
   obtain ⟨o1, o2, o3⟩ := ho f.toNat (by omega)
   have e3 : ctxOf h f < f := by have : ctxOf h f < f.toNat := o3; omega
   obtain ⟨q1, q2⟩ := dchG_dec ho n (ctxOf h f) (by omega)
   refine ⟨.cons (fun a ha => by have := q2 a ha; omega) q1, fun a ha => ?_⟩
   rcases List.mem_cons.1 ha with q | q
   ·omega
   ·have := q2 a q; omega
  ·exact ⟨.nil, fun a ha => by cases ha⟩
theorem fold_insF : ∀ (d out : List Int), d.Pairwise (fun a b => b < a) → (∀ a ∈ d, ∀ b ∈ out, a < b) → d.foldl insF out = d.reverse ++ out
 | [], out, _, _ => rfl
 | v :: d, out, hp, hm => by
  rw [List.foldl_cons]
  have hi : insF out v = v :: out := by
   have hk : insK out v = 0 := by
    cases out with
    | nil => rfl
    | cons b out =>
     have := hm v (List.mem_cons_self ..) b (List.mem_cons_self ..)
     have : ¬ b < v := by omega
     simp [insK, this]
   unfold insF
   rw [hk, if_pos]
   ·simp
   ·cases out with
    | nil => exact .inl rfl
    | cons b out =>
     have := hm v (List.mem_cons_self ..) b (List.mem_cons_self ..)
     right; simp; omega
  obtain ⟨p1, p2⟩ := List.pairwise_cons.1 hp
  rw [hi, fold_insF d (v :: out) p2 (fun a ha b hb => ?_)]
  ·simp
  ·rcases List.mem_cons.1 hb with q | q
   ·subst q; exact p1 a ha
   ·exact hm a (List.mem_cons_of_mem _ ha) b q
theorem sortI_dec {d : List Int} (hp : d.Pairwise (fun a b => b < a)) : sortI d = d.reverse := by
 have s1 : (sortI d).Pairwise (fun a b => a ≤ b) := by
  have := List.pairwise_mergeSort (le := fun x y : Int => decide (x ≤ y)) (fun a b c h1 h2 => by simp at *; omega) (fun a b => by simp; omega) d
  exact this.imp (fun h => by simpa using h)
 have s2 : d.reverse.Pairwise (fun a b => a ≤ b) := by
  rw [List.pairwise_reverse]
  exact hp.imp (fun h => by omega)
 have pm : (sortI d).Perm d.reverse := (List.mergeSort_perm d _).trans (List.reverse_perm d).symm
 exact pm.eq_of_pairwise (fun a b _ _ h1 h2 => by omega) s1 s2
theorem sort_same {h : List Fault} (ho : heapOk h) {f : Int} (h0 : 0 ≤ f) (h1 : f < h.length) : sortI (bfsF h f) = sortedF (dchF h f) := by
 have hd := (dchG_dec ho (f + 1).toNat f h1).1
 rw [bfsF_dch ho h0 h1]
 unfold sortedF
 have := fold_insF (dchF h f) [] hd (fun a _ b hb => by cases hb)
 rw [this, List.append_nil]
 exact sortI_dec hd
theorem res_same {t : List Class} {s : Clo} {k : Nat} (hc : CloOk t s k) : resM s = resX s := by
 unfold resM resX
 by_cases h0 : 0 ≤ s.cur
 ·rw [if_pos h0, if_pos h0]
  rw [sort_same hc.ho h0 hc.cur]
 ·rw [if_neg h0, if_neg h0]
end
section
open Go Go.Sim
set_option maxRecDepth 100000

inductive Fo where
 | nil
 | node (k a b : Int) (kids rest : Fo)
 deriving Inhabited
def Fo.size : Fo → Nat
 | .nil => 0
 | .node _ _ _ kids rest => 1 + kids.size + rest.size
def Fo.flat : Fo → Int → List Line
 | .nil, _ => []
 | .node k a b kids rest, d => ⟨d, k, a, b⟩ :: (kids.flat (d + 1) ++ rest.flat d)
theorem flat_len : ∀ (f : Fo) (d : Int), (f.flat d).length = f.size
 | .nil, _ => rfl
 | .node k a b kids rest, d => by simp only [Fo.flat,Fo.size,List.length_cons,List.length_append,flat_len kids,flat_len rest]; omega
theorem flat_deep : ∀ (f : Fo) (d : Int), ∀ x ∈ f.flat d, d ≤ x.depth
 | .nil, _, x, h => by simp [Fo.flat] at h
 | .node k a b kids rest, d, x, h => by
  simp only [Fo.flat,List.mem_cons,List.mem_append] at h
  rcases h with rfl | h | h
  ·exact Int.le_refl _
  ·have := flat_deep kids (d + 1) x h; omega
  ·exact flat_deep rest d x h
def Low (d : Int) (post : List Line) : Prop := ∀ l r, post = l :: r → l.depth < d
theorem low_nil (d : Int) : Low d [] := fun l r h => by cases h
theorem low_flat {f : Fo} {d : Int} {post : List Line} (h : Low d post) : Low (d + 1) (f.flat d ++ post) := by
 intro l r e
 cases f with
 | nil => have := h l r e; omega
 | node k a b kids rest =>
  simp only [Fo.flat,List.cons_append] at e
  injection e with e1 e2
  rw [← e1]
  show d < d + 1
  omega
def endP (p : List Line) (i : Nat) : Nat := i + 1 + ((p.drop (i + 1)).takeWhile fun x => decide ((p.getD i default).depth < x.depth)).length
theorem endP_le {p : List Line} {i : Nat} (h : i < p.length) : endP p i ≤ p.length := by
 unfold endP
 have h1 : ((p.drop (i + 1)).takeWhile fun x => decide ((p.getD i default).depth < x.depth)).length ≤ (p.drop (i + 1)).length := (List.takeWhile_sublist _).length_le
 rw [List.length_drop] at h1
 omega
theorem endP_gt (p : List Line) (i : Nat) : i < endP p i := by unfold endP; omega
theorem endP_is {p : List Line} {i k : Nat} (h0 : i < k) (h1 : k ≤ p.length) (h2 : ∀ j, i < j → j < k → (p.getD i default).depth < (p.getD j default).depth) (h3 : k < p.length → ¬ (p.getD i default).depth < (p.getD k default).depth) : endP p i = k := by
 unfold endP
 generalize hd : (p.getD i default).depth = d at h2 h3
 have e : p.drop (i + 1) = (p.take k).drop (i + 1) ++ p.drop k := by
  rw [List.drop_take]
  have : p.drop k = (p.drop (i + 1)).drop (k - (i + 1)) := by rw [List.drop_drop]; congr 1; omega
  rw [this, List.take_append_drop]
 have l1 : ((p.take k).drop (i + 1)).length = k - (i + 1) := by simp; omega
 have a1 : ∀ x ∈ (p.take k).drop (i + 1), decide (d < x.depth) = true := by
  intro x hx
  obtain ⟨j, hj, rfl⟩ := List.mem_iff_getElem.1 hx
  have hj' : i + 1 + j < k := by omega
  have := h2 (i + 1 + j) (by omega) hj'
  rw [List.getD_eq_getElem?_getD, List.getElem?_eq_getElem (by omega)] at this
  simpa using this
 rw [e, List.takeWhile_append_of_pos a1, List.length_append, l1]
 have : (p.drop k).takeWhile (fun x => decide (d < x.depth)) = [] := by
  rcases Nat.lt_or_ge k p.length with q | q
  ·rw [List.drop_eq_getElem_cons q]
   have := h3 q
   rw [List.getD_eq_getElem?_getD, List.getElem?_eq_getElem q] at this
   simp only [Option.getD_some] at this
   rw [List.takeWhile_cons_of_neg (by simpa using this)]
  ·rw [List.drop_eq_nil_of_le q]; rfl
 rw [this]
 simp
 omega

def At (p : List Line) (i : Nat) (d : Int) (f : Fo) : Prop := ∃ pre post, p = pre ++ (f.flat d ++ post) ∧ pre.length = i ∧ Low d post
section
variable {p : List Line} {i : Nat} {d k a b : Int} {f ks re : Fo}
theorem At.len (h : At p i d f) : i + f.size ≤ p.length := by
 obtain ⟨pre, post, rfl, rfl, _⟩ := h
 simp [flat_len]
theorem At.head (h : At p i d (.node k a b ks re)) : i < p.length ∧ p.getD i default = ⟨d, k, a, b⟩ := by
 have hl := h.len
 refine ⟨by simp only [Fo.size] at hl; omega,?_⟩
 obtain ⟨pre, post, rfl, rfl, _⟩ := h
 simp [Fo.flat]
theorem At.kids (h : At p i d (.node k a b ks re)) : At p (i + 1) (d + 1) ks := by
 obtain ⟨pre, post, rfl, rfl, hp⟩ := h
 exact ⟨pre ++ [⟨d, k, a, b⟩], re.flat d ++ post, by simp [Fo.flat], by simp, low_flat hp⟩
theorem At.rest (h : At p i d (.node k a b ks re)) : At p (i + 1 + ks.size) d re := by
 obtain ⟨pre, post, rfl, rfl, hp⟩ := h
 exact ⟨pre ++ ⟨d, k, a, b⟩ :: ks.flat (d + 1), post, by simp [Fo.flat], by simp [flat_len]; omega, hp⟩
theorem At.stop (h : At p i d .nil) (hi : i < p.length) : (p.getD i default).depth < d := by
 obtain ⟨pre, post, rfl, rfl, hp⟩ := h
 cases post with
 | nil => simp [Fo.flat] at hi
 | cons l r => have := hp l r rfl; simpa [Fo.flat] using this
theorem At.deep (h : At p i d f) {j : Nat} (h0 : i ≤ j) (h1 : j < i + f.size) : d ≤ (p.getD j default).depth := by
 have hl := h.len
 obtain ⟨pre, post, rfl, rfl, hp⟩ := h
 have e : (pre ++ (f.flat d ++ post)).getD j default = (f.flat d).getD (j - pre.length) default := by
  simp only [List.getD_eq_getElem?_getD]
  rw [List.getElem?_append_right h0, List.getElem?_append_left (by rw [flat_len]; omega)]
 rw [e, List.getD_eq_getElem?_getD, List.getElem?_eq_getElem (by rw [flat_len]; omega)]
 exact flat_deep f d _ (List.getElem_mem _)
theorem At.low (h : At p i d f) (hi : i + f.size < p.length) : (p.getD (i + f.size) default).depth < d := by
 obtain ⟨pre, post, rfl, rfl, hp⟩ := h
 cases post with
 | nil => simp [flat_len] at hi
 | cons l r =>
  have := hp l r rfl
  simp only [List.getD_eq_getElem?_getD]
  rw [List.getElem?_append_right (by omega), List.getElem?_append_right (by rw [flat_len]; omega), flat_len]
  simpa using this
theorem At.top (h : At p i d f) {j : Nat} (hj : i ≤ j) (h2 : j < p.length) (h3 : j ≤ i + f.size) (hf : ∀ k a b kids rest, f = .node k a b kids rest → j = i → (p.getD j default).depth ≤ d) : j = i → (p.getD j default).depth ≤ d := by
 intro e
 subst e
 cases f with
 | nil => have := h.stop h2; omega
 | node k a b kids rest => exact hf _ _ _ _ _ rfl rfl
theorem At.first (h : At p i d f) (hi : i < p.length) : (p.getD i default).depth ≤ d := by
 cases f with
 | nil => have := h.stop hi; omega
 | node k a b kids rest => rw [h.head.2]; exact Int.le_refl _
theorem At.endP (h : At p i d (.node k a b ks re)) : endP p i = i + 1 + ks.size := by
 have hk := h.kids
 have hl := hk.len
 have hd : (p.getD i default).depth = d := by rw [h.head.2]
 refine endP_is (by omega) hl (fun j h1 h2 => ?_) (fun h1 => ?_)
 ·have := hk.deep (j := j) (by omega) (by omega)
  omega
 ·have := h.rest.first h1
  omega
end
theorem at_top {f : Fo} {p : List Line} (h : p = f.flat 0) : At p 0 0 f := ⟨[], [], by simp [h], rfl, low_nil _⟩

def opensK (k : Int) : Bool := inR k 7 12
def followsK (k : Int) : Bool := inR k 8 10
def jumpsK (k : Int) : Bool := inR k 2 6
def chainN : Fo → Nat → List Nat
 | .nil, _ => []
 | .node k _ _ kids rest, i => if followsK k = true then i :: chainN rest (i + 1 + kids.size) else []
def skipF : Fo → Fo
 | .nil => .nil
 | .node k a b kids rest => if followsK k = true then skipF rest else .node k a b kids rest
def skipN : Fo → Nat → Nat
 | .nil, i => i
 | .node k _ _ kids rest, i => if followsK k = true then skipN rest (i + 1 + kids.size) else i
def headsK : Fo → List Int
 | .nil => []
 | .node k _ _ _ rest => if followsK k = true then k :: headsK rest else []
def sibN : Fo → Nat → List Nat
 | .nil, _ => []
 | .node _ _ _ kids rest, i => i :: sibN rest (i + 1 + kids.size)
def tailP (p : List Line) (d : Int) : Nat → Nat → List Nat
 | 0, _ => []
 | n + 1, k => if k < p.length ∧ (p.getD k default).depth = d ∧ followsK (p.getD k default).kind = true then k :: tailP p d n (endP p k) else []
def chainP (p : List Line) (i : Nat) : List Nat := i :: tailP p (p.getD i default).depth p.length (endP p i)
theorem tailP_at {p : List Line} : ∀ (f : Fo) (n i : Nat) (d : Int), At p i d f → p.length ≤ n + i → tailP p d n i = chainN f i
 | .nil, n, i, d, h, hn => by
  cases n with
  | zero => rfl
  | succ n =>
   simp only [tailP,chainN]
   rw [if_neg]
   rintro ⟨h1, h2, _⟩
   have := h.stop h1
   omega
 | .node k a b kids rest, n, i, d, h, hn => by
  have hh := h.head
  cases n with
  | zero => omega
  | succ n =>
   simp only [tailP,chainN]
   rw [hh.2]
   by_cases hk : followsK k = true
   ·rw [if_pos ⟨hh.1, rfl, hk⟩, if_pos hk, h.endP]
    rw [tailP_at rest n _ d h.rest (by omega)]
   ·rw [if_neg (fun q => hk q.2.2), if_neg hk]
theorem chainP_at {p : List Line} {i : Nat} {d k a b : Int} {kids rest : Fo} (h : At p i d (.node k a b kids rest)) : chainP p i = i :: chainN rest (i + 1 + kids.size) := by
 have hd : (p.getD i default).depth = d := by rw [h.head.2]
 unfold chainP
 rw [hd, h.endP, tailP_at rest _ _ d h.rest (by omega)]
section
variable {p : List Line} {i : Nat} {d : Int}
theorem At.skip : ∀ {f : Fo} {i : Nat}, At p i d f → At p (skipN f i) d (skipF f)
 | .nil, i, h => h
 | .node k a b kids rest, i, h => by
  simp only [skipN,skipF]
  split
  ·exact At.skip h.rest
  ·exact h
theorem skipN_add : ∀ (f : Fo) (i : Nat), skipN f i + (skipF f).size = i + f.size
 | .nil, i => rfl
 | .node k a b kids rest, i => by
  simp only [skipN,skipF]
  split
  ·rw [skipN_add rest]; simp only [Fo.size]; omega
  ·rfl
theorem skipF_size : ∀ (f : Fo), (skipF f).size ≤ f.size
 | .nil => Nat.le_refl _
 | .node k a b kids rest => by
  simp only [skipF]
  split
  ·have := skipF_size rest; simp only [Fo.size]; omega
  ·exact Nat.le_refl _
theorem chain_end : ∀ (f : Fo) (i j : Nat), At p i d f → endP p j = i → endP p ((j :: chainN f i).getLastD 0) = skipN f i
 | .nil, i, j, h, hj => by simpa [chainN, skipN] using hj
 | .node k a b kids rest, i, j, h, hj => by
  simp only [chainN,skipN]
  split
  ·have := chain_end rest (i + 1 + kids.size) i h.rest h.endP
   simpa using this
  ·simpa using hj
end
end
section
open Go Go.Sim
set_option maxRecDepth 100000

def numOk (t : List Class) (k a b : Int) : Bool :=
 if k = 1 ∨ k = 4 then inR a 0 99 && decide (b = 0)
 else if k = 2 then hasF t a && inR b 0 99
 else if k = 8 then hasF t a && decide (b = 0)
 else if k = 11 then inR a 0 9 && inR b 0 1
 else if k = 12 then inR a 0 3 && decide (b = 0)
 else inR k 0 12 && (decide (a = 0) && decide (b = 0))
def Fo.isNil : Fo → Bool
 | .nil => true
 | _ => false
def numsF (t : List Class) : Fo → Int → Bool
 | .nil, _ => true
 | .node k a b kids rest, d => numOk t k a b && (inR d 0 5 && ((opensK k == !kids.isNil) && (numsF t kids (d + 1) && numsF t rest d)))
def tryG : Int → List Int → Bool
 | _, [] => true
 | last, k :: ks => ((decide (k = 8) && decide (last ≤ 8)) || ((decide (k = 9) && decide (last = 8)) || (decide (k = 10) && decide (last < 10)))) && tryG k ks
def tryOkF (ks : List Int) : Bool := tryG 7 ks && (decide (1 ≤ ks.length) && decide ((ks.filter fun k => decide (k = 8)).length ≤ 6))
def okF : Fo → Bool → Bool → Bool
 | .nil, _, _ => true
 | .node k _ _ kids rest, lp, m =>
  if followsK k = true then m && (okF kids lp false && okF rest lp true)
  else if k = 5 ∨ k = 6 then lp && okF rest lp false
  else if k = 7 then tryOkF (headsK rest) && (okF kids lp false && okF rest lp true)
  else if k = 11 then okF kids lp false && okF rest lp false
  else if k = 12 then okF kids true false && okF rest lp false
  else okF rest lp false
def ValidP (t : List Class) (p : List Line) : Prop := validT t = true ∧ p.length ≤ 24 ∧ ∃ f : Fo, p = f.flat 0 ∧ numsF t f 0 = true ∧ okF f false false = true

structure En where
 ed : Int
 val : Int
 deriving Inhabited, DecidableEq
structure RS where
 log : List Int
 fs : List Fault
 first : Int
 deriving Inhabited
def En.next : En := ⟨0, 0⟩
def RS.tell (s : RS) (n : Int) : RS := { s with log := s.log ++ [n] }
def RS.raise (s : RS) (c d h : Int) : RS := { s with fs := raiseF s.fs c d h }
def RS.jump (s : RS) (k : Int) (i : Nat) : RS := if jumpsK k = true ∧ s.first < 0 then { s with first := i } else s
def lineS (k a b : Int) (h : Int) (s : RS) : En × RS :=
 if k = 1 then (.next, s.tell a)
 else if k = 2 then (⟨2, s.fs.length⟩, s.raise a b h)
 else if k = 3 then (if h < 0 then (⟨2, s.fs.length⟩, s.raise 0 0 (-1)) else (⟨2, h⟩, s))
 else if k = 4 then (⟨1, a⟩, s)
 else if k = 5 then (⟨3, 0⟩, s)
 else if k = 6 then (⟨4, 0⟩, s)
 else (.next, s)
def loopS (body : RS → En × RS) : Nat → RS → En × RS
 | 0, s => (.next, s)
 | n + 1, s => if (body s).1.ed = 1 ∨ (body s).1.ed = 2 then body s else if (body s).1.ed = 3 then (.next, (body s).2) else loopS body n (body s).2
def withS (a b : Int) (r : En × RS) : En × RS := (if r.1.ed = 2 ∧ b = 1 then .next else r.1, r.2.tell (200 + a))
def lineR (k a b : Int) (i : Nat) (h : Int) (body : RS → En × RS) (s : RS) : En × RS :=
 if k = 11 then withS a b (body (s.tell (100 + a)))
 else if k = 12 then loopS body a.toNat s
 else lineS k a b h (s.jump k i)
def clsOf (s : RS) (v : Int) : Int := (s.fs.getD v.toNat default).cls
def runF (t : List Class) : Fo → Nat → Option (En × En) → Int → RS → En × RS
 | .nil, _, none, _, s => (.next, s)
 | .nil, _, some q, _, s => if q.2.ed = 0 then (.next, s) else (q.2, s)
 | .node k a b kids rest, i, none, h, s =>
  if k = 7 then
   (fun r : En × RS => runF t rest (i + 1 + kids.size) (some (r.1, r.1)) h r.2) (runF t kids (i + 1) none h s)
  else
   (fun r : En × RS => if r.1.ed = 0 then runF t rest (i + 1 + kids.size) none h r.2 else r) (lineR k a b i h (fun s => runF t kids (i + 1) none h s) s)
 | .node k a b kids rest, i, some q, h, s =>
  if followsK k = true then
   if k = 8 then
    if q.1.ed = 2 ∧ isF t (clsOf s q.1.val) a = true then
     (fun r : En × RS => runF t rest (i + 1 + kids.size) (some (⟨-1, 0⟩, r.1)) h r.2) (runF t kids (i + 1) none q.1.val s)
    else runF t rest (i + 1 + kids.size) (some q) h s
   else if k = 9 then
    if q.1.ed = 0 then
     (fun r : En × RS => runF t rest (i + 1 + kids.size) (some (q.1, r.1)) h r.2) (runF t kids (i + 1) none h s)
    else runF t rest (i + 1 + kids.size) (some q) h s
   else
    (fun r : En × RS => runF t rest (i + 1 + kids.size) (some (q.1, if r.1.ed = 0 then q.2 else r.1)) h r.2) (runF t kids (i + 1) none (if q.2.ed = 2 then q.2.val else h) s)
  else if q.2.ed = 0 then
   if k = 7 then
    (fun r : En × RS => runF t rest (i + 1 + kids.size) (some (r.1, r.1)) h r.2) (runF t kids (i + 1) none h s)
   else
    (fun r : En × RS => if r.1.ed = 0 then runF t rest (i + 1 + kids.size) none h r.2 else r) (lineR k a b i h (fun s => runF t kids (i + 1) none h s) s)
  else (q.2, s)
def chainR (t : List Class) : Fo → Nat → En → En → Int → RS → En × RS
 | .nil, _, _, e, _, s => (e, s)
 | .node k a _ kids rest, i, st, e, h, s =>
  if followsK k = true then
   if k = 8 then
    if st.ed = 2 ∧ isF t (clsOf s st.val) a = true then
     (fun r : En × RS => chainR t rest (i + 1 + kids.size) ⟨-1, 0⟩ r.1 h r.2) (runF t kids (i + 1) none st.val s)
    else chainR t rest (i + 1 + kids.size) st e h s
   else if k = 9 then
    if st.ed = 0 then
     (fun r : En × RS => chainR t rest (i + 1 + kids.size) st r.1 h r.2) (runF t kids (i + 1) none h s)
    else chainR t rest (i + 1 + kids.size) st e h s
   else
    (fun r : En × RS => chainR t rest (i + 1 + kids.size) st (if r.1.ed = 0 then e else r.1) h r.2) (runF t kids (i + 1) none (if e.ed = 2 then e.val else h) s)
  else (e, s)
theorem runF_some (t : List Class) : ∀ (f : Fo) (i : Nat) (st e : En) (h : Int) (s : RS),
  runF t f i (some (st, e)) h s = if (chainR t f i st e h s).1.ed = 0 then runF t (skipF f) (skipN f i) none h (chainR t f i st e h s).2 else chainR t f i st e h s
 | .nil, i, st, e, h, s => rfl
 | .node k a b kids rest, i, st, e, h, s => by
  simp only [runF,chainR,skipF,skipN]
  by_cases hk : followsK k = true
  ·simp only [hk,if_true]
   by_cases h8 : k = 8
   ·simp only [h8,if_true]
    split
    ·exact runF_some t rest _ _ _ _ _
    ·exact runF_some t rest _ _ _ _ _
   ·simp only [h8,if_false]
    by_cases h9 : k = 9
    ·simp only [h9,if_true]
     split
     ·exact runF_some t rest _ _ _ _ _
     ·exact runF_some t rest _ _ _ _ _
    ·simp only [h9,if_false]
     exact runF_some t rest _ _ _ _ _
  ·simp only [hk,if_false]
   rfl
theorem runF_try {t : List Class} {a b : Int} {kids rest : Fo} {i : Nat} {h : Int} {s : RS} : runF t (.node 7 a b kids rest) i none h s =
  (fun r : En × RS => runF t rest (i + 1 + kids.size) (some (r.1, r.1)) h r.2) (runF t kids (i + 1) none h s) := by
 simp only [runF,if_true]
theorem runF_line {t : List Class} {k a b : Int} {kids rest : Fo} {i : Nat} {h : Int} {s : RS} (hk : k ≠ 7) : runF t (.node k a b kids rest) i none h s =
  (fun r : En × RS => if r.1.ed = 0 then runF t rest (i + 1 + kids.size) none h r.2 else r) (lineR k a b i h (fun s => runF t kids (i + 1) none h s) s) := by
 simp only [runF,hk,if_false]

structure FsOk (t : List Class) (fs : List Fault) : Prop where
 ho : heapOk fs
 cls : ∀ k, k < fs.length → hasF t (fs.getD k default).cls = true ∧ inR (fs.getD k default).code 0 99 = true
theorem fsOk_nil (t : List Class) : FsOk t [] := ⟨heapOk_nil, fun k h => by simp at h⟩
theorem FsOk.raise {t : List Class} {fs : List Fault} (h : FsOk t fs) {c d g : Int} (hc : hasF t c = true) (hd : inR d 0 99 = true) (hg : g < fs.length) : FsOk t (raiseF fs c d g) := by
 refine ⟨raiseF_ok h.ho hg, fun k hk => ?_⟩
 rw [raiseF_len] at hk
 rcases Nat.lt_or_ge k fs.length with q | q
 ·have e : (raiseF fs c d g).getD k default = fs.getD k default := by
   simp only [raiseF,List.getD_eq_getElem?_getD]; rw [List.getElem?_append_left q]
  rw [e]; exact h.cls k q
 ·have e : (raiseF fs c d g).getD k default = ⟨c, d, -1, if 0 ≤ g then g else -1, false⟩ := by
   have : k = fs.length := by omega
   subst this
   simp [raiseF, List.getD_eq_getElem?_getD]
  rw [e]; exact ⟨hc, hd⟩
structure Goes (t : List Class) (n : Nat) (s : RS) (e : En) (s' : RS) : Prop where
 log : ∃ l, s'.log = s.log ++ l ∧ l.length ≤ n
 fs : ∃ l, s'.fs = s.fs ++ l ∧ l.length ≤ n
 ok : FsOk t s'.fs
 val : e.ed = 2 → 0 ≤ e.val ∧ e.val < s'.fs.length
 first : -1 ≤ s.first → -1 ≤ s'.first
theorem Goes.len {t : List Class} {n : Nat} {s : RS} {e : En} {s' : RS} (h : Goes t n s e s') : s.fs.length ≤ s'.fs.length ∧ s'.fs.length ≤ s.fs.length + n ∧ s'.log.length ≤ s.log.length + n := by
 obtain ⟨l, h1, h2⟩ := h.fs
 obtain ⟨m, h3, h4⟩ := h.log
 rw [h1, h3]; simp; omega
theorem Goes.trans {t : List Class} {n m k : Nat} {s : RS} {e : En} {s' : RS} {e' : En} {s'' : RS} (h : Goes t n s e s') (g : Goes t m s' e' s'') (hk : n + m ≤ k) : Goes t k s e' s'' := by
 obtain ⟨l, h1, h2⟩ := h.fs
 obtain ⟨l', h3, h4⟩ := h.log
 obtain ⟨m1, g1, g2⟩ := g.fs
 obtain ⟨m2, g3, g4⟩ := g.log
 exact ⟨⟨l' ++ m2, by rw [g3, h3, List.append_assoc], by simp; omega⟩, ⟨l ++ m1, by rw [g1, h1, List.append_assoc], by simp; omega⟩, g.ok, g.val, fun q => g.first (h.first q)⟩
theorem Goes.end {t : List Class} {n : Nat} {s : RS} {e e' : En} {s' : RS} (h : Goes t n s e s') (he : e'.ed = 2 → 0 ≤ e'.val ∧ e'.val < s'.fs.length) : Goes t n s e' s' := ⟨h.log, h.fs, h.ok, he, h.first⟩
theorem Goes.le {t : List Class} {n m : Nat} {s : RS} {e : En} {s' : RS} (h : Goes t n s e s') (hm : n ≤ m) : Goes t m s e s' := by
 obtain ⟨l, h1, h2⟩ := h.fs
 obtain ⟨l', h3, h4⟩ := h.log
 exact ⟨⟨l', h3, by omega⟩, ⟨l, h1, by omega⟩, h.ok, h.val, h.first⟩
theorem goes_self {t : List Class} {s : RS} (h : FsOk t s.fs) {e : En} (he : e.ed = 2 → 0 ≤ e.val ∧ e.val < s.fs.length) : Goes t 0 s e s := ⟨⟨[], by simp, by simp⟩, ⟨[], by simp, by simp⟩, h, he, fun q => q⟩
theorem goes_next {t : List Class} {s : RS} (h : FsOk t s.fs) : Goes t 0 s .next s := goes_self h (fun q => by cases q)
theorem goes_tell {t : List Class} {s : RS} (h : FsOk t s.fs) {n : Int} {e : En} (he : e.ed = 2 → 0 ≤ e.val ∧ e.val < s.fs.length) : Goes t 1 s e (s.tell n) := ⟨⟨[n], rfl, by simp⟩, ⟨[], by simp [RS.tell], by simp⟩, h, he, fun q => q⟩
theorem goes_raise {t : List Class} {s : RS} (h : FsOk t s.fs) {c d g : Int} (hc : hasF t c = true) (hd : inR d 0 99 = true) (hg : g < s.fs.length) : Goes t 1 s ⟨2, s.fs.length⟩ (s.raise c d g) :=
 ⟨⟨[], by simp [RS.raise], by simp⟩, ⟨_, rfl, by simp⟩, h.raise hc hd hg, fun _ => ⟨by show (0 : Int) ≤ s.fs.length; omega, by show (s.fs.length : Int) < (raiseF s.fs c d g).length; rw [raiseF_len]; omega⟩, fun q => q⟩
theorem goes_jump {t : List Class} {s : RS} (h : FsOk t s.fs) {k : Int} {i : Nat} : Goes t 0 s .next (s.jump k i) := by
 unfold RS.jump
 split
 ·exact ⟨⟨[], by simp, by simp⟩, ⟨[], by simp, by simp⟩, h, fun q => (by cases q), fun q => by show (-1 : Int) ≤ i; omega⟩
 ·exact goes_next h
def cost : Fo → Nat
 | .nil => 0
 | .node k a _ kids rest => 2 + (if k = 12 then a.toNat * cost kids else cost kids) + cost rest
theorem goes_lineS {t : List Class} (ht : validT t = true) {s : RS} (hs : FsOk t s.fs) {k a b h : Int} (hn : numOk t k a b = true) (hh : h < s.fs.length) : Goes t 1 s (lineS k a b h s).1 (lineS k a b h s).2 := by
 have t0 := (validT_len ht).1
 unfold lineS
 split
 ·exact goes_tell hs (fun q => by cases q)
 ·split
  ·rename_i h1 h2
   subst h2
   unfold numOk at hn
   simp only [show ¬ ((2 : Int) = 1 ∨ (2 : Int) = 4) by decide,if_false,if_true,Bool.and_eq_true] at hn
   exact goes_raise hs hn.1 hn.2 hh
  ·split
   ·split
    ·refine goes_raise hs ?_ (by decide) (by omega)
     unfold hasF inR
     simp only [Bool.and_eq_true,decide_eq_true_eq]; omega
    ·exact (goes_self hs (fun _ => ⟨by show (0 : Int) ≤ h; omega, hh⟩)).le (by omega)
   ·split
    ·exact (goes_self hs (fun q => by cases q)).le (by omega)
    ·split
     ·exact (goes_self hs (fun q => by cases q)).le (by omega)
     ·split
      ·exact (goes_self hs (fun q => by cases q)).le (by omega)
      ·exact (goes_self hs (fun q => by cases q)).le (by omega)
theorem goes_lineR {t : List Class} (ht : validT t = true) {k a b h : Int} {i n : Nat} {body : RS → En × RS} {s : RS} (hs : FsOk t s.fs) (hn : numOk t k a b = true) (hh : h < s.fs.length)
  (hb : ∀ s' : RS, FsOk t s'.fs → s.fs.length ≤ s'.fs.length → Goes t n s' (body s').1 (body s').2) : Goes t (2 + (if k = 12 then a.toNat * n else n)) s (lineR k a b i h body s).1 (lineR k a b i h body s).2 := by
 unfold lineR
 by_cases h11 : k = 11
 ·have h1 := goes_tell (n := 100 + a) hs (e := .next) (fun q => by cases q)
  have h2 := hb (s.tell (100 + a)) h1.ok (Nat.le_refl _)
  have h3 := h1.trans h2 (Nat.le_refl _)
  rw [if_neg (show ¬ k = 12 by omega), if_pos h11]
  unfold withS
  have h4 : Goes t 1 (body (s.tell (100 + a))).2 (if (body (s.tell (100 + a))).1.ed = 2 ∧ b = 1 then .next else (body (s.tell (100 + a))).1) ((body (s.tell (100 + a))).2.tell (200 + a)) := by
   refine goes_tell h2.ok ?_
   split
   ·exact fun q => by cases q
   ·exact h2.val
  exact h3.trans h4 (by omega)
 ·rw [if_neg h11]
  by_cases h12 : k = 12
  ·rw [if_pos h12, if_pos h12]
   have key : ∀ (m : Nat) (s' : RS), FsOk t s'.fs → s.fs.length ≤ s'.fs.length → Goes t (m * n) s' (loopS body m s').1 (loopS body m s').2 := by
    intro m
    induction m with
    | zero => intro s' hs' _; exact (goes_next hs').le (by omega)
    | succ m ih =>
     intro s' hs' hl
     have h1 := hb s' hs' hl
     have e : (m + 1) * n = n + m * n := by rw [Nat.succ_mul]; omega
     unfold loopS
     split
     ·exact h1.le (by omega)
     ·split
      ·exact (h1.end (fun q => by cases q)).le (by omega)
      ·exact h1.trans (ih _ h1.ok (Nat.le_trans hl h1.len.1)) (by omega)
   exact (key a.toNat s hs (Nat.le_refl _)).le (by omega)
  ·rw [if_neg h12, if_neg h12]
   have h1 := goes_jump (k := k) (i := i) hs
   have e : (s.jump k i).fs = s.fs := by unfold RS.jump; split <;> rfl
   have h2 := goes_lineS ht h1.ok hn (show h < (s.jump k i).fs.length by rw [e]; exact hh)
   exact h1.trans h2 (by omega)
theorem numsF_node {t : List Class} {k a b d : Int} {kids rest : Fo} (h : numsF t (.node k a b kids rest) d = true) : numOk t k a b = true ∧ inR d 0 5 = true ∧ (opensK k = !kids.isNil) ∧ numsF t kids (d + 1) = true ∧ numsF t rest d = true := by
 simp only [numsF,Bool.and_eq_true,beq_iff_eq] at h
 exact ⟨h.1, h.2.1, h.2.2.1, h.2.2.2.1, h.2.2.2.2⟩
def PdOk (s : RS) : Option (En × En) → Prop
 | none => True
 | some q => (q.1.ed = 2 → 0 ≤ q.1.val ∧ q.1.val < s.fs.length) ∧ (q.2.ed = 2 → 0 ≤ q.2.val ∧ q.2.val < s.fs.length)
theorem cost_node_le {k a b : Int} {kids rest : Fo} (hk : k ≠ 12) : cost (.node k a b kids rest) = 2 + cost kids + cost rest := by simp [cost, hk]
theorem goes_run {t : List Class} (ht : validT t = true) : ∀ (f : Fo) (i : Nat) (pd : Option (En × En)) (d h : Int) (s : RS), numsF t f d = true → FsOk t s.fs → h < s.fs.length → PdOk s pd → Goes t (cost f) s (runF t f i pd h s).1 (runF t f i pd h s).2 := by
 intro f
 induction f with
 | nil =>
  intro i pd d h s _ hs _ hp
  cases pd with
  | none => exact goes_next hs
  | some q =>
   simp only [runF]
   split
   ·exact goes_next hs
   ·exact goes_self hs hp.2
 | node k a b kids rest ihk ihr =>
  intro i pd d h s hn hs hh hp
  obtain ⟨n1, n2, n3, n4, n5⟩ := numsF_node hn
  have hline : k ≠ 7 → Goes t (cost (.node k a b kids rest)) s ((fun r : En × RS => if r.1.ed = 0 then runF t rest (i + 1 + kids.size) none h r.2 else r) (lineR k a b i h (fun s => runF t kids (i + 1) none h s) s)).1 ((fun r : En × RS => if r.1.ed = 0 then runF t rest (i + 1 + kids.size) none h r.2 else r) (lineR k a b i h (fun s => runF t kids (i + 1) none h s) s)).2 := by
   intro _
   have h1 := goes_lineR (i := i) (body := fun s => runF t kids (i + 1) none h s) (n := cost kids) ht hs n1 hh (fun s' hs' hl => ihk (i + 1) none (d + 1) h s' n4 hs' (by omega) trivial)
   generalize lineR k a b i h (fun s => runF t kids (i + 1) none h s) s = r at h1 ⊢
   have hl := h1.len
   have ec : cost (.node k a b kids rest) = 2 + (if k = 12 then a.toNat * cost kids else cost kids) + cost rest := rfl
   rw [ec]
   by_cases h0 : r.1.ed = 0
   ·simp only [h0,if_true]
    have h2 := ihr (i + 1 + kids.size) none d h r.2 n5 h1.ok (by omega) trivial
    exact h1.trans h2 (Nat.le_refl _)
   ·simp only [h0,if_false]
    exact h1.le (by omega)
  have htry : k = 7 → Goes t (cost (.node k a b kids rest)) s ((fun r : En × RS => runF t rest (i + 1 + kids.size) (some (r.1, r.1)) h r.2) (runF t kids (i + 1) none h s)).1 ((fun r : En × RS => runF t rest (i + 1 + kids.size) (some (r.1, r.1)) h r.2) (runF t kids (i + 1) none h s)).2 := by
   intro h7
   have h1 := ihk (i + 1) none (d + 1) h s n4 hs hh trivial
   generalize runF t kids (i + 1) none h s = r at h1 ⊢
   have hl := h1.len
   rw [cost_node_le (by omega)]
   have h2 := ihr (i + 1 + kids.size) (some (r.1, r.1)) d h r.2 n5 h1.ok (by omega) ⟨h1.val, h1.val⟩
   exact h1.trans h2 (by omega)
  cases pd with
  | none =>
   simp only [runF]
   split
   ·exact htry ‹_›
   ·exact hline ‹_›
  | some q =>
   simp only [runF]
   by_cases hk : followsK k = true
   ·simp only [hk,if_true]
    have hk' := hk
    simp only [followsK,inR,Bool.and_eq_true,decide_eq_true_eq] at hk'
    have pass : ∀ (q' : En × En), PdOk s (some q') → Goes t (cost (.node k a b kids rest)) s (runF t rest (i + 1 + kids.size) (some q') h s).1 (runF t rest (i + 1 + kids.size) (some q') h s).2 := by
     intro q' hq'
     rw [cost_node_le (by omega)]
     exact (ihr _ (some q') d h s n5 hs hh hq').le (by omega)
    have go : ∀ (g : Int) (st : En) (e : En × RS → En), g < s.fs.length → (st.ed = 2 → 0 ≤ st.val ∧ st.val < s.fs.length) → (∀ r : En × RS, (r.1.ed = 2 → 0 ≤ r.1.val ∧ r.1.val < r.2.fs.length) → s.fs.length ≤ r.2.fs.length → (e r).ed = 2 → 0 ≤ (e r).val ∧ (e r).val < r.2.fs.length) →
      Goes t (cost (.node k a b kids rest)) s ((fun r : En × RS => runF t rest (i + 1 + kids.size) (some (st, e r)) h r.2) (runF t kids (i + 1) none g s)).1 ((fun r : En × RS => runF t rest (i + 1 + kids.size) (some (st, e r)) h r.2) (runF t kids (i + 1) none g s)).2 := by
     intro g st e hg hst he
     have h1 := ihk (i + 1) none (d + 1) g s n4 hs hg trivial
     generalize runF t kids (i + 1) none g s = r at h1 ⊢
     have hl := h1.len
     rw [cost_node_le (by omega)]
     have h2 := ihr (i + 1 + kids.size) (some (st, e r)) d h r.2 n5 h1.ok (by omega) ⟨fun q => by have := hst q; show 0 ≤ st.val ∧ st.val < (r.2.fs.length : Int); omega, he r h1.val hl.1⟩
     exact h1.trans h2 (by omega)
    split
    ·split
     ·rename_i hq
      exact go q.1.val ⟨-1, 0⟩ (fun r => r.1) (hp.1 hq.1).2 (fun q => by cases q) (fun r hr _ => hr)
     ·exact pass q hp
    ·split
     ·split
      ·exact go h q.1 (fun r => r.1) hh hp.1 (fun r hr _ => hr)
      ·exact pass q hp
     ·refine go _ q.1 (fun r => if r.1.ed = 0 then q.2 else r.1) ?_ hp.1 (fun r hr hl => ?_)
      ·split
       ·exact (hp.2 ‹_›).2
       ·exact hh
      ·split
       ·exact fun z => by have := hp.2 z; omega
       ·exact hr
   ·rw [if_neg hk]
    by_cases h0 : q.2.ed = 0
    ·rw [if_pos h0]
     by_cases h7 : k = 7
     ·rw [if_pos h7]; exact htry h7
     ·rw [if_neg h7]; exact hline h7
    ·rw [if_neg h0]; exact (goes_self hs hp.2).le (by omega)
theorem pow_step (n : Nat) : 3 ^ (n + 1) = 3 * 3 ^ n := by rw [Nat.pow_succ]; omega
theorem cost_le {t : List Class} : ∀ (f : Fo) (n : Nat), n ≤ 5 ∨ f = .nil → numsF t f ((5 - n : Nat) : Int) = true → cost f ≤ 2 * 3 ^ (n + 1) * f.size := by
 intro f
 induction f with
 | nil => intro n _ _; simp [cost]
 | node k a b kids rest ihk ihr =>
  intro n hn h
  have hn5 : n ≤ 5 := by rcases hn with q | q; exact q; cases q
  obtain ⟨n1, n2, n3, n4, n5⟩ := numsF_node h
  have hr := ihr n (.inl hn5) n5
  have ha : (if k = 12 then a.toNat * cost kids else cost kids) ≤ 3 * cost kids := by
   split
   ·rename_i h12
    subst h12
    unfold numOk at n1
    simp only [show ¬ ((12 : Int) = 1 ∨ (12 : Int) = 4) by decide,show ¬ (12 : Int) = 2 by decide,show ¬ (12 : Int) = 8 by decide,show ¬ (12 : Int) = 11 by decide,if_false,if_true,Bool.and_eq_true,inR,decide_eq_true_eq] at n1
    exact Nat.mul_le_mul_right _ (by omega)
   ·omega
  have hk : 3 * cost kids ≤ 2 * 3 ^ (n + 1) * kids.size := by
   cases n with
   | zero =>
    have : kids = .nil := by
     cases kids with
     | nil => rfl
     | node k' a' b' x y =>
      obtain ⟨_, m2, _⟩ := numsF_node n4
      simp only [inR,Bool.and_eq_true,decide_eq_true_eq] at m2
      omega
    subst this
    simp [cost, Fo.size]
   | succ n =>
    have e : ((5 - (n + 1) : Nat) : Int) + 1 = ((5 - n : Nat) : Int) := by omega
    rw [e] at n4
    have := ihk n (.inl (by omega)) n4
    have e2 : 2 * 3 ^ (n + 1 + 1) * kids.size = 3 * (2 * 3 ^ (n + 1) * kids.size) := by
     rw [pow_step (n + 1)]
     simp only [Nat.mul_assoc,Nat.mul_left_comm]
    omega
  simp only [cost,Fo.size]
  have p1 : 1 ≤ 3 ^ (n + 1) := Nat.one_le_pow _ _ (by omega)
  have e3 : 2 * 3 ^ (n + 1) * (1 + kids.size + rest.size) = 2 * 3 ^ (n + 1) + 2 * 3 ^ (n + 1) * kids.size + 2 * 3 ^ (n + 1) * rest.size := by
   rw [Nat.mul_add, Nat.mul_add, Nat.mul_one]
  omega
theorem cost_small {t : List Class} {f : Fo} (h : numsF t f 0 = true) (hs : f.size ≤ 24) : cost f ≤ 34992 := by
 have := cost_le f 5 (.inl (Nat.le_refl _)) h
 have e : 2 * 3 ^ (5 + 1) = 1458 := rfl
 rw [e] at this
 omega
end
end
end Go.Proofs.YtjpfgafdjlkblaaGreat
