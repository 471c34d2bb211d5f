/- Walks and plain laws that the claims of this seat lean on. No condition. -/
import Derived.Test.YtjpfgafdjlkblaaGreatJ3
import Derived.Test.YtjpfgafdjlkblaaGreatJ2
import Derived.Test.YtjpfgafdjlkblaaGreatSimY
import Derived.Lib.ItoaNum
import Derived.Test.YtjpfgafdjlkblaaGreatJ1
set_option linter.unusedVariables false
set_option linter.unusedSimpArgs false
namespace Go.Proofs.YtjpfgafdjlkblaaGreat
open Go Go.Sim
section
set_option maxRecDepth 100000
attribute [local go_sem ↓] aw_skip aw_ret aw_exit aw_region aw_draw aw_seq aw_block aw_loop aw_cond frz_nil frz_cons sq_normal sq_ret sq_exit exB_normal exB_ret exB_same exB_other retQ_ret retQ_normal ret0_ret ret0_normal ao_nil go1 g_move g_assign g_pick g_build g_load g_binOp g_unOp g_convert g_fieldAddr g_field g_indexAddr g_index g_extract g_lookup g_slice g_nilCheck g_len g_makeFunc h_call h_append h_alloc h_box h_buildSlice h_makeSlice h_store gV i_box i_buildSlice i_move i_assign i_build i_load i_binOp i_unOp i_convert i_fieldAddr i_field i_indexAddr i_index i_extract i_lookup i_makeMap i_mapUpdate i_slice i_nilCheck i_makeFunc i_len i_max i_min i_alloc i_makeSlice i_store i_append i_call i_pick boxI boxA buildSliceI buildSliceA makeSliceA makeMapA allocA storeA p_move p_assign p_pick p_build p_load p_binOp p_unOp p_convert p_fieldAddr p_field p_indexAddr p_index p_extract p_lookup p_makeMap p_mapUpdate p_slice p_nilCheck p_makeFunc p_len p_max p_min p_alloc p_box p_buildSlice p_makeSlice p_store p_append p_call x_nil x_go1 x_g0 x_g1 x_g2 x_g3 x_s0 x_s1 x_s2 x_s3 u_move u_assign u_pick u_build u_load u_binOp u_unOp u_convert u_fieldAddr u_field u_indexAddr u_index u_extract u_lookup u_slice u_nilCheck u_makeFunc u_len u_buildSlice x_s4 x_g4 rq_normal rq_ret rq_exit aw_range
attribute [local go_sem] frzV_sl frzK_some set_none set_other AHeap.set_self set_del set_set cnd_t cnd_f cnd_b retA_one retA_two retA_three retA_four retA_nil gIf_b mrgV_b mrgV_wh mrgV_U gIf_U gIf_wh mrgB_f mrgB_some mrgB_if wh_true wh_false keepA_some keepA_if gD_zero gD_succ gT_some bxA_t bxA_f callA_fn ev_tmp ev_const ev_global ev_func oc_bool oc_int oc_string oc_nil oc_nilptr oc_nilfunc cl_bool cl_int cl_string cl_nil updO_some updO_none upd_same upd_other init_at pickA_b pickA_wh selA_t selA_f selA_and selA_or selA_orn selA_orm selA_bb selA_ii beqt b_add b_sub b_mul b_and b_or b_xor b_eql b_neq b_lss b_leq b_gtr b_geq b_quo b_rem b_shr b_seql b_sneq b_sadd b_beql b_bneq b_aeql b_aneq u_not u_neg isConstOp eqA eqCellV List.getD_cons_zero List.getD_cons_succ List.map_cons List.map_nil List.nil_append List.cons_append List.append_nil if_true if_false Option.map_some Option.map_none ne_eq not_false_eq_true oneA ldv ld1v ld1s wr1s ldRow stRow row_lit row_agg row_vsl row_sl row_ptr row_fn one_I one_B one_S one_vsl one_sl one_ptr one_fn extractA okA rI rS rU rClass rFault rExit rStart rLine Int.toNat_natCast List.length_cons List.length_nil List.length_map List.all_cons List.all_nil Bool.and_true Nat.zero_add List.getElem?_cons_zero List.getElem?_cons_succ List.take_succ_cons List.take_zero List.drop_succ_cons List.drop_zero and_self true_and and_true implies_true decide_eq_true_eq decide_eq_false_iff_not Bool.or_eq_true Bool.or_eq_false_iff Bool.and_eq_true Bool.not_eq_true' Bool.not_eq_false' beq_false decide_true decide_false Int.ofNat_lt Int.ofNat_le Int.natCast_nonneg Bool.or_true Bool.or_false Bool.true_or Bool.false_or beq_self_eq_true List.drop_one Bool.not_true Bool.not_false Bool.not_not Bool.false_eq_true Bool.true_eq_false false_implies true_implies Bool.true_and Bool.false_and Bool.and_false not_true_eq_false Int.natCast_eq_zero Int.natCast_pos Int.natCast_zero false_and and_false or_false false_or or_true true_or Bool.or_self none_le_iff List.replicate_zero Int.toNat_zero List.replicate_succ buildRows List.set_cons_zero List.set_cons_succ List.set_nil List.mapM_nil maxLen_eq Nat.zero_le Nat.mul_one Nat.one_mul bldA fillA spliceA List.take_nil List.drop_nil List.getElem?_nil ld1o wr1o bldSliceA le_same cv_i cvI_t quietT_fn qvd_some ld_o ldO_1 ldO_l wr_o wrO_1 set_2 set_3 set_4 putL_nil putL_cons List.zip_cons_cons List.zip_nil_left List.zip_nil_right List.toList_toArray frzV_set ti1 ti2 tk2 ti3 te3 ts3 tk3 tz3 ti4 tb4 ti5 tk5 tz5 ti9 te9 ts9 tk9 tz9 ti20 ti22 te22 tz22 ti23 te23 ti25 tp25 tf25_0 ti26 te26 ti29 te29 ti30 te30 ti32 tp32 tf32_0 ti34 tp34 tf34_0 tf34_1 tf34_2 tf34_3 ti41 tq41 tp41 tf41_0 tf41_1 tf41_2 tf41_3 ti44 tq44 tp44 tf44_0 tf44_1 tf44_2 ti45 te45 ti47 tq47 tp47 tf47_0 tf47_1 tf47_2 ti56 te56 ti58 tp58 tf58_0 ti59 te59 ti71 te71 ti84 ti88 tq88 tp88 tf88_0 tf88_1 ti103 tq103 tp103 tf103_0 tf103_1 tf103_2 tf103_3 tf103_4 ti106 ti109 ti113 tq113 tp113 tf113_0 tf113_1 tf113_2 tf113_3 ti120 tq120 tp120 tf120_0 tf120_1 tf120_2 ti124 ti129 tp129 tf129_0 tf129_1 tf129_2 tf129_3 tf129_4 ti136 ti138 tp138 tf138_0 tf138_1 tf138_2 tf138_3 ti140 tq140 tp140 tf140_0 tf140_1 ti144 tq144 tp144 tf144_0 tf144_1 ti151 te151 ti159 tp159 tf159_0 tf159_1 tf159_2 ti164 ti165 ti167 ti169 tq169 tp169 tf169_0 tf169_1 ti186 ti202 ti205 tk205 tz205 ti209 tk209 ti217 tk217 tz217 ti219 tk219 tz219 ti220 tk220 ti224 ti226 fp13_0 fv13_0 fp13_1 fv13_1 fp24_0 fv24_0 fp25_0 fv25_0 fp31_0 fv31_0 fp32_0 fv32_0 fp33_0 fv33_0 fp33_1 fv33_1 fp33_2 fv33_2 fp33_3 fv33_3 fp34_0 fv34_0 fp34_1 fv34_1 fp34_2 fv34_2 fp34_3 fv34_3 fp40_0 fv40_0 fp40_1 fv40_1 fp40_2 fv40_2 fp40_3 fv40_3 fp41_0 fv41_0 fp41_1 fv41_1 fp41_2 fv41_2 fp41_3 fv41_3 fp43_0 fv43_0 fp43_1 fv43_1 fp43_2 fv43_2 fp44_0 fv44_0 fp44_1 fv44_1 fp44_2 fv44_2 fp46_0 fv46_0 fp46_1 fv46_1 fp46_2 fv46_2 fp47_0 fv47_0 fp47_1 fv47_1 fp47_2 fv47_2 fp57_0 fv57_0 fp58_0 fv58_0 fp72_0 fv72_0 fp72_1 fv72_1 fp72_2 fv72_2 fp87_0 fv87_0 fp87_1 fv87_1 fp88_0 fv88_0 fp88_1 fv88_1 fp102_0 fv102_0 fp102_1 fv102_1 fp102_2 fv102_2 fp102_3 fv102_3 fp102_4 fv102_4 fp103_0 fv103_0 fp103_1 fv103_1 fp103_2 fv103_2 fp103_3 fv103_3 fp103_4 fv103_4 fp113_0 fv113_0 fp113_1 fv113_1 fp113_2 fv113_2 fp113_3 fv113_3 fp120_0 fv120_0 fp120_1 fv120_1 fp120_2 fv120_2 fp126_0 fv126_0 fp126_1 fv126_1 fp127_0 fv127_0 fp127_1 fv127_1 fp128_0 fv128_0 fp128_1 fv128_1 fp128_2 fv128_2 fp128_3 fv128_3 fp128_4 fv128_4 fp129_0 fv129_0 fp129_1 fv129_1 fp129_2 fv129_2 fp129_3 fv129_3 fp129_4 fv129_4 fp137_0 fv137_0 fp137_1 fv137_1 fp137_2 fv137_2 fp137_3 fv137_3 fp138_0 fv138_0 fp138_1 fv138_1 fp138_2 fv138_2 fp138_3 fv138_3 fp139_0 fv139_0 fp139_1 fv139_1 fp140_0 fv140_0 fp140_1 fv140_1 fp143_0 fv143_0 fp143_1 fv143_1 fp144_0 fv144_0 fp144_1 fv144_1 fp158_0 fv158_0 fp158_1 fv158_1 fp158_2 fv158_2 fp159_0 fv159_0 fp159_1 fv159_1 fp159_2 fv159_2 fp169_0 fv169_0 fp169_1 fv169_1 lv22 ll22 is22 ix22 sh22 so22 sb22 sm22 sp22 lv23 ll23 is23 ix23 sh23 so23 sb23 sm23 sp23 lv26 ll26 is26 ix26 sh26 so26 sb26 sm26 sp26 lv29 ll29 is29 ix29 sh29 so29 sb29 sm29 sp29 lv30 ll30 is30 ix30 sh30 so30 sb30 sm30 sp30 lv45 ll45 is45 ix45 sh45 so45 sb45 sm45 sp45 lv56 ll56 is56 sp56 lv59 ll59 is59 sp59 lv71 ll71 is71 sp71 lv149 ll149 is149 sp149 lv151 ll151 is151 sp151 lv177 ll177 is177 ix177 sh177 so177 sb177 sm177 sp177 xs9 ls9 sx9 sy9 sz9
section
open Go Go.Sim
set_option maxRecDepth 100000
set_option maxHeartbeats 4000000

theorem c_line {t : List Class} {cl : Bool} {P : List Line} {clp : Bool} {n : Nat} (ht : validT t = true) (ih : LinesOk t cl P clp n) {i : Nat} {d k a b h : Int} {kids rest : Fo} {s : RS} {F H : AHeap} {bm : Nat}
  (hn : kids.size < n) (hat : At P i d (.node k a b kids rest)) (hno : numOk t k a b = true) (hk : numsF t kids (d + 1) = true) (hs : FsOk t s.fs) (hh : h < s.fs.length) (hl : s.log.length + (2 + (if k = 12 then a.toNat * cost kids else cost kids)) ≤ 900000) (hf : s.fs.length + (2 + (if k = 12 then a.toNat * cost kids else cost kids)) ≤ 900000) (hM : MachS F H bm t cl P clp s) (hp : P.length ≤ 4398046511104) :
  ACalls Tryz.prog 97 [.ptr bm 5 0 0, I i, I h] H fun r H' => r = .agg (rEn (lineR k a b i h (fun s => runF t kids (i + 1) none h s) s).1) ∧ MachS F H' bm t cl P clp (lineR k a b i h (fun s => runF t kids (i + 1) none h s) s).2 := by
 have hi := hat.head.1
 have hx := hat.head.2
 obtain ⟨xl, xf, H1, H2, hF, hg1, hg2, hb, rfl⟩ := id hM
 refine acalls_of1 Tryz.func97 rfl (by kernel_rfl) rfl rfl (awp_sound (fz := fun r => if r = 1 then [7] else if r = 21 then [8] else if r = 29 then [9] else []) (im := fun _ => false) mixed _ _ _ _ (by kernel_rfl) ?_)
 simp +contextual -dsimp -implicitDefEqProofs (maxSteps:=5000000) only [go_sem,reduceIte,reduceCtorEq,Nat.reduceEqDiff,Nat.reduceBEq,Nat.reduceAdd,Nat.reduceLeDiff,Nat.reduceMul,Nat.reduceLT,Int.reduceEq,Int.reduceLT,Int.reduceLE,hi,hx]
 rintro b6 ⟨n1, n2, hn2⟩
 rintro b7 hb7
 refine (c_lineJumps ⟨d, k, a, b⟩ _).det ?_
 have nb6 : ∀ K, (H2.set bm K) b6 = none := fun K => by rw [set_other n1]; exact hn2
 have hF6 : F b6 = none := grow_none hg1 (grow_none hg2 hn2)
 have jump1 : s.first < 0 → jumpsK k = true → s.jump k i = ⟨s.log, s.fs, (i : Int)⟩ := fun q1 q2 => by unfold RS.jump; rw [if_pos ⟨q2, q1⟩]
 have jump0 : ¬ s.first < 0 → s.jump k i = ⟨s.log, s.fs, s.first⟩ := fun q1 => by unfold RS.jump; rw [if_neg (fun q => q1 q.2)]
 have jumpn : jumpsK k = false → s.jump k i = ⟨s.log, s.fs, s.first⟩ := fun q1 => by unfold RS.jump; rw [if_neg (fun q => by rw [q1] at q; cases q.1)]
 have hMi : ∀ v : Int, Mach F (H2.set bm ⟨5, 129, [[.vsl (t.map rClass) cl, aProg P clp, xl, xf, I v]]⟩) bm (.vsl (t.map rClass) cl) (aProg P clp) s.log s.fs v := fun v => ⟨xl, xf, H1, H2, hF, hg1, hg2, hb, rfl⟩
 have hfl : s.fs.length < 999999 := by omega
 by_cases k2 : k = 2
 ·have hj : jumpsK k = true := by rw [k2]; rfl
  by_cases hf0 : s.first < 0
  ·have e : lineR k a b i h (fun s => runF t kids (i + 1) none h s) s = (⟨2, s.fs.length⟩, ⟨s.log, raiseF s.fs a b h, (i : Int)⟩) := by
    unfold lineR lineS; rw [jump1 hf0 hj, if_neg (by omega), if_neg (by omega), if_neg (by omega), if_pos k2]; rfl
   rw [e]
   simp +contextual -dsimp -implicitDefEqProofs (maxSteps:=5000000) only [go_sem,reduceIte,reduceCtorEq,Nat.reduceEqDiff,Nat.reduceBEq,Nat.reduceAdd,Nat.reduceLeDiff,Nat.reduceMul,Nat.reduceLT,Int.reduceEq,Int.reduceLT,Int.reduceLE,hi,hx,n1,n2,k2,hf0,hj,show jumpsK 2 = true from rfl]
   refine (c_raise _ _ bm _ _ s.log s.fs (i : Int) a b h (mach_in (K := ⟨2, 88, [[I 0, I 0]]⟩) (hMi (i : Int)) (nb6 _)) hfl hs.ho (by omega)).mono ?_
   rintro _ H9 ⟨rfl, hM9⟩
   obtain ⟨H10, rfl, hM10, hn10⟩ := mach_out hM9 hF6
   simp +contextual -dsimp -implicitDefEqProofs (maxSteps:=5000000) only [go_sem,reduceIte,reduceCtorEq,Nat.reduceEqDiff,Nat.reduceBEq,Nat.reduceAdd,Nat.reduceLeDiff,Nat.reduceMul,Nat.reduceLT,Int.reduceEq,Int.reduceLT,Int.reduceLE,hi,hx,n1,n2,k2,hf0,hj,show jumpsK 2 = true from rfl]
   refine retR_less (l := [.agg (rEn ⟨2, s.fs.length⟩)]) (H' := H10) ?_ (le_set hn10) ⟨rfl, hM10⟩
   simp only [resA,go_sem,reduceIte,reduceCtorEq,Nat.reduceEqDiff,Nat.reduceBEq,Nat.reduceAdd,Nat.reduceLeDiff,Nat.reduceMul,Nat.reduceLT,Int.reduceEq,Int.reduceLT,Int.reduceLE,rEn]
  ·have e : lineR k a b i h (fun s => runF t kids (i + 1) none h s) s = (⟨2, s.fs.length⟩, ⟨s.log, raiseF s.fs a b h, s.first⟩) := by
    unfold lineR lineS; rw [jump0 hf0, if_neg (by omega), if_neg (by omega), if_neg (by omega), if_pos k2]; rfl
   rw [e]
   simp +contextual -dsimp -implicitDefEqProofs (maxSteps:=5000000) only [go_sem,reduceIte,reduceCtorEq,Nat.reduceEqDiff,Nat.reduceBEq,Nat.reduceAdd,Nat.reduceLeDiff,Nat.reduceMul,Nat.reduceLT,Int.reduceEq,Int.reduceLT,Int.reduceLE,hi,hx,n1,n2,k2,hf0,hj,show jumpsK 2 = true from rfl]
   refine (c_raise _ _ bm _ _ s.log s.fs s.first a b h (mach_in (K := ⟨2, 88, [[I 0, I 0]]⟩) (hMi s.first) (nb6 _)) hfl hs.ho (by omega)).mono ?_
   rintro _ H9 ⟨rfl, hM9⟩
   obtain ⟨H10, rfl, hM10, hn10⟩ := mach_out hM9 hF6
   simp +contextual -dsimp -implicitDefEqProofs (maxSteps:=5000000) only [go_sem,reduceIte,reduceCtorEq,Nat.reduceEqDiff,Nat.reduceBEq,Nat.reduceAdd,Nat.reduceLeDiff,Nat.reduceMul,Nat.reduceLT,Int.reduceEq,Int.reduceLT,Int.reduceLE,hi,hx,n1,n2,k2,hf0,hj,show jumpsK 2 = true from rfl]
   refine retR_less (l := [.agg (rEn ⟨2, s.fs.length⟩)]) (H' := H10) ?_ (le_set hn10) ⟨rfl, hM10⟩
   simp only [resA,go_sem,reduceIte,reduceCtorEq,Nat.reduceEqDiff,Nat.reduceBEq,Nat.reduceAdd,Nat.reduceLeDiff,Nat.reduceMul,Nat.reduceLT,Int.reduceEq,Int.reduceLT,Int.reduceLE,rEn]
 by_cases k3 : k = 3
 ·have hj : jumpsK k = true := by rw [k3]; rfl
  by_cases hf0 : s.first < 0
  ·by_cases hh0 : h < 0
   ·have e : lineR k a b i h (fun s => runF t kids (i + 1) none h s) s = (⟨2, s.fs.length⟩, ⟨s.log, raiseF s.fs 0 0 (-1), (i : Int)⟩) := by
     unfold lineR lineS; rw [jump1 hf0 hj, if_neg (by omega), if_neg (by omega), if_neg (by omega), if_neg (by omega), if_pos k3, if_pos hh0]; rfl
    rw [e]
    simp +contextual -dsimp -implicitDefEqProofs (maxSteps:=5000000) only [go_sem,reduceIte,reduceCtorEq,Nat.reduceEqDiff,Nat.reduceBEq,Nat.reduceAdd,Nat.reduceLeDiff,Nat.reduceMul,Nat.reduceLT,Int.reduceEq,Int.reduceLT,Int.reduceLE,hi,hx,n1,n2,k3,hf0,hj,show jumpsK 3 = true from rfl,hh0]
    refine (c_raise _ _ bm _ _ s.log s.fs (i : Int) 0 0 (-1) (mach_in (K := ⟨2, 88, [[I 0, I 0]]⟩) (hMi (i : Int)) (nb6 _)) hfl hs.ho (by omega)).mono ?_
    rintro _ H9 ⟨rfl, hM9⟩
    obtain ⟨H10, rfl, hM10, hn10⟩ := mach_out hM9 hF6
    simp +contextual -dsimp -implicitDefEqProofs (maxSteps:=5000000) only [go_sem,reduceIte,reduceCtorEq,Nat.reduceEqDiff,Nat.reduceBEq,Nat.reduceAdd,Nat.reduceLeDiff,Nat.reduceMul,Nat.reduceLT,Int.reduceEq,Int.reduceLT,Int.reduceLE,hi,hx,n1,n2,k3,hf0,hj,show jumpsK 3 = true from rfl,hh0]
    refine retR_less (l := [.agg (rEn ⟨2, s.fs.length⟩)]) (H' := H10) ?_ (le_set hn10) ⟨rfl, hM10⟩
    simp only [resA,go_sem,reduceIte,reduceCtorEq,Nat.reduceEqDiff,Nat.reduceBEq,Nat.reduceAdd,Nat.reduceLeDiff,Nat.reduceMul,Nat.reduceLT,Int.reduceEq,Int.reduceLT,Int.reduceLE,rEn]
   ·have e : lineR k a b i h (fun s => runF t kids (i + 1) none h s) s = (⟨2, h⟩, ⟨s.log, s.fs, (i : Int)⟩) := by
     unfold lineR lineS; rw [jump1 hf0 hj, if_neg (by omega), if_neg (by omega), if_neg (by omega), if_neg (by omega), if_pos k3, if_neg hh0]
    rw [e]
    simp +contextual -dsimp -implicitDefEqProofs (maxSteps:=5000000) only [go_sem,reduceIte,reduceCtorEq,Nat.reduceEqDiff,Nat.reduceBEq,Nat.reduceAdd,Nat.reduceLeDiff,Nat.reduceMul,Nat.reduceLT,Int.reduceEq,Int.reduceLT,Int.reduceLE,hi,hx,n1,n2,k3,hf0,hj,show jumpsK 3 = true from rfl,hh0]
    refine retR_less (l := [.agg (rEn ⟨2, h⟩)]) (H' := H2.set bm _) ?_ (le_set (nb6 _)) ⟨rfl, hMi (i : Int)⟩
    simp only [resA,go_sem,reduceIte,reduceCtorEq,Nat.reduceEqDiff,Nat.reduceBEq,Nat.reduceAdd,Nat.reduceLeDiff,Nat.reduceMul,Nat.reduceLT,Int.reduceEq,Int.reduceLT,Int.reduceLE,rEn]
  ·by_cases hh0 : h < 0
   ·have e : lineR k a b i h (fun s => runF t kids (i + 1) none h s) s = (⟨2, s.fs.length⟩, ⟨s.log, raiseF s.fs 0 0 (-1), s.first⟩) := by
     unfold lineR lineS; rw [jump0 hf0, if_neg (by omega), if_neg (by omega), if_neg (by omega), if_neg (by omega), if_pos k3, if_pos hh0]; rfl
    rw [e]
    simp +contextual -dsimp -implicitDefEqProofs (maxSteps:=5000000) only [go_sem,reduceIte,reduceCtorEq,Nat.reduceEqDiff,Nat.reduceBEq,Nat.reduceAdd,Nat.reduceLeDiff,Nat.reduceMul,Nat.reduceLT,Int.reduceEq,Int.reduceLT,Int.reduceLE,hi,hx,n1,n2,k3,hf0,hj,show jumpsK 3 = true from rfl,hh0]
    refine (c_raise _ _ bm _ _ s.log s.fs s.first 0 0 (-1) (mach_in (K := ⟨2, 88, [[I 0, I 0]]⟩) (hMi s.first) (nb6 _)) hfl hs.ho (by omega)).mono ?_
    rintro _ H9 ⟨rfl, hM9⟩
    obtain ⟨H10, rfl, hM10, hn10⟩ := mach_out hM9 hF6
    simp +contextual -dsimp -implicitDefEqProofs (maxSteps:=5000000) only [go_sem,reduceIte,reduceCtorEq,Nat.reduceEqDiff,Nat.reduceBEq,Nat.reduceAdd,Nat.reduceLeDiff,Nat.reduceMul,Nat.reduceLT,Int.reduceEq,Int.reduceLT,Int.reduceLE,hi,hx,n1,n2,k3,hf0,hj,show jumpsK 3 = true from rfl,hh0]
    refine retR_less (l := [.agg (rEn ⟨2, s.fs.length⟩)]) (H' := H10) ?_ (le_set hn10) ⟨rfl, hM10⟩
    simp only [resA,go_sem,reduceIte,reduceCtorEq,Nat.reduceEqDiff,Nat.reduceBEq,Nat.reduceAdd,Nat.reduceLeDiff,Nat.reduceMul,Nat.reduceLT,Int.reduceEq,Int.reduceLT,Int.reduceLE,rEn]
   ·have e : lineR k a b i h (fun s => runF t kids (i + 1) none h s) s = (⟨2, h⟩, ⟨s.log, s.fs, s.first⟩) := by
     unfold lineR lineS; rw [jump0 hf0, if_neg (by omega), if_neg (by omega), if_neg (by omega), if_neg (by omega), if_pos k3, if_neg hh0]
    rw [e]
    simp +contextual -dsimp -implicitDefEqProofs (maxSteps:=5000000) only [go_sem,reduceIte,reduceCtorEq,Nat.reduceEqDiff,Nat.reduceBEq,Nat.reduceAdd,Nat.reduceLeDiff,Nat.reduceMul,Nat.reduceLT,Int.reduceEq,Int.reduceLT,Int.reduceLE,hi,hx,n1,n2,k3,hf0,hj,show jumpsK 3 = true from rfl,hh0]
    refine retR_less (l := [.agg (rEn ⟨2, h⟩)]) (H' := H2.set bm _) ?_ (le_set (nb6 _)) ⟨rfl, hMi s.first⟩
    simp only [resA,go_sem,reduceIte,reduceCtorEq,Nat.reduceEqDiff,Nat.reduceBEq,Nat.reduceAdd,Nat.reduceLeDiff,Nat.reduceMul,Nat.reduceLT,Int.reduceEq,Int.reduceLT,Int.reduceLE,rEn]
 by_cases k4 : k = 4
 ·have hj : jumpsK k = true := by rw [k4]; rfl
  by_cases hf0 : s.first < 0
  ·have e : lineR k a b i h (fun s => runF t kids (i + 1) none h s) s = (⟨1, a⟩, ⟨s.log, s.fs, (i : Int)⟩) := by
    unfold lineR lineS; rw [jump1 hf0 hj, if_neg (by omega), if_neg (by omega), if_neg (by omega), if_neg (by omega), if_neg (by omega), if_pos k4]
   rw [e]
   simp +contextual -dsimp -implicitDefEqProofs (maxSteps:=5000000) only [go_sem,reduceIte,reduceCtorEq,Nat.reduceEqDiff,Nat.reduceBEq,Nat.reduceAdd,Nat.reduceLeDiff,Nat.reduceMul,Nat.reduceLT,Int.reduceEq,Int.reduceLT,Int.reduceLE,hi,hx,n1,n2,k4,hf0,hj,show jumpsK 4 = true from rfl]
   refine retR_less (l := [.agg (rEn ⟨1, a⟩)]) (H' := H2.set bm _) ?_ (le_set (nb6 _)) ⟨rfl, hMi (i : Int)⟩
   simp only [resA,go_sem,reduceIte,reduceCtorEq,Nat.reduceEqDiff,Nat.reduceBEq,Nat.reduceAdd,Nat.reduceLeDiff,Nat.reduceMul,Nat.reduceLT,Int.reduceEq,Int.reduceLT,Int.reduceLE,rEn]
  ·have e : lineR k a b i h (fun s => runF t kids (i + 1) none h s) s = (⟨1, a⟩, ⟨s.log, s.fs, s.first⟩) := by
    unfold lineR lineS; rw [jump0 hf0, if_neg (by omega), if_neg (by omega), if_neg (by omega), if_neg (by omega), if_neg (by omega), if_pos k4]
   rw [e]
   simp +contextual -dsimp -implicitDefEqProofs (maxSteps:=5000000) only [go_sem,reduceIte,reduceCtorEq,Nat.reduceEqDiff,Nat.reduceBEq,Nat.reduceAdd,Nat.reduceLeDiff,Nat.reduceMul,Nat.reduceLT,Int.reduceEq,Int.reduceLT,Int.reduceLE,hi,hx,n1,n2,k4,hf0,hj,show jumpsK 4 = true from rfl]
   refine retR_less (l := [.agg (rEn ⟨1, a⟩)]) (H' := H2.set bm _) ?_ (le_set (nb6 _)) ⟨rfl, hMi s.first⟩
   simp only [resA,go_sem,reduceIte,reduceCtorEq,Nat.reduceEqDiff,Nat.reduceBEq,Nat.reduceAdd,Nat.reduceLeDiff,Nat.reduceMul,Nat.reduceLT,Int.reduceEq,Int.reduceLT,Int.reduceLE,rEn]
 by_cases k5 : k = 5
 ·have hj : jumpsK k = true := by rw [k5]; rfl
  by_cases hf0 : s.first < 0
  ·have e : lineR k a b i h (fun s => runF t kids (i + 1) none h s) s = (⟨3, 0⟩, ⟨s.log, s.fs, (i : Int)⟩) := by
    unfold lineR lineS; rw [jump1 hf0 hj, if_neg (by omega), if_neg (by omega), if_neg (by omega), if_neg (by omega), if_neg (by omega), if_neg (by omega), if_pos k5]
   rw [e]
   simp +contextual -dsimp -implicitDefEqProofs (maxSteps:=5000000) only [go_sem,reduceIte,reduceCtorEq,Nat.reduceEqDiff,Nat.reduceBEq,Nat.reduceAdd,Nat.reduceLeDiff,Nat.reduceMul,Nat.reduceLT,Int.reduceEq,Int.reduceLT,Int.reduceLE,hi,hx,n1,n2,k5,hf0,hj,show jumpsK 5 = true from rfl]
   refine retR_less (l := [.agg (rEn ⟨3, 0⟩)]) (H' := H2.set bm _) ?_ (le_set (nb6 _)) ⟨rfl, hMi (i : Int)⟩
   simp only [resA,go_sem,reduceIte,reduceCtorEq,Nat.reduceEqDiff,Nat.reduceBEq,Nat.reduceAdd,Nat.reduceLeDiff,Nat.reduceMul,Nat.reduceLT,Int.reduceEq,Int.reduceLT,Int.reduceLE,rEn]
  ·have e : lineR k a b i h (fun s => runF t kids (i + 1) none h s) s = (⟨3, 0⟩, ⟨s.log, s.fs, s.first⟩) := by
    unfold lineR lineS; rw [jump0 hf0, if_neg (by omega), if_neg (by omega), if_neg (by omega), if_neg (by omega), if_neg (by omega), if_neg (by omega), if_pos k5]
   rw [e]
   simp +contextual -dsimp -implicitDefEqProofs (maxSteps:=5000000) only [go_sem,reduceIte,reduceCtorEq,Nat.reduceEqDiff,Nat.reduceBEq,Nat.reduceAdd,Nat.reduceLeDiff,Nat.reduceMul,Nat.reduceLT,Int.reduceEq,Int.reduceLT,Int.reduceLE,hi,hx,n1,n2,k5,hf0,hj,show jumpsK 5 = true from rfl]
   refine retR_less (l := [.agg (rEn ⟨3, 0⟩)]) (H' := H2.set bm _) ?_ (le_set (nb6 _)) ⟨rfl, hMi s.first⟩
   simp only [resA,go_sem,reduceIte,reduceCtorEq,Nat.reduceEqDiff,Nat.reduceBEq,Nat.reduceAdd,Nat.reduceLeDiff,Nat.reduceMul,Nat.reduceLT,Int.reduceEq,Int.reduceLT,Int.reduceLE,rEn]
 by_cases k6 : k = 6
 ·have hj : jumpsK k = true := by rw [k6]; rfl
  by_cases hf0 : s.first < 0
  ·have e : lineR k a b i h (fun s => runF t kids (i + 1) none h s) s = (⟨4, 0⟩, ⟨s.log, s.fs, (i : Int)⟩) := by
    unfold lineR lineS; rw [jump1 hf0 hj, if_neg (by omega), if_neg (by omega), if_neg (by omega), if_neg (by omega), if_neg (by omega), if_neg (by omega), if_neg (by omega), if_pos k6]
   rw [e]
   simp +contextual -dsimp -implicitDefEqProofs (maxSteps:=5000000) only [go_sem,reduceIte,reduceCtorEq,Nat.reduceEqDiff,Nat.reduceBEq,Nat.reduceAdd,Nat.reduceLeDiff,Nat.reduceMul,Nat.reduceLT,Int.reduceEq,Int.reduceLT,Int.reduceLE,hi,hx,n1,n2,k6,hf0,hj,show jumpsK 6 = true from rfl]
   refine retR_less (l := [.agg (rEn ⟨4, 0⟩)]) (H' := H2.set bm _) ?_ (le_set (nb6 _)) ⟨rfl, hMi (i : Int)⟩
   simp only [resA,go_sem,reduceIte,reduceCtorEq,Nat.reduceEqDiff,Nat.reduceBEq,Nat.reduceAdd,Nat.reduceLeDiff,Nat.reduceMul,Nat.reduceLT,Int.reduceEq,Int.reduceLT,Int.reduceLE,rEn]
  ·have e : lineR k a b i h (fun s => runF t kids (i + 1) none h s) s = (⟨4, 0⟩, ⟨s.log, s.fs, s.first⟩) := by
    unfold lineR lineS; rw [jump0 hf0, if_neg (by omega), if_neg (by omega), if_neg (by omega), if_neg (by omega), if_neg (by omega), if_neg (by omega), if_neg (by omega), if_pos k6]
   rw [e]
   simp +contextual -dsimp -implicitDefEqProofs (maxSteps:=5000000) only [go_sem,reduceIte,reduceCtorEq,Nat.reduceEqDiff,Nat.reduceBEq,Nat.reduceAdd,Nat.reduceLeDiff,Nat.reduceMul,Nat.reduceLT,Int.reduceEq,Int.reduceLT,Int.reduceLE,hi,hx,n1,n2,k6,hf0,hj,show jumpsK 6 = true from rfl]
   refine retR_less (l := [.agg (rEn ⟨4, 0⟩)]) (H' := H2.set bm _) ?_ (le_set (nb6 _)) ⟨rfl, hMi s.first⟩
   simp only [resA,go_sem,reduceIte,reduceCtorEq,Nat.reduceEqDiff,Nat.reduceBEq,Nat.reduceAdd,Nat.reduceLeDiff,Nat.reduceMul,Nat.reduceLT,Int.reduceEq,Int.reduceLT,Int.reduceLE,rEn]
 have hj : jumpsK k = false := by
  simp only [jumpsK,inR,Bool.and_eq_false_iff,decide_eq_false_iff_not]; omega
 by_cases k1 : k = 1
 ·have e : lineR k a b i h (fun s => runF t kids (i + 1) none h s) s = (.next, ⟨s.log ++ [a], s.fs, s.first⟩) := by
   unfold lineR lineS; rw [jumpn hj, if_neg (by omega), if_neg (by omega), if_pos k1]; rfl
  rw [e]
  simp +contextual -dsimp -implicitDefEqProofs (maxSteps:=5000000) only [go_sem,reduceIte,reduceCtorEq,Nat.reduceEqDiff,Nat.reduceBEq,Nat.reduceAdd,Nat.reduceLeDiff,Nat.reduceMul,Nat.reduceLT,Int.reduceEq,Int.reduceLT,Int.reduceLE,hi,hx,n1,n2,k1,show jumpsK 1 = false from rfl]
  refine draw_intro [0, 0, 0, 0, 0, 0, 0, 0, 2, 0, 0, 2] AHeap.none (by kernel_rfl) none_le ?_
  simp +contextual -dsimp -implicitDefEqProofs (maxSteps:=5000000) only [go_sem,reduceIte,reduceCtorEq,Nat.reduceEqDiff,Nat.reduceBEq,Nat.reduceAdd,Nat.reduceLeDiff,Nat.reduceMul,Nat.reduceLT,Int.reduceEq,Int.reduceLT,Int.reduceLE,hi,hx,n1,n2,k1]
  refine mach_app1 hg1 hg2 hb n1 hn2 (by omega) fun x2 G G1 y1 y2 y3 y4 y5 => ?_
  obtain ⟨r1, r2⟩ := y5
  simp +contextual -dsimp -implicitDefEqProofs (maxSteps:=5000000) only [go_sem,reduceIte,reduceCtorEq,Nat.reduceEqDiff,Nat.reduceBEq,Nat.reduceAdd,Nat.reduceLeDiff,Nat.reduceMul,Nat.reduceLT,Int.reduceEq,Int.reduceLT,Int.reduceLE,n1,n2,r1,r2]
  refine retR_less (l := [.agg (rEn .next)]) (H' := G.set bm _) ?_ (le_set (by rw [set_other n1]; exact y4)) ⟨rfl, ⟨x2, xf, G1, G, hF, y1, y2, y3, rfl⟩⟩
  simp only [resA,go_sem,reduceIte,reduceCtorEq,Nat.reduceEqDiff,Nat.reduceBEq,Nat.reduceAdd,Nat.reduceLeDiff,Nat.reduceMul,Nat.reduceLT,Int.reduceEq,Int.reduceLT,Int.reduceLE,rEn,En.next]
 by_cases k11 : k = 11
 ·simp +contextual -dsimp -implicitDefEqProofs (maxSteps:=5000000) only [go_sem,reduceIte,reduceCtorEq,Nat.reduceEqDiff,Nat.reduceBEq,Nat.reduceAdd,Nat.reduceLeDiff,Nat.reduceMul,Nat.reduceLT,Int.reduceEq,Int.reduceLT,Int.reduceLE,hi,hx,n1,n2,k11,show jumpsK 11 = false from rfl]
  refine draw_intro [0, 0, 0, 0, 0, 0, 0, 0, 0, 2, 0, 0, 2] AHeap.none (by kernel_rfl) none_le ?_
  have ha := hno
  unfold numOk at ha
  rw [if_neg (by omega), if_neg (by omega), if_neg (by omega), if_pos k11, Bool.and_eq_true] at ha
  simp only [inR,Bool.and_eq_true,decide_eq_true_eq] at ha
  rw [if_neg (by omega)] at hl hf
  have hw1 : IntKind.i64.wrap (100 + a) = 100 + a := w64 (by omega) (by omega)
  have hw2 : IntKind.i64.wrap (200 + a) = 200 + a := w64 (by omega) (by omega)
  simp +contextual -dsimp -implicitDefEqProofs (maxSteps:=5000000) only [go_sem,reduceIte,reduceCtorEq,Nat.reduceEqDiff,Nat.reduceBEq,Nat.reduceAdd,Nat.reduceLeDiff,Nat.reduceMul,Nat.reduceLT,Int.reduceEq,Int.reduceLT,Int.reduceLE,hi,hx,n1,n2,k11,hw1]
  refine mach_app1 hg1 hg2 hb n1 hn2 (by omega) fun x2 G G1 y1 y2 y3 y4 y5 => ?_
  obtain ⟨r1, r2⟩ := y5
  simp +contextual -dsimp -implicitDefEqProofs (maxSteps:=5000000) only [go_sem,reduceIte,reduceCtorEq,Nat.reduceEqDiff,Nat.reduceBEq,Nat.reduceAdd,Nat.reduceLeDiff,Nat.reduceMul,Nat.reduceLT,Int.reduceEq,Int.reduceLT,Int.reduceLE,n1,n2,r1,r2]
  have hMt : MachS F (G.set bm ⟨5, 129, [[.vsl (t.map rClass) cl, aProg P clp, x2, xf, I s.first]]⟩) bm t cl P clp (s.tell (100 + a)) := ⟨x2, xf, G1, G, hF, y1, y2, y3, rfl⟩
  have hGb6 : (G.set bm ⟨5, 129, [[.vsl (t.map rClass) cl, aProg P clp, x2, xf, I s.first]]⟩) b6 = none := by rw [set_other n1]; exact y4
  have tl : (s.tell (100 + a)).log.length = s.log.length + 1 := by simp [RS.tell]
  have hgo := goes_run ht kids (i + 1) none (d + 1) h (s.tell (100 + a)) hk hs hh trivial
  have hgl := hgo.len
  refine (c_block ih hn hat hk (s := s.tell (100 + a)) hs hh (by rw [tl]; omega) (by show s.fs.length + _ ≤ _; omega) (mach_in (K := ⟨2, 88, [[I 0, I 0]]⟩) hMt hGb6) hp).mono ?_
  rintro _ H3 ⟨rfl, hM3⟩
  have e : lineR k a b i h (fun s => runF t kids (i + 1) none h s) s = withS a b (runF t kids (i + 1) none h (s.tell (100 + a))) := by
   unfold lineR; rw [if_pos k11]
  rw [e]
  generalize runF t kids (i + 1) none h (s.tell (100 + a)) = r at hM3 hgo hgl ⊢
  obtain ⟨H4, rfl, hM4, hn4⟩ := mach_out hM3 hF6
  obtain ⟨xl', xf', G2, G3, hF', hg1', hg2', hb', rfl⟩ := id hM4
  have hn5 := hn4
  rw [set_none] at hn5
  have hn6 := hn5.2.2
  simp +contextual -dsimp -implicitDefEqProofs (maxSteps:=5000000) only [go_sem,reduceIte,reduceCtorEq,Nat.reduceEqDiff,Nat.reduceBEq,Nat.reduceAdd,Nat.reduceLeDiff,Nat.reduceMul,Nat.reduceLT,Int.reduceEq,Int.reduceLT,Int.reduceLE,rEn,n1,n2,hi,hx]
  rintro b8 hb8
  refine draw_intro [0, 0, 0, 0, 0, 0, 0, 0, 0, 2, 0, 0, 2] AHeap.none (by kernel_rfl) none_le ?_
  simp +contextual -dsimp -implicitDefEqProofs (maxSteps:=5000000) only [go_sem,reduceIte,reduceCtorEq,Nat.reduceEqDiff,Nat.reduceBEq,Nat.reduceAdd,Nat.reduceLeDiff,Nat.reduceMul,Nat.reduceLT,Int.reduceEq,Int.reduceLT,Int.reduceLE,rEn,n1,n2,hi,hx,hw2]
  refine mach_app1 hg1' hg2' hb' n1 hn6 (by omega) fun x3 G4 G5 z1 z2 z3 z4 z5 => ?_
  obtain ⟨q1, q2⟩ := z5
  simp +contextual -dsimp -implicitDefEqProofs (maxSteps:=5000000) only [go_sem,reduceIte,reduceCtorEq,Nat.reduceEqDiff,Nat.reduceBEq,Nat.reduceAdd,Nat.reduceLeDiff,Nat.reduceMul,Nat.reduceLT,Int.reduceEq,Int.reduceLT,Int.reduceLE,n1,n2,q1,q2]
  have hMf : MachS F (G4.set bm ⟨5, 129, [[.vsl (t.map rClass) cl, aProg P clp, x3, xf', I r.2.first]]⟩) bm t cl P clp (r.2.tell (200 + a)) := ⟨x3, xf', G5, G4, hF', z1, z2, z3, rfl⟩
  unfold withS
  have hGf : (G4.set bm ⟨5, 129, [[.vsl (t.map rClass) cl, aProg P clp, x3, xf', I r.2.first]]⟩) b6 = none := by rw [set_other n1]; exact z4
  by_cases hc : r.1.ed = 2 ∧ b = 1
  ·rw [if_pos hc]
   simp +contextual -dsimp -implicitDefEqProofs (maxSteps:=5000000) only [go_sem,reduceIte,reduceCtorEq,Nat.reduceEqDiff,Nat.reduceBEq,Nat.reduceAdd,Nat.reduceLeDiff,Nat.reduceMul,Nat.reduceLT,Int.reduceEq,Int.reduceLT,Int.reduceLE,n1,n2,q1,q2,hc.1,hc.2]
   refine retR_less (l := [.agg (rEn .next)]) (H' := G4.set bm _) ?_ (le_set hGf) ⟨rfl, hMf⟩
   simp only [resA,go_sem,reduceIte,reduceCtorEq,Nat.reduceEqDiff,Nat.reduceBEq,Nat.reduceAdd,Nat.reduceLeDiff,Nat.reduceMul,Nat.reduceLT,Int.reduceEq,Int.reduceLT,Int.reduceLE,rEn,En.next]
  ·rw [if_neg hc]
   by_cases hc1 : r.1.ed = 2
   ·have hc2 : ¬ b = 1 := fun q => hc ⟨hc1, q⟩
    simp +contextual -dsimp -implicitDefEqProofs (maxSteps:=5000000) only [go_sem,reduceIte,reduceCtorEq,Nat.reduceEqDiff,Nat.reduceBEq,Nat.reduceAdd,Nat.reduceLeDiff,Nat.reduceMul,Nat.reduceLT,Int.reduceEq,Int.reduceLT,Int.reduceLE,n1,n2,q1,q2,hc1,hc2]
    refine retR_less (l := [.agg (rEn r.1)]) (H' := G4.set bm _) ?_ (le_set hGf) ⟨rfl, hMf⟩
    simp only [resA,go_sem,reduceIte,reduceCtorEq,Nat.reduceEqDiff,Nat.reduceBEq,Nat.reduceAdd,Nat.reduceLeDiff,Nat.reduceMul,Nat.reduceLT,Int.reduceEq,Int.reduceLT,Int.reduceLE,rEn,hc1]
   ·simp +contextual -dsimp -implicitDefEqProofs (maxSteps:=5000000) only [go_sem,reduceIte,reduceCtorEq,Nat.reduceEqDiff,Nat.reduceBEq,Nat.reduceAdd,Nat.reduceLeDiff,Nat.reduceMul,Nat.reduceLT,Int.reduceEq,Int.reduceLT,Int.reduceLE,n1,n2,q1,q2,hc1]
    refine retR_less (l := [.agg (rEn r.1)]) (H' := G4.set bm _) ?_ (le_set hGf) ⟨rfl, hMf⟩
    simp only [resA,go_sem,reduceIte,reduceCtorEq,Nat.reduceEqDiff,Nat.reduceBEq,Nat.reduceAdd,Nat.reduceLeDiff,Nat.reduceMul,Nat.reduceLT,Int.reduceEq,Int.reduceLT,Int.reduceLE,rEn]
 by_cases k12 : k = 12
 ·have ha := hno
  unfold numOk at ha
  rw [if_neg (by omega), if_neg (by omega), if_neg (by omega), if_neg (by omega), if_pos k12, Bool.and_eq_true] at ha
  simp only [inR,Bool.and_eq_true,decide_eq_true_eq] at ha
  rw [if_pos k12] at hl hf
  have e : lineR k a b i h (fun s => runF t kids (i + 1) none h s) s = loopS (fun s => runF t kids (i + 1) none h s) a.toNat s := by
   unfold lineR; rw [if_neg (by omega), if_pos k12]
  rw [e]
  simp +contextual -dsimp -implicitDefEqProofs (maxSteps:=5000000) only [go_sem,reduceIte,reduceCtorEq,Nat.reduceEqDiff,Nat.reduceBEq,Nat.reduceAdd,Nat.reduceLeDiff,Nat.reduceMul,Nat.reduceLT,Int.reduceEq,Int.reduceLT,Int.reduceLE,hi,hx,n1,n2,k12,show jumpsK 12 = false from rfl]
  refine aloop mixed (fz := fun r => if r = 1 then [7] else if r = 21 then [8] else if r = 29 then [9] else []) (im := fun _ => false) (by kernel_rfl) (fun m tm H' => ∃ (s' : RS) (H'' : AHeap), m ≤ a.toNat ∧ H' = H''.set b6 ⟨2, 88, [[I 0, I 0]]⟩ ∧ H'' b6 = none ∧ MachS F H'' bm t cl P clp s' ∧ FsOk t s'.fs ∧ s.fs.length ≤ s'.fs.length ∧ s'.fs.length ≤ s.fs.length + (a.toNat - m) * cost kids ∧ s'.log.length ≤ s.log.length + (a.toNat - m) * cost kids ∧ loopS (fun s => runF t kids (i + 1) none h s) a.toNat s = loopS (fun s => runF t kids (i + 1) none h s) m s' ∧ tm 0 = .ptr bm 5 0 0 ∧ tm 1 = I i ∧ tm 2 = I h ∧ tm 6 = .ptr b6 2 0 0 ∧ tm 117 = I a ∧ tm 118 = I (a.toNat - m : Nat)) a.toNat ⟨s, H2.set bm _, Nat.le_refl _, rfl, nb6 _, hM, hs, Nat.le_refl _, by omega, by omega, rfl, ?_⟩ ?_
  ·simp +contextual -dsimp -implicitDefEqProofs (maxSteps:=5000000) only [go_sem,reduceIte,reduceCtorEq,Nat.reduceEqDiff,Nat.reduceBEq,Nat.reduceAdd,Nat.reduceLeDiff,Nat.reduceMul,Nat.reduceLT,Int.reduceEq,Int.reduceLT,Int.reduceLE,n1,n2]
   rw [Nat.sub_self]; rfl
  ·rintro m tm _ ⟨s', H'', hm, rfl, hb6, hM', hs', g1, g2, g3, he, t0, t1, t2, t6, t117, t118⟩
   cases m with
   | zero =>
    have z : ¬ ((a.toNat - 0 : Nat) : Int) < a := by omega
    simp +contextual -dsimp -implicitDefEqProofs (maxSteps:=5000000) only [go_sem,reduceIte,reduceCtorEq,Nat.reduceEqDiff,Nat.reduceBEq,Nat.reduceAdd,Nat.reduceLeDiff,Nat.reduceMul,Nat.reduceLT,Int.reduceEq,Int.reduceLT,Int.reduceLE,n1,n2,t0,t1,t2,t6,t117,t118,z]
    rw [he]
    refine retR_less (l := [.agg (rEn .next)]) (H' := H'') ?_ (le_set hb6) ⟨rfl, hM'⟩
    simp only [resA,go_sem,reduceIte,reduceCtorEq,Nat.reduceEqDiff,Nat.reduceBEq,Nat.reduceAdd,Nat.reduceLeDiff,Nat.reduceMul,Nat.reduceLT,Int.reduceEq,Int.reduceLT,Int.reduceLE,rEn,En.next,t6]
   | succ m =>
    have z : ((a.toNat - (m + 1) : Nat) : Int) < a := by omega
    have w1 : (a.toNat - (m + 1)) * cost kids + cost kids ≤ a.toNat * cost kids := by
     rw [← Nat.succ_mul]; exact Nat.mul_le_mul_right _ (by omega)
    have w2 : (a.toNat - m) * cost kids = (a.toNat - (m + 1)) * cost kids + cost kids := by
     rw [← Nat.succ_mul]; congr 1; omega
    simp +contextual -dsimp -implicitDefEqProofs (maxSteps:=5000000) only [go_sem,reduceIte,reduceCtorEq,Nat.reduceEqDiff,Nat.reduceBEq,Nat.reduceAdd,Nat.reduceLeDiff,Nat.reduceMul,Nat.reduceLT,Int.reduceEq,Int.reduceLT,Int.reduceLE,n1,n2,t0,t1,t2,t6,t117,t118,z]
    have hgo := goes_run ht kids (i + 1) none (d + 1) h s' hk hs' (by omega) trivial
    have hgl := hgo.len
    refine (c_block ih hn hat hk (s := s') hs' (by omega) (by omega) (by omega) (mach_in (K := ⟨2, 88, [[I 0, I 0]]⟩) hM' hb6) hp).mono ?_
    rintro _ H3 ⟨rfl, hM3⟩
    simp only [loopS] at he
    generalize runF t kids (i + 1) none h s' = r at hM3 hgo hgl he ⊢
    obtain ⟨H4, rfl, hM4, hn4⟩ := mach_out hM3 hF6
    by_cases c1 : r.1.ed = 1
    ·rw [if_pos (.inl c1)] at he
     simp +contextual -dsimp -implicitDefEqProofs (maxSteps:=5000000) only [go_sem,reduceIte,reduceCtorEq,Nat.reduceEqDiff,Nat.reduceBEq,Nat.reduceAdd,Nat.reduceLeDiff,Nat.reduceMul,Nat.reduceLT,Int.reduceEq,Int.reduceLT,Int.reduceLE,rEn,n1,n2,t0,t1,t2,t6,t117,t118,c1]
     rintro b9 hb9
     rw [he]
     refine retR_less (l := [.agg (rEn r.1)]) (H' := H4) ?_ (le_set hn4) ⟨rfl, hM4⟩
     simp only [resA,go_sem,reduceIte,reduceCtorEq,Nat.reduceEqDiff,Nat.reduceBEq,Nat.reduceAdd,Nat.reduceLeDiff,Nat.reduceMul,Nat.reduceLT,Int.reduceEq,Int.reduceLT,Int.reduceLE,rEn,c1,t6]
    by_cases c2 : r.1.ed = 2
    ·rw [if_pos (.inr c2)] at he
     simp +contextual -dsimp -implicitDefEqProofs (maxSteps:=5000000) only [go_sem,reduceIte,reduceCtorEq,Nat.reduceEqDiff,Nat.reduceBEq,Nat.reduceAdd,Nat.reduceLeDiff,Nat.reduceMul,Nat.reduceLT,Int.reduceEq,Int.reduceLT,Int.reduceLE,rEn,n1,n2,t0,t1,t2,t6,t117,t118,c2]
     rintro b9 hb9
     rw [he]
     refine retR_less (l := [.agg (rEn r.1)]) (H' := H4) ?_ (le_set hn4) ⟨rfl, hM4⟩
     simp only [resA,go_sem,reduceIte,reduceCtorEq,Nat.reduceEqDiff,Nat.reduceBEq,Nat.reduceAdd,Nat.reduceLeDiff,Nat.reduceMul,Nat.reduceLT,Int.reduceEq,Int.reduceLT,Int.reduceLE,rEn,c2,t6]
    rw [if_neg (fun q => q.elim c1 c2)] at he
    by_cases c3 : r.1.ed = 3
    ·rw [if_pos c3] at he
     simp +contextual -dsimp -implicitDefEqProofs (maxSteps:=5000000) only [go_sem,reduceIte,reduceCtorEq,Nat.reduceEqDiff,Nat.reduceBEq,Nat.reduceAdd,Nat.reduceLeDiff,Nat.reduceMul,Nat.reduceLT,Int.reduceEq,Int.reduceLT,Int.reduceLE,rEn,n1,n2,t0,t1,t2,t6,t117,t118,c3]
     rintro b9 hb9
     rw [he]
     refine retR_less (l := [.agg (rEn .next)]) (H' := H4) ?_ (le_set hn4) ⟨rfl, hM4⟩
     simp only [resA,go_sem,reduceIte,reduceCtorEq,Nat.reduceEqDiff,Nat.reduceBEq,Nat.reduceAdd,Nat.reduceLeDiff,Nat.reduceMul,Nat.reduceLT,Int.reduceEq,Int.reduceLT,Int.reduceLE,rEn,En.next,t6]
    ·rw [if_neg c3] at he
     simp +contextual -dsimp -implicitDefEqProofs (maxSteps:=5000000) only [go_sem,reduceIte,reduceCtorEq,Nat.reduceEqDiff,Nat.reduceBEq,Nat.reduceAdd,Nat.reduceLeDiff,Nat.reduceMul,Nat.reduceLT,Int.reduceEq,Int.reduceLT,Int.reduceLE,rEn,n1,n2,t0,t1,t2,t6,t117,t118,c1,c2,c3]
     rintro b9 hb9
     exact ⟨m, by omega, r.2, H4, by omega, rfl, hn4, hM4, hgo.ok, by omega, by omega, by omega, he, I_wrap (by omega) (by omega) (by omega)⟩
 ·have e : lineR k a b i h (fun s => runF t kids (i + 1) none h s) s = (.next, ⟨s.log, s.fs, s.first⟩) := by
   unfold lineR lineS; rw [jumpn hj, if_neg k11, if_neg k12, if_neg k1, if_neg k2, if_neg k3, if_neg k4, if_neg k5, if_neg k6]
  rw [e]
  simp +contextual -dsimp -implicitDefEqProofs (maxSteps:=5000000) only [go_sem,reduceIte,reduceCtorEq,Nat.reduceEqDiff,Nat.reduceBEq,Nat.reduceAdd,Nat.reduceLeDiff,Nat.reduceMul,Nat.reduceLT,Int.reduceEq,Int.reduceLT,Int.reduceLE,hi,hx,n1,n2,k1,k2,k3,k4,k5,k6,k11,k12,hj]
  refine retR_less (l := [.agg (rEn .next)]) (H' := H2.set bm _) ?_ (le_set (nb6 _)) ⟨rfl, hMi s.first⟩
  simp only [resA,go_sem,reduceIte,reduceCtorEq,Nat.reduceEqDiff,Nat.reduceBEq,Nat.reduceAdd,Nat.reduceLeDiff,Nat.reduceMul,Nat.reduceLT,Int.reduceEq,Int.reduceLT,Int.reduceLE,rEn,En.next]
end
section
open Go Go.Sim
set_option maxRecDepth 100000
set_option maxHeartbeats 4000000

section
variable {F H : AHeap} {bm c6 c7 c8 : Nat} {t p : AV} {log : List Int} {fs : List Fault} {first : Int} {K6 K7 K8 : ABlk}
theorem mach_in3 (hM : Mach F H bm t p log fs first) (h6 : H c6 = none) (h7 : H c7 = none) (h8 : H c8 = none) (d67 : ¬ c7 = c6) (d68 : ¬ c8 = c6) (d78 : ¬ c8 = c7) :
  Mach (((F.set c6 K6).set c7 K7).set c8 K8) (((H.set c6 K6).set c7 K7).set c8 K8) bm t p log fs first :=
 mach_in (mach_in (mach_in hM h6) (by rw [set_other d67]; exact h7)) (by rw [set_other d78, set_other d68]; exact h8)
theorem mach_out3 (hM : Mach (((F.set c6 K6).set c7 K7).set c8 K8) H bm t p log fs first) (h6 : F c6 = none) (h7 : F c7 = none) (h8 : F c8 = none) (d67 : ¬ c7 = c6) (d68 : ¬ c8 = c6) (d78 : ¬ c8 = c7) :
  ∃ H', H = ((H'.set c6 K6).set c7 K7).set c8 K8 ∧ Mach F H' bm t p log fs first ∧ H' c6 = none ∧ H' c7 = none ∧ H' c8 = none := by
 obtain ⟨H1, rfl, m1, n1⟩ := mach_out hM (by rw [set_other d78, set_other d68]; exact h8)
 obtain ⟨H2, rfl, m2, n2⟩ := mach_out m1 (by rw [set_other d67]; exact h7)
 obtain ⟨H3, rfl, m3, n3⟩ := mach_out m2 h6
 rw [set_other d78, set_other d68] at n1
 rw [set_other d67] at n2
 exact ⟨H3, rfl, m3, n3, n2, n1⟩
end
theorem c_try {t : List Class} {cl : Bool} {P : List Line} {clp : Bool} {n : Nat} (ht : validT t = true) (ih : LinesOk t cl P clp n) {i : Nat} {d k a b h : Int} {kids rest : Fo} {s : RS} {F H : AHeap} {bm : Nat} (cl2 : Bool)
  (hn : kids.size + rest.size < n) (hat : At P i d (.node k a b kids rest)) (hk : numsF t kids (d + 1) = true) (hr : numsF t rest d = true) (hs : FsOk t s.fs) (hh : h < s.fs.length) (hl : s.log.length + (cost kids + cost rest) ≤ 900000) (hf : s.fs.length + (cost kids + cost rest) ≤ 900000) (hM : MachS F H bm t cl P clp s) (hp : P.length ≤ 4398046511104) :
  ACalls Tryz.prog 96 [.ptr bm 5 0 0, .vsl ((toI (i :: chainN rest (i + 1 + kids.size))).map rI) cl2, I h] H fun r H' =>
   r = .agg (rEn (chainR t rest (i + 1 + kids.size) (runF t kids (i + 1) none h s).1 (runF t kids (i + 1) none h s).1 h (runF t kids (i + 1) none h s).2).1) ∧
   MachS F H' bm t cl P clp (chainR t rest (i + 1 + kids.size) (runF t kids (i + 1) none h s).1 (runF t kids (i + 1) none h s).1 h (runF t kids (i + 1) none h s).2).2 := by
 have ed : ∀ k : Nat, (toI (i :: chainN rest (i + 1 + kids.size))).drop k = toI ((i :: chainN rest (i + 1 + kids.size)).drop k) := fun k => toI_drop _ _
 have e0 : (i :: chainN rest (i + 1 + kids.size)).getD 0 default = i := rfl
 refine acalls_of1 Tryz.func96 rfl (by kernel_rfl) rfl rfl (awp_sound (fz := fun r => if r = 6 then [11] else if r = 19 then [13] else []) (im := fun _ => false) mixed _ _ _ _ (by kernel_rfl) ?_)
 simp +contextual -dsimp -implicitDefEqProofs (maxSteps:=5000000) only [go_sem,reduceIte,reduceCtorEq,Nat.reduceEqDiff,Nat.reduceBEq,Nat.reduceAdd,Nat.reduceLeDiff,Nat.reduceMul,Nat.reduceLT,Int.reduceEq,Int.reduceLT,Int.reduceLE,toI_len,toI_at,List.length_cons,e0]
 intro b6 hb6
 have hF6 := mach_none hM hb6
 have hgo := goes_run ht kids (i + 1) none (d + 1) h s hk hs hh trivial
 have hgl := hgo.len
 refine ⟨by omega, by omega, ?_⟩
 refine (c_block ih (by omega) hat hk hs hh (by omega) (by omega) (mach_in (K := ⟨2, 88, [[I 0, I 0]]⟩) hM hb6) hp).mono ?_
 rintro _ H3 ⟨rfl, hM3⟩
 generalize runF t kids (i + 1) none h s = r at hM3 hgo hgl ⊢
 obtain ⟨H4, rfl, hM4, hn4⟩ := mach_out hM3 hF6
 simp +contextual -dsimp -implicitDefEqProofs (maxSteps:=5000000) only [go_sem,reduceIte,reduceCtorEq,Nat.reduceEqDiff,Nat.reduceBEq,Nat.reduceAdd,Nat.reduceLeDiff,Nat.reduceMul,Nat.reduceLT,Int.reduceEq,Int.reduceLT,Int.reduceLE,rEn]
 rintro b7 ⟨d76, d67, n7⟩ b8 ⟨d87, d78, d86, d68, n8⟩
 rw [show (1 : Int).toNat = 1 from rfl, ed, List.drop_succ_cons, List.drop_zero, toI_len]
 refine ⟨by rw [List.length_cons]; omega, ?_⟩
 have hrat := hat.rest
 have hF7 : F b7 = none := mach_none hM4 n7
 have hF8 : F b8 = none := mach_none hM4 n8
 generalize i + 1 + kids.size = j at hrat ⊢
 have hch := chain_len rest j
 have hrl := hrat.len
 refine aloop mixed (fz := fun r => if r = 6 then [11] else if r = 19 then [13] else []) (im := fun _ => false) (by kernel_rfl) (fun m tm H' => ∃ (g : Fo) (q x : Nat) (st e : En) (s' : RS) (H'' : AHeap), m = g.size ∧ At P q d g ∧ numsF t g d = true ∧ g.size ≤ rest.size ∧ (chainN rest j).drop x = chainN g q ∧ x ≤ (chainN rest j).length ∧ FsOk t s'.fs ∧ s.fs.length ≤ s'.fs.length ∧ PdOk s' (some (st, e)) ∧ s'.log.length + cost g ≤ 900000 ∧ s'.fs.length + cost g ≤ 900000 ∧ chainR t rest j r.1 r.1 h r.2 = chainR t g q st e h s' ∧
   H' = ((H''.set b6 ⟨2, 88, [[I 0, I 0]]⟩).set b7 ⟨2, 88, [rEn e]⟩).set b8 ⟨2, 88, [rEn st]⟩ ∧ H'' b6 = none ∧ H'' b7 = none ∧ H'' b8 = none ∧ MachS F H'' bm t cl P clp s' ∧
   tm 0 = .ptr bm 5 0 0 ∧ tm 2 = I h ∧ tm 6 = .ptr b6 2 0 0 ∧ tm 7 = .ptr b7 2 0 0 ∧ tm 8 = .ptr b8 2 0 0 ∧ tm 22 = .vsl ((toI (chainN rest j)).map rI) cl2 ∧ tm 23 = I (chainN rest j).length ∧ tm 24 = I x) rest.size ⟨rest, j, 0, r.1, r.1, r.2, H4, rfl, hrat, hr, Nat.le_refl _, rfl, Nat.zero_le _, hgo.ok, hgl.1, ⟨hgo.val, hgo.val⟩, by omega, by omega, rfl, rfl, hn4, n7, n8, hM4, ?_⟩ ?_
 ·simp +contextual -dsimp -implicitDefEqProofs (maxSteps:=5000000) only [go_sem,reduceIte,reduceCtorEq,Nat.reduceEqDiff,Nat.reduceBEq,Nat.reduceAdd,Nat.reduceLeDiff,Nat.reduceMul,Nat.reduceLT,Int.reduceEq,Int.reduceLT,Int.reduceLE,rEn]
  rw [toI_len]
 ·rintro m tm _ ⟨g, q, x, st, e, s', H'', rfl, hgat, hgn, hgs, hdx, hxl, hs', hsl, hpd, bl, bf, he, rfl, h6, h7, h8, hM', t0, t2, t6, t7, t8, t22, t23, t24⟩
  have hexit : chainN g q = [] → chainR t g q st e h s' = (e, s') := by
   intro hq
   cases g with
   | nil => rfl
   | node k2 a2 b2 ks re =>
    simp only [chainN] at hq
    split at hq
    ·cases hq
    ·rename_i hk2
     simp only [chainR]; rw [if_neg hk2]
  cases hcq : chainN g q with
  | nil =>
   rw [hcq] at hdx
   have hx := drop_nil hdx
   rw [he, hexit hcq]
   simp +contextual -dsimp -implicitDefEqProofs (maxSteps:=5000000) only [go_sem,reduceIte,reduceCtorEq,Nat.reduceEqDiff,Nat.reduceBEq,Nat.reduceAdd,Nat.reduceLeDiff,Nat.reduceMul,Nat.reduceLT,Int.reduceEq,Int.reduceLT,Int.reduceLE,rEn,d76,d67,d87,d78,d86,d68,t0,t2,t6,t7,t8,t22,t23,t24,hx]
   refine retR_less (l := [.agg (rEn e)]) (H' := H'') ?_ (le_s1 (le_s1 (le_s1 (AHeap.le_refl _) h6) h7) h8) ⟨rfl, hM'⟩
   simp only [resA,go_sem,reduceIte,reduceCtorEq,Nat.reduceEqDiff,Nat.reduceBEq,Nat.reduceAdd,Nat.reduceLeDiff,Nat.reduceMul,Nat.reduceLT,Int.reduceEq,Int.reduceLT,Int.reduceLE,rEn,d76,d67,d87,d78,d86,d68,t6]
  | cons q' tl =>
   cases g with
   | nil => simp [chainN] at hcq
   | node k2 a2 b2 ks re =>
    have hk2 : followsK k2 = true := by
     simp only [chainN] at hcq
     split at hcq
     ·assumption
     ·cases hcq
    have hdx' : (chainN rest j).drop x = q :: chainN re (q + 1 + ks.size) := by
     rw [hdx]; simp only [chainN]; rw [if_pos hk2]
    obtain ⟨hx1, hx2, hx3⟩ := drop_cons hdx'
    have hf' := hk2
    simp only [followsK,inR,Bool.and_eq_true,decide_eq_true_eq] at hf'
    obtain ⟨n1, n2, n3, n4, n5⟩ := numsF_node hgn
    have hc := cost_node_le (k := k2) (a := a2) (b := b2) (kids := ks) (rest := re) (by omega)
    have hh2 := hgat.head
    have hsz : (Fo.node k2 a2 b2 ks re).size = 1 + ks.size + re.size := rfl
    have hch2 : chainR t (.node k2 a2 b2 ks re) q st e h s' = chainR t (.node k2 a2 b2 ks re) q st e h s' := rfl
    conv at hch2 => rhs; simp only [chainR]; rw [if_pos hk2]
    obtain ⟨xl, xf, H1, H2, hFm, hg1, hg2, hb, rfl⟩ := id hM'
    have h6' := h6
    have h7' := h7
    have h8' := h8
    rw [set_none] at h6' h7' h8'
    obtain ⟨m1, m2, m3⟩ := h6'
    obtain ⟨m4, m5, m6⟩ := h7'
    obtain ⟨m7, m8, m9⟩ := h8'
    have hgol : h < s'.fs.length := by omega
    have adv : ∀ (SZ : Nat) (st' e' : En) (s'' : RS) (H3 : AHeap), re.size < SZ → chainR t (.node k2 a2 b2 ks re) q st e h s' = chainR t re (q + 1 + ks.size) st' e' h s'' → FsOk t s''.fs → s.fs.length ≤ s''.fs.length → PdOk s'' (some (st', e')) → s''.log.length + cost re ≤ 900000 → s''.fs.length + cost re ≤ 900000 → H3 b6 = none → H3 b7 = none → H3 b8 = none → MachS F H3 bm t cl P clp s'' →
      ∃ m', m' < SZ ∧ ∃ (g : Fo) (q x_1 : Nat) (st_1 e_1 : En) (s'_1 : RS) (H'' : AHeap), m' = g.size ∧ At P q d g ∧ numsF t g d = true ∧ g.size ≤ rest.size ∧ (chainN rest j).drop x_1 = chainN g q ∧ x_1 ≤ (chainN rest j).length ∧ FsOk t s'_1.fs ∧ s.fs.length ≤ s'_1.fs.length ∧ PdOk s'_1 (some (st_1, e_1)) ∧ s'_1.log.length + cost g ≤ 900000 ∧ s'_1.fs.length + cost g ≤ 900000 ∧ chainR t rest j r.1 r.1 h r.2 = chainR t g q st_1 e_1 h s'_1 ∧
       ((H3.set b6 ⟨2, 88, [[I 0, I 0]]⟩).set b7 ⟨2, 88, [[I e'.ed, I e'.val]]⟩).set b8 ⟨2, 88, [[I st'.ed, I st'.val]]⟩ = ((H''.set b6 ⟨2, 88, [[I 0, I 0]]⟩).set b7 ⟨2, 88, [[I e_1.ed, I e_1.val]]⟩).set b8 ⟨2, 88, [[I st_1.ed, I st_1.val]]⟩ ∧ H'' b6 = none ∧ H'' b7 = none ∧ H'' b8 = none ∧ MachS F H'' bm t cl P clp s'_1 ∧ AV.lit (.int .i64 (IntKind.i64.wrap ((x : Int) + 1))) = I x_1 :=
     fun SZ st' e' s'' H3 q1 q2 q3 q4 q5 q6 q7 q8 q9 q10 q11 => ⟨re.size, q1, re, q + 1 + ks.size, x + 1, st', e', s'', H3, rfl, hgat.rest, n5, by omega, hx3, hx1, q3, q4, q5, q6, q7, by rw [he]; exact q2, rfl, q8, q9, q10, q11, I_wrap (by omega) (by omega) (by omega)⟩
    have szl : ∀ k : Int, re.size < (Fo.node k a2 b2 ks re).size := fun k => by simp only [Fo.size]; omega
    by_cases k9 : k2 = 9
    ·rw [if_neg (by omega), if_pos k9] at hch2
     by_cases c0 : st.ed = 0
     ·rw [if_pos c0] at hch2
      simp +contextual -dsimp -implicitDefEqProofs (maxSteps:=5000000) only [go_sem,reduceIte,reduceCtorEq,Nat.reduceEqDiff,Nat.reduceBEq,Nat.reduceAdd,Nat.reduceLeDiff,Nat.reduceMul,Nat.reduceLT,Int.reduceEq,Int.reduceLT,Int.reduceLE,rEn,d76,d67,d87,d78,d86,d68,m1,m2,m4,m5,m7,m8,t0,t2,t6,t7,t8,t22,t23,t24,toI_len,toI_at,hx1,hx2,hh2.1,hh2.2,k9,c0]
      rintro b11 hb11
      have hgo2 := goes_run ht ks (q + 1) none (d + 1) h s' n4 hs' hgol trivial
      have hgl2 := hgo2.len
      refine (c_block ih (by omega) hgat n4 hs' hgol (by omega) (by omega) (mach_in3 (K6 := ⟨2, 88, [[I 0, I 0]]⟩) (K7 := ⟨2, 88, [rEn e]⟩) (K8 := ⟨2, 88, [[I 0, I st.val]]⟩) hM' h6 h7 h8 d76 d86 d87) hp).mono ?_
      rintro _ H3 ⟨rfl, hM3⟩
      generalize runF t ks (q + 1) none h s' = r2 at hM3 hgo2 hgl2 hch2
      obtain ⟨H5, rfl, hM5, w6, w7, w8⟩ := mach_out3 hM3 hF6 hF7 hF8 d76 d86 d87
      simp +contextual -dsimp -implicitDefEqProofs (maxSteps:=5000000) only [go_sem,reduceIte,reduceCtorEq,Nat.reduceEqDiff,Nat.reduceBEq,Nat.reduceAdd,Nat.reduceLeDiff,Nat.reduceMul,Nat.reduceLT,Int.reduceEq,Int.reduceLT,Int.reduceLE,rEn,d76,d67,d87,d78,d86,d68,m1,m2,m4,m5,m7,m8,t0,t2,t6,t7,t8,t22,t23,t24,toI_len,toI_at,hx1,hx2,hh2.1,hh2.2,k9,c0]
      have fin := adv _ st r2.1 r2.2 H5 (szl 9) hch2 hgo2.ok (by omega) ⟨fun z => absurd (show st.ed = 2 from z) (by omega), hgo2.val⟩ (by omega) (by omega) w6 w7 w8 hM5
      rw [c0] at fin
      exact fin
     ·rw [if_neg c0] at hch2
      simp +contextual -dsimp -implicitDefEqProofs (maxSteps:=5000000) only [go_sem,reduceIte,reduceCtorEq,Nat.reduceEqDiff,Nat.reduceBEq,Nat.reduceAdd,Nat.reduceLeDiff,Nat.reduceMul,Nat.reduceLT,Int.reduceEq,Int.reduceLT,Int.reduceLE,rEn,d76,d67,d87,d78,d86,d68,m1,m2,m4,m5,m7,m8,t0,t2,t6,t7,t8,t22,t23,t24,toI_len,toI_at,hx1,hx2,hh2.1,hh2.2,k9,c0]
      rintro b11 hb11
      exact adv _ st e s' _ (szl 9) hch2 hs' hsl hpd (by omega) (by omega) h6 h7 h8 hM'
    ·by_cases k8 : k2 = 8
     ·rw [if_pos k8] at hch2
      by_cases c2 : st.ed = 2
      ·have hsv := hpd.1 c2
       simp only at hsv
       have sv0 := hsv.1
       have sv1 := hsv.2
       have sv2 : st.val.toNat < s'.fs.length := by omega
       have hcl := (hs'.cls st.val.toNat sv2).1
       have hcl2 := hasF_spec hcl
       simp +contextual -dsimp -implicitDefEqProofs (maxSteps:=5000000) only [go_sem,reduceIte,reduceCtorEq,Nat.reduceEqDiff,Nat.reduceBEq,Nat.reduceAdd,Nat.reduceLeDiff,Nat.reduceMul,Nat.reduceLT,Int.reduceEq,Int.reduceLT,Int.reduceLE,rEn,d76,d67,d87,d78,d86,d68,m1,m2,m4,m5,m7,m8,t0,t2,t6,t7,t8,t22,t23,t24,toI_len,toI_at,hx1,hx2,hh2.1,hh2.2,k8,c2]
       rintro b11 hb11
       refine draw_intro [0, 0, 0, 0, 0, 0, 0, 0, 0, 0, 0, 0, 0, 0, 0, 0, 0, 0, 0, 0, 2, 0] AHeap.none (by kernel_rfl) none_le ?_
       rcases hg2 with ⟨ee, _, _⟩ | ⟨bf, clf, hbf, rfl, rfl⟩
       ·rw [ee] at sv1; simp at sv1; omega
       have ub := hb
       have u6 := m3
       have u7 := m6
       have u8 := m9
       rw [set_none] at ub u6 u7 u8
       obtain ⟨v1, v2, _⟩ := ub
       obtain ⟨v3, v4, _⟩ := u6
       obtain ⟨v5, v6, _⟩ := u7
       obtain ⟨v7, v8, _⟩ := u8
       simp +contextual -dsimp -implicitDefEqProofs (maxSteps:=5000000) only [go_sem,reduceIte,reduceCtorEq,Nat.reduceEqDiff,Nat.reduceBEq,Nat.reduceAdd,Nat.reduceLeDiff,Nat.reduceMul,Nat.reduceLT,Int.reduceEq,Int.reduceLT,Int.reduceLE,rEn,d76,d67,d87,d78,d86,d68,m1,m2,m4,m5,m7,m8,t0,t2,t6,t7,t8,t22,t23,t24,toI_len,toI_at,hx1,hx2,hh2.1,hh2.2,k8,c2,v1,v2,v3,v4,v5,v6,v7,v8,sv0,sv1,sv2]
       refine (c_is t cl _ a2 _ ht hcl2.2).det ?_
       simp +contextual -dsimp -implicitDefEqProofs (maxSteps:=5000000) only [go_sem,reduceIte,reduceCtorEq,Nat.reduceEqDiff,Nat.reduceBEq,Nat.reduceAdd,Nat.reduceLeDiff,Nat.reduceMul,Nat.reduceLT,Int.reduceEq,Int.reduceLT,Int.reduceLE,rEn,d76,d67,d87,d78,d86,d68,m1,m2,m4,m5,m7,m8,t0,t2,t6,t7,t8,t22,t23,t24,toI_len,toI_at,hx1,hx2,hh2.1,hh2.2,k8,c2,v1,v2,v3,v4,v5,v6,v7,v8,sv0,sv1,sv2]
       refine ⟨fun hq => ?_, fun hq => ?_⟩
       ·rw [if_pos ⟨c2, hq⟩] at hch2
        have hgo2 := goes_run ht ks (q + 1) none (d + 1) st.val s' n4 hs' sv1 trivial
        have hgl2 := hgo2.len
        refine (c_block ih (by omega) hgat n4 hs' sv1 (by omega) (by omega) (mach_in3 (K6 := ⟨2, 88, [[I 0, I 0]]⟩) (K7 := ⟨2, 88, [rEn e]⟩) (K8 := ⟨2, 88, [[I 2, I st.val]]⟩) hM' h6 h7 h8 d76 d86 d87) hp).mono ?_
        rintro _ H3 ⟨rfl, hM3⟩
        generalize runF t ks (q + 1) none st.val s' = r2 at hM3 hgo2 hgl2 hch2
        obtain ⟨H5, rfl, hM5, w6, w7, w8⟩ := mach_out3 hM3 hF6 hF7 hF8 d76 d86 d87
        simp +contextual -dsimp -implicitDefEqProofs (maxSteps:=5000000) only [go_sem,reduceIte,reduceCtorEq,Nat.reduceEqDiff,Nat.reduceBEq,Nat.reduceAdd,Nat.reduceLeDiff,Nat.reduceMul,Nat.reduceLT,Int.reduceEq,Int.reduceLT,Int.reduceLE,rEn,d76,d67,d87,d78,d86,d68,m1,m2,m4,m5,m7,m8,t0,t2,t6,t7,t8,t22,t23,t24,toI_len,toI_at,hx1,hx2,hh2.1,hh2.2,k8,c2]
        exact adv _ ⟨-1, 0⟩ r2.1 r2.2 H5 (szl 8) hch2 hgo2.ok (by omega) ⟨(fun z => by cases z), hgo2.val⟩ (by omega) (by omega) w6 w7 w8 hM5
       ·rw [if_neg (fun z => by have := z.2; unfold isF clsOf at this; rw [hq] at this; cases this)] at hch2
        have fin := adv _ st e s' _ (szl 8) hch2 hs' hsl hpd (by omega) (by omega) h6 h7 h8 hM'
        rw [c2] at fin
        exact fin
      ·rw [if_neg (fun z => c2 z.1)] at hch2
       simp +contextual -dsimp -implicitDefEqProofs (maxSteps:=5000000) only [go_sem,reduceIte,reduceCtorEq,Nat.reduceEqDiff,Nat.reduceBEq,Nat.reduceAdd,Nat.reduceLeDiff,Nat.reduceMul,Nat.reduceLT,Int.reduceEq,Int.reduceLT,Int.reduceLE,rEn,d76,d67,d87,d78,d86,d68,m1,m2,m4,m5,m7,m8,t0,t2,t6,t7,t8,t22,t23,t24,toI_len,toI_at,hx1,hx2,hh2.1,hh2.2,k8,c2]
       rintro b11 hb11
       refine draw_intro [0, 0, 0, 0, 0, 0, 0, 0, 0, 0, 0, 0, 0, 0, 0, 0, 0, 0, 0, 0, 2, 0] AHeap.none (by kernel_rfl) none_le ?_
       simp +contextual -dsimp -implicitDefEqProofs (maxSteps:=5000000) only [go_sem,reduceIte,reduceCtorEq,Nat.reduceEqDiff,Nat.reduceBEq,Nat.reduceAdd,Nat.reduceLeDiff,Nat.reduceMul,Nat.reduceLT,Int.reduceEq,Int.reduceLT,Int.reduceLE,rEn,d76,d67,d87,d78,d86,d68,m1,m2,m4,m5,m7,m8,t0,t2,t6,t7,t8,t22,t23,t24,toI_len,toI_at,hx1,hx2,hh2.1,hh2.2,k8,c2]
       exact adv _ st e s' _ (szl 8) hch2 hs' hsl hpd (by omega) (by omega) h6 h7 h8 hM'
     ·have k10 : k2 = 10 := by omega
      rw [if_neg k8, if_neg k9] at hch2
      by_cases c2 : e.ed = 2
      ·have hev := hpd.2 c2
       simp only at hev
       rw [if_pos c2] at hch2
       simp +contextual -dsimp -implicitDefEqProofs (maxSteps:=5000000) only [go_sem,reduceIte,reduceCtorEq,Nat.reduceEqDiff,Nat.reduceBEq,Nat.reduceAdd,Nat.reduceLeDiff,Nat.reduceMul,Nat.reduceLT,Int.reduceEq,Int.reduceLT,Int.reduceLE,rEn,d76,d67,d87,d78,d86,d68,m1,m2,m4,m5,m7,m8,t0,t2,t6,t7,t8,t22,t23,t24,toI_len,toI_at,hx1,hx2,hh2.1,hh2.2,k10,c2]
       rintro b11 hb11
       have hgo2 := goes_run ht ks (q + 1) none (d + 1) e.val s' n4 hs' hev.2 trivial
       have hgl2 := hgo2.len
       refine (c_block ih (by omega) hgat n4 hs' hev.2 (by omega) (by omega) (mach_in3 (K6 := ⟨2, 88, [[I 0, I 0]]⟩) (K7 := ⟨2, 88, [[I 2, I e.val]]⟩) (K8 := ⟨2, 88, [rEn st]⟩) hM' h6 h7 h8 d76 d86 d87) hp).mono ?_
       rintro _ H3 ⟨rfl, hM3⟩
       generalize runF t ks (q + 1) none e.val s' = r2 at hM3 hgo2 hgl2 hch2
       obtain ⟨H5, rfl, hM5, w6, w7, w8⟩ := mach_out3 hM3 hF6 hF7 hF8 d76 d86 d87
       by_cases c0 : r2.1.ed = 0
       ·rw [if_pos c0] at hch2
        simp +contextual -dsimp -implicitDefEqProofs (maxSteps:=5000000) only [go_sem,reduceIte,reduceCtorEq,Nat.reduceEqDiff,Nat.reduceBEq,Nat.reduceAdd,Nat.reduceLeDiff,Nat.reduceMul,Nat.reduceLT,Int.reduceEq,Int.reduceLT,Int.reduceLE,rEn,d76,d67,d87,d78,d86,d68,m1,m2,m4,m5,m7,m8,t0,t2,t6,t7,t8,t22,t23,t24,toI_len,toI_at,hx1,hx2,hh2.1,hh2.2,k10,c2,c0]
        rintro b13 hb13
        have fin := adv _ st e r2.2 H5 (szl 10) hch2 hgo2.ok (by omega) ⟨fun z => by have := hpd.1 z; simp only at this; show 0 ≤ st.val ∧ st.val < (r2.2.fs.length : Int); omega, fun z => by have := hpd.2 z; simp only at this; show 0 ≤ e.val ∧ e.val < (r2.2.fs.length : Int); omega⟩ (by omega) (by omega) w6 w7 w8 hM5
        rw [c2] at fin
        exact fin
       ·rw [if_neg c0] at hch2
        simp +contextual -dsimp -implicitDefEqProofs (maxSteps:=5000000) only [go_sem,reduceIte,reduceCtorEq,Nat.reduceEqDiff,Nat.reduceBEq,Nat.reduceAdd,Nat.reduceLeDiff,Nat.reduceMul,Nat.reduceLT,Int.reduceEq,Int.reduceLT,Int.reduceLE,rEn,d76,d67,d87,d78,d86,d68,m1,m2,m4,m5,m7,m8,t0,t2,t6,t7,t8,t22,t23,t24,toI_len,toI_at,hx1,hx2,hh2.1,hh2.2,k10,c2,c0]
        rintro b13 hb13
        exact adv _ st r2.1 r2.2 H5 (szl 10) hch2 hgo2.ok (by omega) ⟨fun z => by have := hpd.1 z; simp only at this; show 0 ≤ st.val ∧ st.val < (r2.2.fs.length : Int); omega, hgo2.val⟩ (by omega) (by omega) w6 w7 w8 hM5
      ·rw [if_neg c2] at hch2
       simp +contextual -dsimp -implicitDefEqProofs (maxSteps:=5000000) only [go_sem,reduceIte,reduceCtorEq,Nat.reduceEqDiff,Nat.reduceBEq,Nat.reduceAdd,Nat.reduceLeDiff,Nat.reduceMul,Nat.reduceLT,Int.reduceEq,Int.reduceLT,Int.reduceLE,rEn,d76,d67,d87,d78,d86,d68,m1,m2,m4,m5,m7,m8,t0,t2,t6,t7,t8,t22,t23,t24,toI_len,toI_at,hx1,hx2,hh2.1,hh2.2,k10,c2]
       rintro b11 hb11
       have hgo2 := goes_run ht ks (q + 1) none (d + 1) h s' n4 hs' hgol trivial
       have hgl2 := hgo2.len
       refine (c_block ih (by omega) hgat n4 hs' hgol (by omega) (by omega) (mach_in3 (K6 := ⟨2, 88, [[I 0, I 0]]⟩) (K7 := ⟨2, 88, [rEn e]⟩) (K8 := ⟨2, 88, [rEn st]⟩) hM' h6 h7 h8 d76 d86 d87) hp).mono ?_
       rintro _ H3 ⟨rfl, hM3⟩
       generalize runF t ks (q + 1) none h s' = r2 at hM3 hgo2 hgl2 hch2
       obtain ⟨H5, rfl, hM5, w6, w7, w8⟩ := mach_out3 hM3 hF6 hF7 hF8 d76 d86 d87
       by_cases c0 : r2.1.ed = 0
       ·rw [if_pos c0] at hch2
        simp +contextual -dsimp -implicitDefEqProofs (maxSteps:=5000000) only [go_sem,reduceIte,reduceCtorEq,Nat.reduceEqDiff,Nat.reduceBEq,Nat.reduceAdd,Nat.reduceLeDiff,Nat.reduceMul,Nat.reduceLT,Int.reduceEq,Int.reduceLT,Int.reduceLE,rEn,d76,d67,d87,d78,d86,d68,m1,m2,m4,m5,m7,m8,t0,t2,t6,t7,t8,t22,t23,t24,toI_len,toI_at,hx1,hx2,hh2.1,hh2.2,k10,c2,c0]
        rintro b13 hb13
        exact adv _ st e r2.2 H5 (szl 10) hch2 hgo2.ok (by omega) ⟨fun z => by have := hpd.1 z; simp only at this; show 0 ≤ st.val ∧ st.val < (r2.2.fs.length : Int); omega, fun z => absurd z c2⟩ (by omega) (by omega) w6 w7 w8 hM5
       ·rw [if_neg c0] at hch2
        simp +contextual -dsimp -implicitDefEqProofs (maxSteps:=5000000) only [go_sem,reduceIte,reduceCtorEq,Nat.reduceEqDiff,Nat.reduceBEq,Nat.reduceAdd,Nat.reduceLeDiff,Nat.reduceMul,Nat.reduceLT,Int.reduceEq,Int.reduceLT,Int.reduceLE,rEn,d76,d67,d87,d78,d86,d68,m1,m2,m4,m5,m7,m8,t0,t2,t6,t7,t8,t22,t23,t24,toI_len,toI_at,hx1,hx2,hh2.1,hh2.2,k10,c2,c0]
        rintro b13 hb13
        exact adv _ st r2.1 r2.2 H5 (szl 10) hch2 hgo2.ok (by omega) ⟨fun z => by have := hpd.1 z; simp only at this; show 0 ≤ st.val ∧ st.val < (r2.2.fs.length : Int); omega, hgo2.val⟩ (by omega) (by omega) w6 w7 w8 hM5
end
section
open Go Go.Sim
set_option maxRecDepth 100000
set_option maxHeartbeats 4000000

theorem goes_chain {t : List Class} (ht : validT t = true) : ∀ (f : Fo) (i : Nat) (st e : En) (d h : Int) (s : RS), numsF t f d = true → FsOk t s.fs → h < s.fs.length → PdOk s (some (st, e)) →
  ∃ c, c + cost (skipF f) ≤ cost f ∧ Goes t c s (chainR t f i st e h s).1 (chainR t f i st e h s).2
 | .nil, i, st, e, d, h, s, _, hs, _, hp => ⟨0, Nat.le_refl _, goes_self hs hp.2⟩
 | .node k a b kids rest, i, st, e, d, h, s, hn, hs, hh, hp => by
  obtain ⟨n1, n2, n3, n4, n5⟩ := numsF_node hn
  simp only [chainR,skipF]
  by_cases hk : followsK k = true
  ·simp only [hk,if_true]
   have hk' := hk
   simp only [followsK,inR,Bool.and_eq_true,decide_eq_true_eq] at hk'
   have hc := cost_node_le (k := k) (a := a) (b := b) (kids := kids) (rest := rest) (by omega)
   have pass : ∀ (q : En × En), PdOk s (some q) → ∃ c, c + cost (skipF rest) ≤ cost (.node k a b kids rest) ∧ Goes t c s (chainR t rest (i + 1 + kids.size) q.1 q.2 h s).1 (chainR t rest (i + 1 + kids.size) q.1 q.2 h s).2 := by
    intro q hq
    obtain ⟨c, h1, h2⟩ := goes_chain ht rest (i + 1 + kids.size) q.1 q.2 d h s n5 hs hh hq
    exact ⟨c, by omega, h2⟩
   have go : ∀ (g : Int) (st : En) (e : En × RS → En), g < s.fs.length → (st.ed = 2 → 0 ≤ st.val ∧ st.val < s.fs.length) → (∀ r : En × RS, (r.1.ed = 2 → 0 ≤ r.1.val ∧ r.1.val < r.2.fs.length) → s.fs.length ≤ r.2.fs.length → (e r).ed = 2 → 0 ≤ (e r).val ∧ (e r).val < r.2.fs.length) →
     ∃ c, c + cost (skipF rest) ≤ cost (.node k a b kids rest) ∧ Goes t c s ((fun r : En × RS => chainR t rest (i + 1 + kids.size) st (e r) h r.2) (runF t kids (i + 1) none g s)).1 ((fun r : En × RS => chainR t rest (i + 1 + kids.size) st (e r) h r.2) (runF t kids (i + 1) none g s)).2 := by
    intro g st e hg hst he
    have h1 := goes_run ht kids (i + 1) none (d + 1) g s n4 hs hg trivial
    generalize runF t kids (i + 1) none g s = r at h1 ⊢
    have hl := h1.len
    obtain ⟨c, h2, h3⟩ := goes_chain ht rest (i + 1 + kids.size) st (e r) d h r.2 n5 h1.ok (by omega) ⟨fun q => by have := hst q; show 0 ≤ st.val ∧ st.val < (r.2.fs.length : Int); omega, he r h1.val hl.1⟩
    exact ⟨cost kids + c, by omega, h1.trans h3 (Nat.le_refl _)⟩
   split
   ·split
    ·rename_i hq
     exact go st.val ⟨-1, 0⟩ (fun r => r.1) (hp.1 hq.1).2 (fun q => by cases q) (fun r hr _ => hr)
    ·exact pass (st, e) hp
   ·split
    ·split
     ·exact go h st (fun r => r.1) hh hp.1 (fun r hr _ => hr)
     ·exact pass (st, e) hp
    ·refine go _ st (fun r => if r.1.ed = 0 then e else r.1) ?_ hp.1 (fun r hr hl => ?_)
     ·split
      ·exact (hp.2 ‹_›).2
      ·exact hh
     ·split
      ·exact fun z => by have := hp.2 z; simp only at this; omega
      ·exact hr
  ·rw [if_neg hk, if_neg hk]
   exact ⟨0, by omega, goes_self hs hp.2⟩
theorem numsF_skip {t : List Class} {d : Int} : ∀ (f : Fo), numsF t f d = true → numsF t (skipF f) d = true
 | .nil, h => h
 | .node k a b kids rest, h => by
  simp only [skipF]
  split
  ·exact numsF_skip rest (numsF_node h).2.2.2.2
  ·exact h
theorem getD_last (i : Nat) (l : List Nat) : (i :: l).getD l.length default = (i :: l).getLastD 0 := by
 rw [List.getLastD_cons]
 induction l generalizing i with
 | nil => rfl
 | cons x l ih => rw [List.length_cons, List.getD_cons_succ, List.getLastD_cons]; exact ih x
theorem c_linesStep {t : List Class} {cl : Bool} {P : List Line} {clp : Bool} {n : Nat} (ht : validT t = true) (hp : P.length ≤ 4398046511104) (ih : LinesOk t cl P clp n) : LinesOk t cl P clp (n + 1) := by
 intro f i d h s F H bm hfn hat hnf hs hh hl hf hM
 have hfl := hat.len
 refine acalls_of1 Tryz.func49 rfl (by kernel_rfl) rfl rfl (awp_sound (fz := fun r => if r = 12 then [11] else []) (im := fun _ => false) mixed _ _ _ _ (by kernel_rfl) ?_)
 simp +contextual -dsimp -implicitDefEqProofs (maxSteps:=5000000) only [go_sem,reduceIte,reduceCtorEq,Nat.reduceEqDiff,Nat.reduceBEq,Nat.reduceAdd,Nat.reduceLeDiff,Nat.reduceMul,Nat.reduceLT,Int.reduceEq,Int.reduceLT,Int.reduceLE]
 intro b8 hb8
 have hF8 := mach_none hM hb8
 refine aloop mixed (fz := fun r => if r = 12 then [11] else []) (im := fun _ => false) (by kernel_rfl) (fun m tm H' => ∃ (g : Fo) (q : Nat) (s' : RS) (H'' : AHeap), m = g.size ∧ At P q d g ∧ numsF t g d = true ∧ g.size ≤ f.size ∧ q + g.size = i + f.size ∧ FsOk t s'.fs ∧ s.fs.length ≤ s'.fs.length ∧ s'.log.length + cost g ≤ 900000 ∧ s'.fs.length + cost g ≤ 900000 ∧ runF t f i none h s = runF t g q none h s' ∧ H' = H''.set b8 ⟨2, 88, [[I 0, I 0]]⟩ ∧ H'' b8 = none ∧ MachS F H'' bm t cl P clp s' ∧ tm 0 = .ptr bm 5 0 0 ∧ tm 2 = I (i + f.size : Nat) ∧ tm 3 = I h ∧ tm 8 = .ptr b8 2 0 0 ∧ tm 9 = I q) f.size ⟨f, i, s, H, rfl, hat, hnf, Nat.le_refl _, rfl, hs, Nat.le_refl _, hl, hf, rfl, rfl, hb8, hM, ?_⟩ ?_
 ·simp +contextual -dsimp -implicitDefEqProofs (maxSteps:=5000000) only [go_sem,reduceIte,reduceCtorEq,Nat.reduceEqDiff,Nat.reduceBEq,Nat.reduceAdd,Nat.reduceLeDiff,Nat.reduceMul,Nat.reduceLT,Int.reduceEq,Int.reduceLT,Int.reduceLE]
 ·rintro m tm _ ⟨g, q, s', H'', rfl, hgat, hgn, hgs, hgq, hs', hsl, bl, bf, he, rfl, h8, hM', t0, t2, t3, t8, t9⟩
  cases g with
  | nil =>
   have z : ¬ q < i + f.size := by simp only [Fo.size] at hgq; omega
   rw [he]
   simp +contextual -dsimp -implicitDefEqProofs (maxSteps:=5000000) only [go_sem,reduceIte,reduceCtorEq,Nat.reduceEqDiff,Nat.reduceBEq,Nat.reduceAdd,Nat.reduceLeDiff,Nat.reduceMul,Nat.reduceLT,Int.reduceEq,Int.reduceLT,Int.reduceLE,t0,t2,t3,t8,t9,z]
   refine retR_less (l := [.agg (rEn .next)]) (H' := H'') ?_ (le_set h8) ⟨rfl, hM'⟩
   simp only [resA,go_sem,reduceIte,reduceCtorEq,Nat.reduceEqDiff,Nat.reduceBEq,Nat.reduceAdd,Nat.reduceLeDiff,Nat.reduceMul,Nat.reduceLT,Int.reduceEq,Int.reduceLT,Int.reduceLE,rEn,En.next,t8]
  | node k a b kids rest =>
   have hsz : (Fo.node k a b kids rest).size = 1 + kids.size + rest.size := rfl
   have z : q < i + f.size := by omega
   have hq := hgat.head
   obtain ⟨xl, xf, H1, H2, hFm, hg1, hg2, hb, rfl⟩ := id hM'
   have h8' := h8
   rw [set_none] at h8'
   obtain ⟨m1, m2, m3⟩ := h8'
   obtain ⟨n1, n2, n3, n4, n5⟩ := numsF_node hgn
   simp +contextual -dsimp -implicitDefEqProofs (maxSteps:=5000000) only [go_sem,reduceIte,reduceCtorEq,Nat.reduceEqDiff,Nat.reduceBEq,Nat.reduceAdd,Nat.reduceLeDiff,Nat.reduceMul,Nat.reduceLT,Int.reduceEq,Int.reduceLT,Int.reduceLE,t0,t2,t3,t8,t9,z,m1,m2]
   refine (c_endOf P clp q _ hq.1).det ?_
   rw [hgat.endP]
   simp +contextual -dsimp -implicitDefEqProofs (maxSteps:=5000000) only [go_sem,reduceIte,reduceCtorEq,Nat.reduceEqDiff,Nat.reduceBEq,Nat.reduceAdd,Nat.reduceLeDiff,Nat.reduceMul,Nat.reduceLT,Int.reduceEq,Int.reduceLT,Int.reduceLE,t0,t2,t3,t8,t9,z,m1,m2,hq.1,hq.2]
   rintro b11 ⟨d1, d2, d3, d4, m4⟩
   have h11 : (H2.set bm ⟨5, 129, [[.vsl (t.map rClass) cl, aProg P clp, xl, xf, I s'.first]]⟩) b11 = none := by rw [set_other d3]; exact m4
   have hF11 := mach_none hM' h11
   have adv : ∀ (SZ : Nat) (g' : Fo) (q' : Nat) (s'' : RS) (H3 : AHeap), g'.size < SZ → g'.size ≤ rest.size → At P q' d g' → numsF t g' d = true → q' + g'.size = i + f.size → runF t (.node k a b kids rest) q none h s' = runF t g' q' none h s'' → FsOk t s''.fs → s.fs.length ≤ s''.fs.length → s''.log.length + cost g' ≤ 900000 → s''.fs.length + cost g' ≤ 900000 → H3 b8 = none → MachS F H3 bm t cl P clp s'' →
     ∃ m', m' < SZ ∧ ∃ (g : Fo) (q : Nat) (s' : RS) (H'' : AHeap), m' = g.size ∧ At P q d g ∧ numsF t g d = true ∧ g.size ≤ f.size ∧ q + g.size = i + f.size ∧ FsOk t s'.fs ∧ s.fs.length ≤ s'.fs.length ∧ s'.log.length + cost g ≤ 900000 ∧ s'.fs.length + cost g ≤ 900000 ∧ runF t f i none h s = runF t g q none h s' ∧ H3.set b8 ⟨2, 88, [[I 0, I 0]]⟩ = H''.set b8 ⟨2, 88, [[I 0, I 0]]⟩ ∧ H'' b8 = none ∧ MachS F H'' bm t cl P clp s' ∧ I q' = I q :=
    fun SZ g' q' s'' H3 w1 w0 w2 w3 w4 w5 w6 w7 w8 w9 w10 w11 => ⟨g'.size, w1, g', q', s'', H3, rfl, w2, w3, by omega, w4, w6, w7, w8, w9, by rw [he]; exact w5, rfl, w10, w11, rfl⟩
   have hMin := mach_in (K := ⟨2, 88, [[I 0, I 0]]⟩) (mach_in (K := ⟨2, 88, [[I 0, I 0]]⟩) hM' h8) (show ((H2.set bm _).set b8 _) b11 = none by rw [set_other d1]; exact h11)
   have mout : ∀ (s'' : RS) (H3 : AHeap), MachS ((F.set b8 ⟨2, 88, [[I 0, I 0]]⟩).set b11 ⟨2, 88, [[I 0, I 0]]⟩) H3 bm t cl P clp s'' → ∃ H4, H3 = (H4.set b8 ⟨2, 88, [[I 0, I 0]]⟩).set b11 ⟨2, 88, [[I 0, I 0]]⟩ ∧ MachS F H4 bm t cl P clp s'' ∧ H4 b8 = none ∧ H4 b11 = none := by
    intro s'' H3 hM3
    obtain ⟨H4, rfl, hM4, w1⟩ := mach_out hM3 (by rw [set_other d1]; exact hF11)
    obtain ⟨H5, rfl, hM5, w2⟩ := mach_out hM4 hF8
    rw [set_other d1] at w1
    exact ⟨H5, rfl, hM5, w2, w1⟩
   by_cases k7 : k = 7
   ·subst k7
    have hc : cost (.node 7 a b kids rest) = 2 + cost kids + cost rest := cost_node_le (by omega)
    simp +contextual -dsimp -implicitDefEqProofs (maxSteps:=5000000) only [go_sem,reduceIte,reduceCtorEq,Nat.reduceEqDiff,Nat.reduceBEq,Nat.reduceAdd,Nat.reduceLeDiff,Nat.reduceMul,Nat.reduceLT,Int.reduceEq,Int.reduceLT,Int.reduceLE,t0,t2,t3,t8,t9,z,m1,m2,hq.1,hq.2,d1,d2,d3,d4]
    refine acalls_frz (c_tryFrom P clp q _ hq.1 hp) fun cl2 => ?_
    rw [chainP_at hgat]
    simp +contextual -dsimp -implicitDefEqProofs (maxSteps:=5000000) only [go_sem,reduceIte,reduceCtorEq,Nat.reduceEqDiff,Nat.reduceBEq,Nat.reduceAdd,Nat.reduceLeDiff,Nat.reduceMul,Nat.reduceLT,Int.reduceEq,Int.reduceLT,Int.reduceLE,t0,t2,t3,t8,t9,z,m1,m2,hq.1,hq.2,d1,d2,d3,d4]
    refine draw_intro [0, 0, 0, 0, 0, 0, 0, 0, 0, 0, 2, 0] AHeap.none (by kernel_rfl) none_le ?_
    have hce := chain_end rest (q + 1 + kids.size) q hgat.rest hgat.endP
    have hgl := getD_last q (chainN rest (q + 1 + kids.size))
    have hmem := chainP_mem hq.1 ((q :: chainN rest (q + 1 + kids.size)).getLastD 0) (by
     rw [chainP_at hgat, ← hgl, List.getD_eq_getElem?_getD, List.getElem?_eq_getElem (by simp)]
     exact List.getElem_mem _)
    have hwl : IntKind.i64.wrap (((chainN rest (q + 1 + kids.size)).length + 1 : Nat) - 1) = ((chainN rest (q + 1 + kids.size)).length : Int) := by
     have := chain_len rest (q + 1 + kids.size)
     rw [w64 (by omega) (by omega)]; omega
    have hlt1 : ((chainN rest (q + 1 + kids.size)).length : Int) < (((chainN rest (q + 1 + kids.size)).length + 1 : Nat) : Int) := by omega
    have hlt2 : (chainN rest (q + 1 + kids.size)).length < (chainN rest (q + 1 + kids.size)).length + 1 := by omega
    simp +contextual -dsimp -implicitDefEqProofs (maxSteps:=5000000) only [go_sem,reduceIte,reduceCtorEq,Nat.reduceEqDiff,Nat.reduceBEq,Nat.reduceAdd,Nat.reduceLeDiff,Nat.reduceMul,Nat.reduceLT,Int.reduceEq,Int.reduceLT,Int.reduceLE,t0,t2,t3,t8,t9,z,m1,m2,hq.1,hq.2,d1,d2,d3,d4,toI_len,toI_at,List.length_cons,hwl,hgl,hlt1,hlt2]
    refine (c_endOf P clp _ _ hmem).det ?_
    rw [hce]
    simp +contextual -dsimp -implicitDefEqProofs (maxSteps:=5000000) only [go_sem,reduceIte,reduceCtorEq,Nat.reduceEqDiff,Nat.reduceBEq,Nat.reduceAdd,Nat.reduceLeDiff,Nat.reduceMul,Nat.reduceLT,Int.reduceEq,Int.reduceLT,Int.reduceLE,t0,t2,t3,t8,t9,z,m1,m2,hq.1,hq.2,d1,d2,d3,d4]
    have hgo0 := goes_run ht kids (q + 1) none (d + 1) h s' n4 hs' (by omega) trivial
    have hgl0 := hgo0.len
    have hss := skipN_add rest (q + 1 + kids.size)
    have hsf := skipF_size rest
    refine (c_try ht ih cl2 (by omega) hgat n4 n5 hs' (by omega) (by omega) (by omega) hMin hp).mono ?_
    rintro _ H3 ⟨rfl, hM3⟩
    have hrun := runF_try (t := t) (a := a) (b := b) (kids := kids) (rest := rest) (i := q) (h := h) (s := s')
    simp only [runF_some] at hrun
    generalize runF t kids (q + 1) none h s' = r0 at hM3 hgo0 hgl0 hrun ⊢
    obtain ⟨c, hc1, hgo⟩ := goes_chain ht rest (q + 1 + kids.size) r0.1 r0.1 d h r0.2 n5 hgo0.ok (by omega) ⟨hgo0.val, hgo0.val⟩
    have hgl := hgo.len
    generalize chainR t rest (q + 1 + kids.size) r0.1 r0.1 h r0.2 = r at hM3 hgo hgl hrun ⊢
    obtain ⟨H4, rfl, hM4, w1, w2⟩ := mout _ _ hM3
    by_cases c0 : r.1.ed = 0
    ·simp only [c0,if_true] at hrun
     simp +contextual -dsimp -implicitDefEqProofs (maxSteps:=5000000) only [go_sem,reduceIte,reduceCtorEq,Nat.reduceEqDiff,Nat.reduceBEq,Nat.reduceAdd,Nat.reduceLeDiff,Nat.reduceMul,Nat.reduceLT,Int.reduceEq,Int.reduceLT,Int.reduceLE,rEn,t0,t2,t3,t8,t9,z,m1,m2,hq.1,hq.2,d1,d2,d3,d4,c0,w2]
     exact adv _ (skipF rest) (skipN rest (q + 1 + kids.size)) r.2 H4 (by simp only [Fo.size]; omega) hsf hgat.rest.skip (numsF_skip rest n5) (by omega) hrun hgo.ok (by omega) (by omega) (by omega) w1 hM4
    ·simp only [c0,if_false] at hrun
     simp +contextual -dsimp -implicitDefEqProofs (maxSteps:=5000000) only [go_sem,reduceIte,reduceCtorEq,Nat.reduceEqDiff,Nat.reduceBEq,Nat.reduceAdd,Nat.reduceLeDiff,Nat.reduceMul,Nat.reduceLT,Int.reduceEq,Int.reduceLT,Int.reduceLE,rEn,t0,t2,t3,t8,t9,z,m1,m2,hq.1,hq.2,d1,d2,d3,d4,c0]
     rw [he, hrun]
     refine retR_less (l := [.agg (rEn r.1)]) (H' := H4) ?_ (le_s1 (le_s1 (AHeap.le_refl _) w1) w2) ⟨rfl, hM4⟩
     simp only [resA,go_sem,reduceIte,reduceCtorEq,Nat.reduceEqDiff,Nat.reduceBEq,Nat.reduceAdd,Nat.reduceLeDiff,Nat.reduceMul,Nat.reduceLT,Int.reduceEq,Int.reduceLT,Int.reduceLE,rEn,d1,d2,t8]
   ·have hgo := goes_lineR (h := h) (i := q) (body := fun s => runF t kids (q + 1) none h s) (n := cost kids) ht hs' n1 (by omega) (fun s2 hs2 hl2 => goes_run ht kids (q + 1) none (d + 1) h s2 n4 hs2 (by omega) trivial)
    have hgl := hgo.len
    have hrun := runF_line (t := t) (a := a) (b := b) (kids := kids) (rest := rest) (i := q) (h := h) (s := s') k7
    have hcn : cost (.node k a b kids rest) = 2 + (if k = 12 then a.toNat * cost kids else cost kids) + cost rest := rfl
    simp +contextual -dsimp -implicitDefEqProofs (maxSteps:=5000000) only [go_sem,reduceIte,reduceCtorEq,Nat.reduceEqDiff,Nat.reduceBEq,Nat.reduceAdd,Nat.reduceLeDiff,Nat.reduceMul,Nat.reduceLT,Int.reduceEq,Int.reduceLT,Int.reduceLE,t0,t2,t3,t8,t9,z,m1,m2,hq.1,hq.2,d1,d2,d3,d4,k7]
    refine (c_line ht ih (by omega) hgat n1 n4 hs' (by omega) (by omega) (by omega) hMin hp).mono ?_
    rintro _ H3 ⟨rfl, hM3⟩
    generalize lineR k a b q h (fun s => runF t kids (q + 1) none h s) s' = r at hM3 hgo hgl hrun ⊢
    obtain ⟨H4, rfl, hM4, w1, w2⟩ := mout _ _ hM3
    by_cases c0 : r.1.ed = 0
    ·simp only [c0,if_true] at hrun
     simp +contextual -dsimp -implicitDefEqProofs (maxSteps:=5000000) only [go_sem,reduceIte,reduceCtorEq,Nat.reduceEqDiff,Nat.reduceBEq,Nat.reduceAdd,Nat.reduceLeDiff,Nat.reduceMul,Nat.reduceLT,Int.reduceEq,Int.reduceLT,Int.reduceLE,rEn,t0,t2,t3,t8,t9,z,m1,m2,hq.1,hq.2,d1,d2,d3,d4,c0,w2]
     exact adv _ rest (q + 1 + kids.size) r.2 H4 (by simp only [Fo.size]; omega) (Nat.le_refl _) hgat.rest n5 (by omega) hrun hgo.ok (by omega) (by omega) (by omega) w1 hM4
    ·simp only [c0,if_false] at hrun
     simp +contextual -dsimp -implicitDefEqProofs (maxSteps:=5000000) only [go_sem,reduceIte,reduceCtorEq,Nat.reduceEqDiff,Nat.reduceBEq,Nat.reduceAdd,Nat.reduceLeDiff,Nat.reduceMul,Nat.reduceLT,Int.reduceEq,Int.reduceLT,Int.reduceLE,rEn,t0,t2,t3,t8,t9,z,m1,m2,hq.1,hq.2,d1,d2,d3,d4,c0]
     rw [he, hrun]
     refine retR_less (l := [.agg (rEn r.1)]) (H' := H4) ?_ (le_s1 (le_s1 (AHeap.le_refl _) w1) w2) ⟨rfl, hM4⟩
     simp only [resA,go_sem,reduceIte,reduceCtorEq,Nat.reduceEqDiff,Nat.reduceBEq,Nat.reduceAdd,Nat.reduceLeDiff,Nat.reduceMul,Nat.reduceLT,Int.reduceEq,Int.reduceLT,Int.reduceLE,rEn,d1,d2,t8]
theorem c_linesAll {t : List Class} {cl : Bool} {P : List Line} {clp : Bool} (ht : validT t = true) (hp : P.length ≤ 4398046511104) : ∀ n, LinesOk t cl P clp n
 | 0 => fun f i d h s F H bm hn => by omega
 | n + 1 => c_linesStep ht hp (c_linesAll ht hp n)
end
section
open Go Go.Sim
set_option maxRecDepth 100000
set_option maxHeartbeats 4000000

noncomputable def forestP (p : List Line) : Fo := @dite _ (∃ f : Fo, p = f.flat 0) (Classical.propDecidable _) (fun h => h.choose) (fun _ => .nil)
theorem forestP_flat (f : Fo) : forestP (f.flat 0) = f := by
 have h : ∃ g : Fo, f.flat 0 = g.flat 0 := ⟨f, rfl⟩
 unfold forestP
 rw [dif_pos h]
 exact (flat_one h.choose_spec).symm
def rs0 : RS := ⟨[], [], -1⟩
noncomputable def runP (t : List Class) (p : List Line) : En × RS := runF t (forestP p) 0 none (-1) rs0
def resOf (r : En × RS) : Res :=
 if r.1.ed = 2 then ⟨r.2.log, 2, idxF (fun x => decide (r.1.val = x)) (sortI (bfsF r.2.fs r.1.val)), isoL r.2.fs (sortI (bfsF r.2.fs r.1.val))⟩ else ⟨r.2.log, r.1.ed, r.1.val, []⟩
theorem validP_forest {t : List Class} {p : List Line} (h : ValidP t p) : validT t = true ∧ p = (forestP p).flat 0 ∧ numsF t (forestP p) 0 = true ∧ okF (forestP p) false false = true ∧ (forestP p).size = p.length ∧ (forestP p).size ≤ 24 := by
 obtain ⟨h1, h2, f, rfl, h3, h4⟩ := h
 rw [forestP_flat]
 rw [flat_len] at h2
 exact ⟨h1, rfl, h3, h4, (flat_len f 0).symm, h2⟩
theorem runP_goes {t : List Class} {p : List Line} (h : ValidP t p) : Goes t 34992 rs0 (runP t p).1 (runP t p).2 := by
 obtain ⟨h1, h2, h3, h4, h5, h6⟩ := validP_forest h
 exact (goes_run h1 (forestP p) 0 none 0 (-1) rs0 h3 (fsOk_nil t) (by show (-1 : Int) < 0; omega) trivial).le (cost_small h3 h6)
theorem c_mRunProgram (t : List Class) (cl : Bool) (p : List Line) (cl' : Bool) (H : AHeap) (hn : namesOk t) (hp : p.length ≤ 4398046511104) :
  ACalls Tryz.prog 10 [aTree t cl, aProg p cl'] H fun r H' => OwnRes H H' r (if validB t p = true then resOf (runP t p) else res0) := by
 refine acalls_of1 Tryz.func10 rfl (by kernel_rfl) rfl rfl (awp_sound (fz := fun _ => []) (im := fun s => s == 2) mixed _ _ _ _ (by kernel_rfl) ?_)
 simp +contextual -dsimp -implicitDefEqProofs (maxSteps:=5000000) only [go_sem,reduceIte,reduceCtorEq,Nat.reduceEqDiff,Nat.reduceBEq,Nat.reduceAdd,Nat.reduceLeDiff,Nat.reduceMul,Nat.reduceLT,Int.reduceEq,Int.reduceLT,Int.reduceLE]
 intro b4 hb4
 refine (c_ValidProgram t cl p cl' _ hn hp).det ?_
 cases hv : validB t p
 ·simp +contextual -dsimp -implicitDefEqProofs (maxSteps:=5000000) only [go_sem,reduceIte,reduceCtorEq,Nat.reduceEqDiff,Nat.reduceBEq,Nat.reduceAdd,Nat.reduceLeDiff,Nat.reduceMul,Nat.reduceLT,Int.reduceEq,Int.reduceLT,Int.reduceLE]
  refine retR_less (l := [.agg [.vsl [] true, I 0, I 0, .vsl [] true]]) (H' := H) ?_ (le_set hb4) (own0 H)
  simp only [resA,go_sem,reduceIte,reduceCtorEq,Nat.reduceEqDiff,Nat.reduceBEq,Nat.reduceAdd,Nat.reduceLeDiff,Nat.reduceMul,Nat.reduceLT,Int.reduceEq,Int.reduceLT,Int.reduceLE]
 ·have hval := validB_true.1 hv
  obtain ⟨h1, h2, h3, h4, h5, h6⟩ := validP_forest hval
  have hgo := runP_goes hval
  have hgl := hgo.len
  have hat := at_top h2
  have hcs := cost_small h3 h6
  have hlen : ((0 + (forestP p).size : Nat) : Int) = (p.length : Int) := by omega
  simp +contextual -dsimp -implicitDefEqProofs (maxSteps:=5000000) only [go_sem,reduceIte,reduceCtorEq,Nat.reduceEqDiff,Nat.reduceBEq,Nat.reduceAdd,Nat.reduceLeDiff,Nat.reduceMul,Nat.reduceLT,Int.reduceEq,Int.reduceLT,Int.reduceLE]
  refine (c_machineOf t cl _ (p.map rLine) cl').mono ?_
  rintro _ H1 ⟨bm, rfl, hM⟩
  simp +contextual -dsimp -implicitDefEqProofs (maxSteps:=5000000) only [go_sem,reduceIte,reduceCtorEq,Nat.reduceEqDiff,Nat.reduceBEq,Nat.reduceAdd,Nat.reduceLeDiff,Nat.reduceMul,Nat.reduceLT,Int.reduceEq,Int.reduceLT,Int.reduceLE]
  have key := c_linesAll (cl := cl) (P := p) (clp := cl') h1 hp ((forestP p).size + 1) (forestP p) 0 0 (-1) rs0 (H.set b4 ⟨4, 34, [[.vsl [] true, I 0, I 0, .vsl [] true]]⟩) H1 bm (by omega) hat h3 (fsOk_nil t) (by show (-1 : Int) < 0; omega) (by show 0 + _ ≤ _; omega) (by show 0 + _ ≤ _; omega) hM
  rw [hlen, show ((0 : Nat) : Int) = 0 from rfl] at key
  refine key.mono ?_
  rintro _ H2 ⟨rfl, hM2⟩
  have er : runF t (forestP p) 0 none (-1) rs0 = runP t p := rfl
  rw [er] at hM2 ⊢
  generalize runP t p = r at hM2 hgo hgl ⊢
  simp +contextual -dsimp -implicitDefEqProofs (maxSteps:=5000000) only [go_sem,reduceIte,reduceCtorEq,Nat.reduceEqDiff,Nat.reduceBEq,Nat.reduceAdd,Nat.reduceLeDiff,Nat.reduceMul,Nat.reduceLT,Int.reduceEq,Int.reduceLT,Int.reduceLE,rEn]
  refine (c_mresult _ H2 bm _ _ r.2.log r.2.fs r.2.first r.1.ed r.1.val hM2 hgo.ok.ho (by have : (rs0 : RS).fs.length = 0 := rfl; omega) hgo.val).mono ?_
  rintro x H3 hr
  have hr' : OwnRes (H.set b4 ⟨4, 34, [[.vsl [] true, I 0, I 0, .vsl [] true]]⟩) H3 x (resOf r) := by
   obtain ⟨xl, xh, G1, e1, e2, e3⟩ := hr
   refine ⟨xl, xh, G1, ?_, ?_, ?_⟩
   ·rw [e1]; unfold resOf; split
    ·rename_i q; rw [q]
    ·rfl
   ·unfold resOf; split <;> exact e2
   ·unfold resOf; split
    ·rename_i q; rw [if_pos q] at e3; exact e3
    ·rename_i q; rw [if_neg q] at e3; exact e3
  obtain ⟨H4, rfl, hown, hn4⟩ := own_out hr' hb4
  obtain ⟨xl, xh, rfl, o1, o2⟩ := own_row hown
  simp +contextual -dsimp -implicitDefEqProofs (maxSteps:=5000000) only [go_sem,reduceIte,reduceCtorEq,Nat.reduceEqDiff,Nat.reduceBEq,Nat.reduceAdd,Nat.reduceLeDiff,Nat.reduceMul,Nat.reduceLT,Int.reduceEq,Int.reduceLT,Int.reduceLE,o1,o2]
  refine retR_less (l := [.agg [xl, I (resOf r).ed, I (resOf r).val, xh]]) (H' := H4) ?_ (le_set hn4) hown
  simp only [resA,go_sem,reduceIte,reduceCtorEq,Nat.reduceEqDiff,Nat.reduceBEq,Nat.reduceAdd,Nat.reduceLeDiff,Nat.reduceMul,Nat.reduceLT,Int.reduceEq,Int.reduceLT,Int.reduceLE]
end
section
open Go Go.Sim
set_option maxRecDepth 100000

def elseF : Fo → Nat → Option (Nat × Fo)
 | .nil, _ => none
 | .node k _ _ kids rest, i => if followsK k = true then (if k = 9 then some (i, kids) else elseF rest (i + 1 + kids.size)) else none
def lastB : Fo → Nat → Option (Nat × Int × Fo)
 | .nil, _ => none
 | .node k _ _ kids rest, i => if followsK k = true then (match lastB rest (i + 1 + kids.size) with | some x => some x | none => some (i, k, kids)) else none
def catchF (t : List Class) (c : Int) : Fo → Nat → Option (Nat × Fo)
 | .nil, _ => none
 | .node k a _ kids rest, i => if followsK k = true then (if k = 8 ∧ isF t c a = true then some (i, kids) else catchF t c rest (i + 1 + kids.size)) else none
def finR (t : List Class) (f : Fo) (i : Nat) (e : En) (h : Int) (s : RS) : En × RS :=
 match lastB f i with
 | some (q, k, ks) => if k = 10 then (fun l : En × RS => (if l.1.ed = 0 then e else l.1, l.2)) (runF t ks (q + 1) none (if e.ed = 2 then e.val else h) s) else (e, s)
 | none => (e, s)
def midR (t : List Class) (f : Fo) (i : Nat) (e : En) (h : Int) (s : RS) : En × RS :=
 if e.ed = 0 then (match elseF f i with | some (q, ks) => runF t ks (q + 1) none h s | none => (e, s))
 else if e.ed = 2 then (match catchF t (clsOf s e.val) f i with | some (q, ks) => runF t ks (q + 1) none e.val s | none => (e, s))
 else (e, s)
theorem headsK_mem {k : Int} : ∀ {f : Fo}, k ∈ headsK f → followsK k = true
 | .nil, h => by cases h
 | .node k' a b kids rest, h => by
  simp only [headsK] at h
  split at h
  ·rename_i hk
   rcases List.mem_cons.1 h with rfl | h
   ·exact hk
   ·exact headsK_mem h
  ·cases h
theorem tryG_ten {ks : List Int} (hf : ∀ k ∈ ks, followsK k = true) (h : tryG 10 ks = true) : ks = [] := by
 cases ks with
 | nil => rfl
 | cons k ks =>
  simp only [tryG,Bool.and_eq_true,Bool.or_eq_true,decide_eq_true_eq] at h
  omega
theorem chain_empty {t : List Class} {f : Fo} (h : headsK f = []) {i : Nat} {st e : En} {g : Int} {s : RS} : chainR t f i st e g s = (e, s) ∧ lastB f i = none ∧ elseF f i = none ∧ ∀ c, catchF t c f i = none := by
 cases f with
 | nil => exact ⟨rfl, rfl, rfl, fun _ => rfl⟩
 | node k a b kids rest =>
  simp only [headsK] at h
  split at h
  ·cases h
  ·rename_i hk
   simp [chainR, lastB, elseF, catchF, hk]
theorem chain_fin {t : List Class} : ∀ (f : Fo) (i : Nat) (st e : En) (h : Int) (s : RS) (last : Int), tryG last (headsK f) = true → (st.ed ≠ 2 ∨ 8 < last) → (st.ed ≠ 0 ∨ 9 ≤ last) → chainR t f i st e h s = finR t f i e h s
 | .nil, i, st, e, h, s, last, _, _, _ => rfl
 | .node k a b kids rest, i, st, e, h, s, last, hg, c1, c2 => by
  by_cases hk : followsK k = true
  ·have hk' := hk
   simp only [followsK,inR,Bool.and_eq_true,decide_eq_true_eq] at hk'
   simp only [headsK,hk,if_true,tryG,Bool.and_eq_true,Bool.or_eq_true,decide_eq_true_eq] at hg
   obtain ⟨g1, g2⟩ := hg
   by_cases k10 : k = 10
   ·subst k10
    have he := tryG_ten (fun k hk => headsK_mem hk) g2
    simp only [chainR,hk,if_true,show ¬ (10 : Int) = 8 by decide,show ¬ (10 : Int) = 9 by decide,if_false]
    rw [(chain_empty (t := t) he).1]
    have hl : lastB (.node 10 a b kids rest) i = some (i, 10, kids) := by
     simp only [lastB,hk,if_true]; rw [(chain_empty (t := t) (e := e) (st := st) (g := h) (s := s) he).2.1]
    unfold finR
    rw [hl]
    simp
   ·have hrest : chainR t (.node k a b kids rest) i st e h s = chainR t rest (i + 1 + kids.size) st e h s := by
     simp only [chainR,hk,if_true]
     by_cases k8 : k = 8
     ·rw [if_pos k8, if_neg (by omega)]
     ·have k9 : k = 9 := by omega
      rw [if_neg k8, if_pos k9, if_neg (by omega)]
    rw [hrest]
    have hfin : finR t (.node k a b kids rest) i e h s = finR t rest (i + 1 + kids.size) e h s := by
     unfold finR
     simp only [lastB,hk,if_true]
     cases hl : lastB rest (i + 1 + kids.size) with
     | none => simp [k10]
     | some x => rfl
    rw [hfin]
    exact chain_fin rest _ st e h s k g2 (by omega) (by omega)
  ·have he : headsK (.node k a b kids rest) = [] := by simp [headsK, hk]
   have := chain_empty (t := t) (i := i) (st := st) (e := e) (g := h) (s := s) he
   rw [this.1]
   unfold finR
   rw [this.2.1]
theorem finR_skip {t : List Class} {k a b : Int} {kids rest : Fo} {i : Nat} {e : En} {h : Int} {s : RS} (hk : followsK k = true) (k10 : k ≠ 10) : finR t (.node k a b kids rest) i e h s = finR t rest (i + 1 + kids.size) e h s := by
 unfold finR
 simp only [lastB,hk,if_true]
 cases hl : lastB rest (i + 1 + kids.size) with
 | none => simp [k10]
 | some x => rfl
theorem chain_spec {t : List Class} : ∀ (f : Fo) (i : Nat) (e : En) (h : Int) (s : RS) (last : Int), tryG last (headsK f) = true → chainR t f i e e h s = finR t f i (midR t f i e h s).1 h (midR t f i e h s).2
 | .nil, i, e, h, s, last, _ => by
  unfold midR; simp [elseF, catchF, chainR, finR, lastB]
 | .node k a b kids rest, i, e, h, s, last, hg => by
  by_cases hk : followsK k = true
  ·have hk' := hk
   simp only [followsK,inR,Bool.and_eq_true,decide_eq_true_eq] at hk'
   simp only [headsK,hk,if_true,tryG,Bool.and_eq_true,Bool.or_eq_true,decide_eq_true_eq] at hg
   obtain ⟨g1, g2⟩ := hg
   by_cases k8 : k = 8
   ·subst k8
    by_cases hc : e.ed = 2 ∧ isF t (clsOf s e.val) a = true
    ·have hm : midR t (.node 8 a b kids rest) i e h s = runF t kids (i + 1) none e.val s := by
      unfold midR
      rw [if_neg (by omega), if_pos hc.1]
      simp only [catchF,hk,if_true,hc.2,and_self]
     rw [hm, finR_skip hk (by decide)]
     simp only [chainR,hk,if_true,hc,and_self]
     exact chain_fin rest _ ⟨-1, 0⟩ _ h _ 8 g2 (.inl (by show (-1 : Int) ≠ 2; decide)) (.inl (by show (-1 : Int) ≠ 0; decide))
    ·have hm : midR t (.node 8 a b kids rest) i e h s = midR t rest (i + 1 + kids.size) e h s := by
      unfold midR
      by_cases e0 : e.ed = 0
      ·rw [if_pos e0, if_pos e0]
       simp only [elseF,hk,if_true,show ¬ (8 : Int) = 9 by decide,if_false]
      ·rw [if_neg e0, if_neg e0]
       by_cases e2 : e.ed = 2
       ·rw [if_pos e2, if_pos e2]
        have hn : ¬ (isF t (clsOf s e.val) a = true) := fun q => hc ⟨e2, q⟩
        simp only [catchF,hk,if_true,hn,Bool.false_eq_true,and_false,if_false]
       ·rw [if_neg e2, if_neg e2]
     rw [hm, finR_skip hk (by decide)]
     have hr : chainR t (.node 8 a b kids rest) i e e h s = chainR t rest (i + 1 + kids.size) e e h s := by
      simp only [chainR,hk,if_true]; rw [if_neg hc]
     rw [hr]
     exact chain_spec rest _ e h s 8 g2
   ·by_cases k9 : k = 9
    ·subst k9
     by_cases e0 : e.ed = 0
     ·have hm : midR t (.node 9 a b kids rest) i e h s = runF t kids (i + 1) none h s := by
       unfold midR
       rw [if_pos e0]
       simp only [elseF,hk,if_true]
      rw [hm, finR_skip hk (by decide)]
      simp only [chainR,hk,if_true,show ¬ (9 : Int) = 8 by decide,if_false,e0]
      exact chain_fin rest _ e _ h _ 9 g2 (.inl (by omega)) (.inr (by omega))
     ·have hr : chainR t (.node 9 a b kids rest) i e e h s = chainR t rest (i + 1 + kids.size) e e h s := by
       simp only [chainR,hk,if_true,show ¬ (9 : Int) = 8 by decide,if_false]; rw [if_neg e0]
      have hm : midR t (.node 9 a b kids rest) i e h s = midR t rest (i + 1 + kids.size) e h s := by
       unfold midR
       rw [if_neg e0, if_neg e0]
       split
       ·simp only [catchF,hk,if_true,show ¬ (9 : Int) = 8 by decide,false_and,if_false]
       ·rfl
      rw [hm, hr, finR_skip hk (by decide)]
      exact chain_spec rest _ e h s 9 g2
    ·have k10 : k = 10 := by omega
     subst k10
     have he := tryG_ten (fun k hk => headsK_mem hk) g2
     have ce := chain_empty (t := t) (i := i + 1 + kids.size) (st := e) (e := e) (g := h) (s := s) he
     have hm : midR t (.node 10 a b kids rest) i e h s = (e, s) := by
      unfold midR
      simp only [elseF,catchF,hk,if_true,show ¬ (10 : Int) = 9 by decide,show ¬ (10 : Int) = 8 by decide,false_and,if_false,ce.2.2.1,ce.2.2.2]
      split
      ·rfl
      ·split <;> rfl
     rw [hm]
     exact chain_fin (.node 10 a b kids rest) i e e h s 9 (by simp [headsK, hk, tryG, g2]) (.inr (by omega)) (.inr (by omega))
  ·have he : headsK (.node k a b kids rest) = [] := by simp [headsK, hk]
   have ce := chain_empty (t := t) (i := i) (st := e) (e := e) (g := h) (s := s) he
   have hm : midR t (.node k a b kids rest) i e h s = (e, s) := by
    unfold midR
    simp only [ce.2.2.1,ce.2.2.2]
    split
    ·rfl
    ·split <;> rfl
   rw [hm, ce.1]
   unfold finR
   rw [ce.2.1]
theorem lastB_pos : ∀ (f : Fo) (i : Nat) (j : Nat), (j :: chainN f i).getLastD 0 = match lastB f i with | some (q, _, _) => q | none => j
 | .nil, i, j => rfl
 | .node k a b kids rest, i, j => by
  simp only [chainN,lastB]
  split
  ·have := lastB_pos rest (i + 1 + kids.size) i
   rw [List.getLastD_cons] at this
   rw [List.getLastD_cons, List.getLastD_cons, this]
   cases lastB rest (i + 1 + kids.size) <;> rfl
  ·rfl
theorem okF_node {k a b : Int} {kids rest : Fo} {lp m : Bool} (h : okF (.node k a b kids rest) lp m = true) :
  (followsK k = true ∧ m = true ∧ okF kids lp false = true ∧ okF rest lp true = true) ∨
  (followsK k = false ∧ ((k = 7 ∧ tryOkF (headsK rest) = true ∧ okF kids lp false = true ∧ okF rest lp true = true) ∨
   (k ≠ 7 ∧ okF rest lp false = true ∧ (k = 11 → okF kids lp false = true) ∧ (k = 12 → okF kids true false = true) ∧ (k = 5 ∨ k = 6 → lp = true)))) := by
 simp only [okF] at h
 by_cases hf : followsK k = true
 ·rw [if_pos hf] at h
  simp only [Bool.and_eq_true] at h
  exact .inl ⟨hf, h.1, h.2.1, h.2.2⟩
 ·right
  refine ⟨by simpa using hf, ?_⟩
  rw [if_neg hf] at h
  by_cases h56 : k = 5 ∨ k = 6
  ·rw [if_pos h56, Bool.and_eq_true] at h
   exact .inr ⟨by omega, h.2, fun q => by omega, fun q => by omega, fun _ => h.1⟩
  ·rw [if_neg h56] at h
   by_cases h7 : k = 7
   ·rw [if_pos h7] at h
    simp only [Bool.and_eq_true] at h
    exact .inl ⟨h7, h.1, h.2.1, h.2.2⟩
   ·rw [if_neg h7] at h
    by_cases h11 : k = 11
    ·rw [if_pos h11, Bool.and_eq_true] at h
     exact .inr ⟨h7, h.2, fun _ => h.1, fun q => by omega, fun q => absurd q h56⟩
    ·rw [if_neg h11] at h
     by_cases h12 : k = 12
     ·rw [if_pos h12, Bool.and_eq_true] at h
      exact .inr ⟨h7, h.2, fun q => absurd q h11, fun _ => h.1, fun q => absurd q h56⟩
     ·rw [if_neg h12] at h
      exact .inr ⟨h7, h, fun q => absurd q h11, fun q => absurd q h12, fun q => absurd q h56⟩
end
section
open Go Go.Sim
set_option maxRecDepth 100000

def shv (n : Nat) (v : Int) : Int := if 0 ≤ v then v + n else v
def shf (n : Nat) (x : Fault) : Fault := { x with cause := shv n x.cause, ctx := shv n x.ctx }
structure SimP where
 LR : List Int → List Int → Prop
 F : List Fault
 wk : Bool
structure SR (P : SimP) (s s' : RS) : Prop where
 log : P.LR s.log s'.log
 fs : ∃ X, s'.fs = P.F ++ X ∧ (P.wk = true → X.map (·.cls) = s.fs.map (·.cls)) ∧ (P.wk = false → X = s.fs.map (shf P.F.length))
def ER (P : SimP) (e e' : En) : Prop := e'.ed = e.ed ∧ (e.ed = 2 → 0 ≤ e.val ∧ e'.val = e.val + P.F.length) ∧ (e.ed ≠ 2 → e'.val = e.val)
def HR (P : SimP) (h h' : Int) : Prop := (0 ≤ h ∧ h' = h + P.F.length) ∨ (h < 0 ∧ (P.wk = true ∨ h' < 0))
def RR (P : SimP) (r r' : En × RS) : Prop := ER P r.1 r'.1 ∧ SR P r.2 r'.2
section
variable {P : SimP}
theorem SR.len {s s' : RS} (h : SR P s s') : s'.fs.length = P.F.length + s.fs.length := by
 obtain ⟨X, e, h1, h2⟩ := h.fs
 have : X.length = s.fs.length := by
  cases hw : P.wk
  ·rw [h2 hw, List.length_map]
  ·have := congrArg List.length (h1 hw)
   simpa using this
 rw [e, List.length_append, this]
theorem SR.cls {s s' : RS} (h : SR P s s') {v : Int} (hv : 0 ≤ v) : clsOf s' (v + P.F.length) = clsOf s v := by
 obtain ⟨X, e, h1, h2⟩ := h.fs
 have hc : X.map (·.cls) = s.fs.map (·.cls) := by
  cases hw : P.wk
  ·rw [h2 hw, List.map_map]; rfl
  ·exact h1 hw
 have hg : ∀ (l : List Fault) (k : Nat), (l.getD k default).cls = (l.map (·.cls)).getD k (default : Fault).cls := fun l k => by
  simp only [List.getD_eq_getElem?_getD,List.getElem?_map]
  cases l[k]? <;> rfl
 unfold clsOf
 have e2 : (v + (P.F.length : Int)).toNat = P.F.length + v.toNat := by omega
 rw [e, e2]
 have e3 : (P.F ++ X).getD (P.F.length + v.toNat) default = X.getD v.toNat default := by
  simp only [List.getD_eq_getElem?_getD]
  rw [List.getElem?_append_right (by omega), Nat.add_sub_cancel_left]
 rw [e3, hg, hg, hc]
theorem SR.tell {s s' : RS} (h : SR P s s') {n n' : Int} (hl : P.LR s.log s'.log → P.LR (s.log ++ [n]) (s'.log ++ [n'])) : SR P (s.tell n) (s'.tell n') := ⟨hl h.log, h.fs⟩
theorem SR.jump {s s' : RS} (h : SR P s s') (k : Int) (i i' : Nat) : SR P (s.jump k i) (s'.jump k i') := by
 unfold RS.jump
 constructor
 ·split <;> split <;> exact h.log
 ·split <;> split <;> exact h.fs
theorem SR.raise {s s' : RS} (h : SR P s s') (c d : Int) {g g' : Int} (hg : HR P g g') : SR P (s.raise c d g) (s'.raise c d g') := by
 refine ⟨h.log, ?_⟩
 obtain ⟨X, e, h1, h2⟩ := h.fs
 refine ⟨X ++ [⟨c, d, -1, if 0 ≤ g' then g' else -1, false⟩], ?_, fun q => ?_, fun q => ?_⟩
 ·show raiseF s'.fs c d g' = _
  unfold raiseF
  rw [e, List.append_assoc]
 ·show _ = (raiseF s.fs c d g).map (·.cls)
  unfold raiseF
  rw [List.map_append, List.map_append, h1 q]; rfl
 ·show _ = (raiseF s.fs c d g).map (shf P.F.length)
  unfold raiseF
  rw [List.map_append, ← h2 q]
  congr 1
  rcases hg with ⟨g0, rfl⟩ | ⟨g0, g1⟩
  ·have h3 : 0 ≤ g + (P.F.length : Int) := by omega
   simp [shf, shv, g0, h3]
  ·have g2 : g' < 0 := by
    rcases g1 with g1 | g1
    ·rw [q] at g1; cases g1
    ·exact g1
   have n1 : ¬ 0 ≤ g := by omega
   have n2 : ¬ 0 ≤ g' := by omega
   simp [shf, shv, n1, n2]
end
end
section
open Go Go.Sim
set_option maxRecDepth 100000

abbrev behind (L : List Int) (F : List Fault) (wk : Bool) : SimP := ⟨fun l l' => l' = L ++ l, F, wk⟩
end
section
open Go Go.Sim
set_option maxRecDepth 100000
def isoR (fs : List Fault) (v : Int) : Int × List Fault := (idxF (fun x => decide (v = x)) (sortI (bfsF fs v)), isoL fs (sortI (bfsF fs v)))
theorem sort_dch {h : List Fault} (ho : heapOk h) {f : Int} (h0 : 0 ≤ f) (h1 : f < h.length) : sortI (bfsF h f) = (dchF h f).reverse := by
 rw [bfsF_dch ho h0 h1]
 exact sortI_dec (dchG_dec ho (f + 1).toNat f h1).1
section
variable {F h : List Fault}
theorem dch_pre {X : List Fault} (ho : heapOk F) : ∀ (m : Nat) (v : Int), v < F.length → dchG (F ++ X) m v = dchG F m v
 | 0, v, _ => rfl
 | m + 1, v, hv => by
  simp only [dchG]
  split
  ·rename_i h0
   obtain ⟨o1, o2, o3⟩ := ho v.toNat (by omega)
   have e : ctxOf (F ++ X) v = ctxOf F v := by
    unfold ctxOf
    simp only [List.getD_eq_getElem?_getD]
    rw [List.getElem?_append_left (by omega)]
   have e3 : ctxOf F v < F.length := by
    have : ctxOf F v < v.toNat := o3
    omega
   rw [e, dch_pre ho m _ e3]
  ·rfl
end
theorem res_two {r : En × RS} (h : r.1.ed = 2) : resOf r = ⟨r.2.log, 2, (isoR r.2.fs r.1.val).1, (isoR r.2.fs r.1.val).2⟩ := by unfold resOf isoR; rw [if_pos h]
theorem res_else {r : En × RS} (h : r.1.ed ≠ 2) : resOf r = ⟨r.2.log, r.1.ed, r.1.val, []⟩ := by unfold resOf; rw [if_neg h]
theorem res_log (r : En × RS) : (resOf r).log = r.2.log := by unfold resOf; split <;> rfl
theorem res_ed (r : En × RS) : (resOf r).ed = r.1.ed := by
 unfold resOf
 split
 ·rename_i h; rw [h]
 ·rfl
end
section
open Go Go.Sim
set_option maxRecDepth 100000

def enC (c : Clo) : En := if 0 ≤ c.cur then ⟨2, c.cur⟩ else .next
structure RelC (c : Clo) (r : En × RS) : Prop where
 en : r.1 = enC c
 log : r.2.log = c.log
 fs : r.2.fs = c.fs
end
section
open Go Go.Sim
set_option maxRecDepth 100000

def dep (fs : List Fault) (v : Int) : Nat := (dchF fs v).length
theorem dep_neg {fs : List Fault} {v : Int} (h : v < 0) : dep fs v = 0 := by unfold dep; rw [dchF_neg h]; rfl
theorem dep_pre {F X : List Fault} (ho : heapOk F) {v : Int} (h : v < F.length) : dep (F ++ X) v = dep F v := by
 unfold dep dchF
 rw [dch_pre ho _ v h]
theorem dep_new {fs : List Fault} (ho : heapOk fs) {c d g : Int} (hg : g < fs.length) : dep (raiseF fs c d g) fs.length = dep fs g + 1 := by
 have ho' := raiseF_ok (cls := c) (code := d) ho hg
 have hl : (raiseF fs c d g).length = fs.length + 1 := raiseF_len
 have e : ctxOf (raiseF fs c d g) fs.length = if 0 ≤ g then g else -1 := by
  unfold ctxOf raiseF
  simp [List.getD_eq_getElem?_getD]
 unfold dep
 rw [dchF_step ho' (by omega) (by omega), e, List.length_cons]
 by_cases q : 0 ≤ g
 ·rw [if_pos q]
  have := dep_pre (X := [⟨c, d, -1, if 0 ≤ g then g else -1, false⟩]) ho hg
  unfold dep at this
  show (dchF (fs ++ _) g).length + 1 = _
  rw [this]
 ·rw [if_neg q, dchF_neg (by omega), dchF_neg (by omega)]
def DepOk (fs : List Fault) (N : Nat) (e : En) : Prop := e.ed = 2 → dep fs e.val ≤ N
theorem DepOk.up {fs : List Fault} {N M : Nat} {e : En} (h : DepOk fs N e) (hm : N ≤ M) : DepOk fs M e := fun q => Nat.le_trans (h q) hm
theorem Goes.dep {t : List Class} {n : Nat} {s : RS} {e : En} {s' : RS} (h : Goes t n s e s') (ho : heapOk s.fs) {v : Int} (hv : v < s.fs.length) : dep s'.fs v = dep s.fs v := by
 obtain ⟨l, e1, _⟩ := h.fs
 rw [e1]; exact dep_pre ho hv
theorem dep_lineS {s : RS} (ho : heapOk s.fs) {k a b h : Int} {N : Nat} (hh : h < s.fs.length) (hN : dep s.fs h ≤ N) : DepOk (lineS k a b h s).2.fs (N + 1) (lineS k a b h s).1 := by
 unfold lineS
 split
 ·exact fun q => by cases q
 ·split
  ·intro _
   show dep (raiseF s.fs a b h) s.fs.length ≤ N + 1
   rw [dep_new ho hh]; omega
  ·split
   ·split
    ·intro _
     show dep (raiseF s.fs 0 0 (-1)) s.fs.length ≤ N + 1
     rw [dep_new ho (by omega), dep_neg (by omega)]; omega
    ·intro _
     show dep s.fs h ≤ N + 1
     omega
   ·split
    ·exact fun q => by cases q
    ·split
     ·exact fun q => by cases q
     ·split
      ·exact fun q => by cases q
      ·exact fun q => by cases q
theorem dep_run {t : List Class} (ht : validT t = true) : ∀ (f : Fo) (i : Nat) (pd : Option (En × En)) (d h : Int) (s : RS) (N : Nat), numsF t f d = true → FsOk t s.fs → h < s.fs.length → PdOk s pd → dep s.fs h ≤ N → (∀ q, pd = some q → DepOk s.fs N q.1 ∧ DepOk s.fs N q.2) → DepOk (runF t f i pd h s).2.fs (N + f.size) (runF t f i pd h s).1 := by
 intro f
 induction f with
 | nil =>
  intro i pd d h s N _ hs _ _ _ hq
  cases pd with
  | none => exact fun q => by cases q
  | some q =>
   simp only [runF]
   split
   ·exact fun q => by cases q
   ·exact ((hq q rfl).2).up (by omega)
 | node k a b kids rest ihk ihr =>
  intro i pd d h s N hn hs hh hp hN hq
  obtain ⟨n1, n2, n3, n4, n5⟩ := numsF_node hn
  have esz : (Fo.node k a b kids rest).size = 1 + kids.size + rest.size := rfl
  have hline : k ≠ 7 → DepOk ((fun r : En × RS => if r.1.ed = 0 then runF t rest (i + 1 + kids.size) none h r.2 else r) (lineR k a b i h (fun s => runF t kids (i + 1) none h s) s)).2.fs (N + (Fo.node k a b kids rest).size) ((fun r : En × RS => if r.1.ed = 0 then runF t rest (i + 1 + kids.size) none h r.2 else r) (lineR k a b i h (fun s => runF t kids (i + 1) none h s) s)).1 := by
   intro _
   have hg := goes_lineR (i := i) (body := fun s => runF t kids (i + 1) none h s) (n := cost kids) ht hs n1 hh (fun s' hs' hl => goes_run ht kids (i + 1) none (d + 1) h s' n4 hs' (by omega) trivial)
   have h1 : DepOk (lineR k a b i h (fun s => runF t kids (i + 1) none h s) s).2.fs (N + 1 + kids.size) (lineR k a b i h (fun s => runF t kids (i + 1) none h s) s).1 := by
    unfold lineR
    by_cases k11 : k = 11
    ·rw [if_pos k11]
     have h2 := ihk (i + 1) none (d + 1) h (s.tell (100 + a)) N n4 hs hh trivial hN (fun q hq => by cases hq)
     unfold withS
     intro q
     by_cases c : (runF t kids (i + 1) none h (s.tell (100 + a))).1.ed = 2 ∧ b = 1
     ·simp only [c,and_self,if_true] at q; cases q
     ·simp only [c,if_false] at q ⊢
      have := h2 q
      show dep (runF t kids (i + 1) none h (s.tell (100 + a))).2.fs _ ≤ _
      omega
    ·rw [if_neg k11]
     by_cases k12 : k = 12
     ·rw [if_pos k12]
      have key : ∀ (m : Nat) (s' : RS), FsOk t s'.fs → h < s'.fs.length → dep s'.fs h ≤ N → DepOk (loopS (fun s => runF t kids (i + 1) none h s) m s').2.fs (N + 1 + kids.size) (loopS (fun s => runF t kids (i + 1) none h s) m s').1 := by
       intro m
       induction m with
       | zero => intro s' _ _ _; exact fun q => by cases q
       | succ m ih =>
        intro s' hs' hh' hN'
        have g1 := goes_run ht kids (i + 1) none (d + 1) h s' n4 hs' hh' trivial
        have h2 := ihk (i + 1) none (d + 1) h s' N n4 hs' hh' trivial hN' (fun q hq => by cases hq)
        have gl := g1.len
        simp only [loopS]
        split
        ·exact h2.up (by omega)
        ·split
         ·exact fun q => by cases q
         ·exact ih _ g1.ok (by omega) (by rw [g1.dep hs'.ho hh']; exact hN')
      exact key _ s hs hh hN
     ·rw [if_neg k12]
      have e : (s.jump k i).fs = s.fs := by unfold RS.jump; split <;> rfl
      exact (dep_lineS (by rw [e]; exact hs.ho) (by rw [e]; exact hh) (by rw [e]; exact hN)).up (by omega)
   generalize lineR k a b i h (fun s => runF t kids (i + 1) none h s) s = r at h1 hg ⊢
   have gl := hg.len
   show DepOk (if r.1.ed = 0 then _ else r).2.fs _ (if r.1.ed = 0 then _ else r).1
   split
   ·exact (ihr _ none d h r.2 N n5 hg.ok (by omega) trivial (by rw [hg.dep hs.ho hh]; exact hN) (fun q hq => by cases hq)).up (by omega)
   ·exact h1.up (by omega)
  have htry : DepOk ((fun r : En × RS => runF t rest (i + 1 + kids.size) (some (r.1, r.1)) h r.2) (runF t kids (i + 1) none h s)).2.fs (N + (Fo.node k a b kids rest).size) ((fun r : En × RS => runF t rest (i + 1 + kids.size) (some (r.1, r.1)) h r.2) (runF t kids (i + 1) none h s)).1 := by
   have hg := goes_run ht kids (i + 1) none (d + 1) h s n4 hs hh trivial
   have h1 := ihk (i + 1) none (d + 1) h s N n4 hs hh trivial hN (fun q hq => by cases hq)
   generalize runF t kids (i + 1) none h s = r at h1 hg ⊢
   have gl := hg.len
   exact (ihr _ (some (r.1, r.1)) d h r.2 (N + kids.size) n5 hg.ok (by omega) ⟨hg.val, hg.val⟩ (by rw [hg.dep hs.ho hh]; omega) (fun q hq => by cases hq; exact ⟨h1, h1⟩)).up (by omega)
  cases pd with
  | none =>
   simp only [runF]
   split
   ·exact htry
   ·exact hline ‹_›
  | some q =>
   obtain ⟨q1, q2⟩ := hq q rfl
   simp only [runF]
   by_cases hk : followsK k = true
   ·simp only [hk,if_true]
    have pass : DepOk (runF t rest (i + 1 + kids.size) (some q) h s).2.fs (N + (Fo.node k a b kids rest).size) (runF t rest (i + 1 + kids.size) (some q) h s).1 :=
     (ihr _ (some q) d h s N n5 hs hh hp hN (fun q' hq' => by cases hq'; exact ⟨q1, q2⟩)).up (by omega)
    have go : ∀ (g : Int) (st : En) (e : En → En), g < s.fs.length → dep s.fs g ≤ N → (st.ed = 2 → 0 ≤ st.val ∧ st.val < s.fs.length) → DepOk s.fs N st → (∀ x : En, e x = x ∨ e x = q.2) →
      DepOk ((fun r : En × RS => runF t rest (i + 1 + kids.size) (some (st, e r.1)) h r.2) (runF t kids (i + 1) none g s)).2.fs (N + (Fo.node k a b kids rest).size) ((fun r : En × RS => runF t rest (i + 1 + kids.size) (some (st, e r.1)) h r.2) (runF t kids (i + 1) none g s)).1 := by
     intro g st e hg0 hgd hst hsd he
     have hg := goes_run ht kids (i + 1) none (d + 1) g s n4 hs hg0 trivial
     have h1 := ihk (i + 1) none (d + 1) g s N n4 hs hg0 trivial hgd (fun q hq => by cases hq)
     generalize runF t kids (i + 1) none g s = r at h1 hg ⊢
     have gl := hg.len
     have hst2 : DepOk r.2.fs (N + kids.size) st := fun z => by
      have := hst z
      rw [hg.dep hs.ho this.2]; have := hsd z; omega
     have he2 : DepOk r.2.fs (N + kids.size) (e r.1) ∧ ((e r.1).ed = 2 → 0 ≤ (e r.1).val ∧ (e r.1).val < r.2.fs.length) := by
      rcases he r.1 with z | z
      ·rw [z]; exact ⟨h1, hg.val⟩
      ·rw [z]
       refine ⟨fun y => ?_, fun y => ?_⟩
       ·rw [hg.dep hs.ho (hp.2 y).2]; have := q2 y; omega
       ·have := hp.2 y; omega
     exact (ihr _ (some (st, e r.1)) d h r.2 (N + kids.size) n5 hg.ok (by omega) ⟨fun z => by have := hst z; show 0 ≤ st.val ∧ st.val < (r.2.fs.length : Int); omega, he2.2⟩ (by rw [hg.dep hs.ho hh]; omega) (fun q hq => by cases hq; exact ⟨hst2, he2.1⟩)).up (by omega)
    split
    ·split
     ·rename_i hc
      exact go q.1.val ⟨-1, 0⟩ (fun r => r) (hp.1 hc.1).2 (q1 hc.1) (fun z => by cases z) (fun z => by cases z) (fun x => .inl rfl)
     ·exact pass
    ·split
     ·split
      ·exact go h q.1 (fun r => r) hh hN hp.1 q1 (fun x => .inl rfl)
      ·exact pass
     ·refine go _ q.1 (fun r => if r.ed = 0 then q.2 else r) ?_ ?_ hp.1 q1 (fun x => ?_)
      ·split
       ·exact (hp.2 ‹_›).2
       ·exact hh
      ·split
       ·exact q2 ‹_›
       ·exact hN
      ·show (if _ then _ else _) = x ∨ (if _ then _ else _) = q.2
       split
       ·exact .inr rfl
       ·exact .inl rfl
   ·rw [if_neg hk]
    split
    ·split
     ·exact htry
     ·exact hline ‹_›
    ·exact q2.up (by omega)
theorem dep_top {t : List Class} {p : List Line} (h : ValidP t p) (h2 : (runP t p).1.ed = 2) : dep (runP t p).2.fs (runP t p).1.val ≤ 24 := by
 obtain ⟨h1, _, h3, h4, h5, h6⟩ := validP_forest h
 have := dep_run h1 (forestP p) 0 none 0 (-1) rs0 0 h3 (fsOk_nil t) (by show (-1 : Int) < 0; omega) trivial (by rw [dep_neg (by omega)]; omega) (fun q hq => by cases hq) h2
 rw [Nat.zero_add] at this
 exact Nat.le_trans this h6
end
section
open Go Go.Sim
set_option maxRecDepth 100000

theorem c_heapHas (h : List Fault) (cl : Bool) (a : Int) (H : AHeap) : ACalls Tryz.prog 114 [aHeap h cl, I a] H fun r H' => r = B (inR a 0 (h.length - 1)) ∧ H' = H := by
 refine acalls_len1 (by kernel_rfl) (List.mem_cons_self ..) fun hl => ?_
 rw [List.length_map] at hl
 refine acalls_of0 Tryz.func114 rfl (by kernel_rfl) rfl rfl (awp_sound (fz := fun _ => []) (im := fun s => s == 2) mixed _ _ _ _ (by kernel_rfl) ?_)
 simp +contextual -dsimp -implicitDefEqProofs (maxSteps:=5000000) only [go_sem,reduceIte,reduceCtorEq,Nat.reduceEqDiff,Nat.reduceBEq,Nat.reduceAdd,Nat.reduceLeDiff,Nat.reduceMul,Nat.reduceLT,Int.reduceEq,Int.reduceLT,Int.reduceLE]
 rw [w64 (by omega) (by omega)]
 exact (c_within _ _ _ _).det (by simp +contextual -dsimp -implicitDefEqProofs (maxSteps:=5000000) only [go_sem,reduceIte,reduceCtorEq,Nat.reduceEqDiff,Nat.reduceBEq,Nat.reduceAdd,Nat.reduceLeDiff,Nat.reduceMul,Nat.reduceLT,Int.reduceEq,Int.reduceLT,Int.reduceLE])
theorem c_hasFault (h : List Fault) (cl : Bool) (a : Int) (H : AHeap) : ACalls Tryz.prog 161 [aHeap h cl, I a] H fun r H' => r = B (inR a 0 (h.length - 1)) ∧ H' = H := by
 refine acalls_len1 (by kernel_rfl) (List.mem_cons_self ..) fun hl => ?_
 rw [List.length_map] at hl
 refine acalls_of0 Tryz.func161 rfl (by kernel_rfl) rfl rfl (awp_sound (fz := fun _ => []) (im := fun s => s == 2) mixed _ _ _ _ (by kernel_rfl) ?_)
 simp +contextual -dsimp -implicitDefEqProofs (maxSteps:=5000000) only [go_sem,reduceIte,reduceCtorEq,Nat.reduceEqDiff,Nat.reduceBEq,Nat.reduceAdd,Nat.reduceLeDiff,Nat.reduceMul,Nat.reduceLT,Int.reduceEq,Int.reduceLT,Int.reduceLE]
 rw [w64 (by omega) (by omega)]
 exact (c_inRange _ _ _ _).det (by simp +contextual -dsimp -implicitDefEqProofs (maxSteps:=5000000) only [go_sem,reduceIte,reduceCtorEq,Nat.reduceEqDiff,Nat.reduceBEq,Nat.reduceAdd,Nat.reduceLeDiff,Nat.reduceMul,Nat.reduceLT,Int.reduceEq,Int.reduceLT,Int.reduceLE])
def linkF (n : Nat) (f to : Int) : Bool := decide (to = -1) || (inR to 0 (n - 1) && !decide (to = f))
theorem c_link (h : List Fault) (cl : Bool) (f a : Int) (H : AHeap) : ACalls Tryz.prog 156 [I f, I a, .vptr [[.vsl (h.map rFault) cl]] 0 0] H fun r H' => r = B (linkF h.length f a) ∧ H' = H := by
 refine acalls_of0 Tryz.func156 rfl (by kernel_rfl) rfl rfl (awp_sound (fz := fun _ => []) (im := fun _ => false) mixed _ _ _ _ (by kernel_rfl) ?_)
 by_cases h1 : a = -1
 ·simp +contextual -dsimp -implicitDefEqProofs (maxSteps:=5000000) only [go_sem,reduceIte,reduceCtorEq,Nat.reduceEqDiff,Nat.reduceBEq,Nat.reduceAdd,Nat.reduceLeDiff,Nat.reduceMul,Nat.reduceLT,Int.reduceEq,Int.reduceLT,Int.reduceLE,h1,linkF]
 ·simp +contextual -dsimp -implicitDefEqProofs (maxSteps:=5000000) only [go_sem,reduceIte,reduceCtorEq,Nat.reduceEqDiff,Nat.reduceBEq,Nat.reduceAdd,Nat.reduceLeDiff,Nat.reduceMul,Nat.reduceLT,Int.reduceEq,Int.reduceLT,Int.reduceLE,h1]
  refine (c_heapHas h cl a H).det ?_
  cases hI : inR a 0 (h.length - 1)
  ·simp +contextual -dsimp -implicitDefEqProofs (maxSteps:=5000000) only [go_sem,reduceIte,reduceCtorEq,Nat.reduceEqDiff,Nat.reduceBEq,Nat.reduceAdd,Nat.reduceLeDiff,Nat.reduceMul,Nat.reduceLT,Int.reduceEq,Int.reduceLT,Int.reduceLE,h1,linkF,hI]
  ·simp +contextual -dsimp -implicitDefEqProofs (maxSteps:=5000000) only [go_sem,reduceIte,reduceCtorEq,Nat.reduceEqDiff,Nat.reduceBEq,Nat.reduceAdd,Nat.reduceLeDiff,Nat.reduceMul,Nat.reduceLT,Int.reduceEq,Int.reduceLT,Int.reduceLE,h1,linkF,hI]
theorem c_faultsIn1 (h : List Fault) (cl : Bool) (a : Int) (H : AHeap) : ACalls Tryz.prog 113 [I a, .vptr [[.vsl (h.map rFault) cl]] 0 0] H fun r H' => r = B (!inR a 0 (h.length - 1)) ∧ H' = H := by
 refine acalls_of0 Tryz.func113 rfl (by kernel_rfl) rfl rfl (awp_sound (fz := fun _ => []) (im := fun _ => false) mixed _ _ _ _ (by kernel_rfl) ?_)
 simp +contextual -dsimp -implicitDefEqProofs (maxSteps:=5000000) only [go_sem,reduceIte,reduceCtorEq,Nat.reduceEqDiff,Nat.reduceBEq,Nat.reduceAdd,Nat.reduceLeDiff,Nat.reduceMul,Nat.reduceLT,Int.reduceEq,Int.reduceLT,Int.reduceLE]
 refine (c_heapHas h cl a H).det ?_
 simp +contextual -dsimp -implicitDefEqProofs (maxSteps:=5000000) only [go_sem,reduceIte,reduceCtorEq,Nat.reduceEqDiff,Nat.reduceBEq,Nat.reduceAdd,Nat.reduceLeDiff,Nat.reduceMul,Nat.reduceLT,Int.reduceEq,Int.reduceLT,Int.reduceLE]
theorem c_IndexFuncInt (l : List Int) (cl : Bool) (g : FuncId) (caps : List AV) (p : Int → Bool) (H : AHeap)
  (hp : ∀ c, ACalls Tryz.prog g (I c :: caps) H fun r H' => r = B (p c) ∧ H' = H) :
  ACalls Tryz.prog 158 [.vsl (l.map rI) cl, .fn g [] caps] H fun r H' => r = I (idxF p l) ∧ H' = H := by
 refine acalls_len (by kernel_rfl) (List.mem_cons_self ..) fun hl => ?_
 rw [List.length_map] at hl
 refine acalls_of0 Tryz.func158 rfl (by kernel_rfl) rfl rfl (awp_sound (fz := fun _ => []) (im := fun _ => false) mixed _ _ _ _ (by kernel_rfl) ?_)
 simp +contextual -dsimp -implicitDefEqProofs (maxSteps:=5000000) only [go_sem,reduceIte,reduceCtorEq,Nat.reduceEqDiff,Nat.reduceBEq,Nat.reduceAdd,Nat.reduceLeDiff,Nat.reduceMul,Nat.reduceLT,Int.reduceEq,Int.reduceLT,Int.reduceLE]
 refine aloop mixed (fz := fun _ => []) (im := fun _ => false) (by kernel_rfl) (fun m tm H' => ∃ k : Nat, m = l.length - k ∧ k ≤ l.length ∧ H' = H ∧ tm 0 = .vsl (l.map rI) cl ∧ tm 1 = .fn g [] caps ∧ tm 7 = I l.length ∧ tm 8 = I k ∧ (l.take k).any p = false) l.length ⟨0, ?_⟩ ?_
 ·simp +contextual -dsimp -implicitDefEqProofs (maxSteps:=5000000) only [go_sem,reduceIte,reduceCtorEq,Nat.reduceEqDiff,Nat.reduceBEq,Nat.reduceAdd,Nat.reduceLeDiff,Nat.reduceMul,Nat.reduceLT,Int.reduceEq,Int.reduceLT,Int.reduceLE]
  simp
 ·rintro m tm _ ⟨k, rfl, hk, rfl, h0, h1, h7, h8, hn⟩
  simp +contextual -dsimp -implicitDefEqProofs (maxSteps:=5000000) only [go_sem,reduceIte,reduceCtorEq,Nat.reduceEqDiff,Nat.reduceBEq,Nat.reduceAdd,Nat.reduceLeDiff,Nat.reduceMul,Nat.reduceLT,Int.reduceEq,Int.reduceLT,Int.reduceLE,h0,h1,h7,h8]
  refine ⟨fun h => (hp _).det ?_, fun h => ?_⟩
  ·simp +contextual -dsimp -implicitDefEqProofs (maxSteps:=5000000) only [go_sem,reduceIte,reduceCtorEq,Nat.reduceEqDiff,Nat.reduceBEq,Nat.reduceAdd,Nat.reduceLeDiff,Nat.reduceMul,Nat.reduceLT,Int.reduceEq,Int.reduceLT,Int.reduceLE,h0,h1,h7,h8]
   refine ⟨fun hb => ?_, fun hb => ⟨_, ?_, k + 1, rfl, h, I_wrap (by omega) (by omega) (by omega), any_take h hn hb⟩⟩
   ·rw [idxF_at h hn hb]
   ·omega
  ·rw [idxF_none (by omega) hn]
theorem c_ContainsFuncInt (l : List Int) (cl : Bool) (g : FuncId) (caps : List AV) (p : Int → Bool) (H : AHeap)
  (hp : ∀ c, ACalls Tryz.prog g (I c :: caps) H fun r H' => r = B (p c) ∧ H' = H) :
  ACalls Tryz.prog 112 [.vsl (l.map rI) cl, .fn g [] caps] H fun r H' => r = B (l.any p) ∧ H' = H := by
 refine acalls_of0 Tryz.func112 rfl (by kernel_rfl) rfl rfl (awp_sound (fz := fun _ => []) (im := fun _ => false) mixed _ _ _ _ (by kernel_rfl) ?_)
 simp +contextual -dsimp -implicitDefEqProofs (maxSteps:=5000000) only [go_sem,reduceIte,reduceCtorEq,Nat.reduceEqDiff,Nat.reduceBEq,Nat.reduceAdd,Nat.reduceLeDiff,Nat.reduceMul,Nat.reduceLT,Int.reduceEq,Int.reduceLT,Int.reduceLE]
 refine (c_IndexFuncInt l cl g caps p H hp).det ?_
 simp +contextual -dsimp -implicitDefEqProofs (maxSteps:=5000000) only [go_sem,reduceIte,reduceCtorEq,Nat.reduceEqDiff,Nat.reduceBEq,Nat.reduceAdd,Nat.reduceLeDiff,Nat.reduceMul,Nat.reduceLT,Int.reduceEq,Int.reduceLT,Int.reduceLE,idxF_nonneg]
theorem c_validLinks (h : List Fault) (cl : Bool) (f : Nat) (H : AHeap) (hf : f < h.length) : ACalls Tryz.prog 183 [aHeap h cl, I f] H fun r H' => r = B (linkF h.length f (h.getD f default).cause && linkF h.length f (h.getD f default).ctx) ∧ H' = H := by
 refine acalls_len1 (by kernel_rfl) (List.mem_cons_self ..) fun hl => ?_
 rw [List.length_map] at hl
 refine acalls_of0 Tryz.func183 rfl (by kernel_rfl) rfl rfl (awp_sound (fz := fun r => if r = 2 then [6] else []) (im := fun s => s == 2) mixed _ _ _ _ (by kernel_rfl) ?_)
 simp +contextual -dsimp -implicitDefEqProofs (maxSteps:=5000000) only [go_sem,reduceIte,reduceCtorEq,Nat.reduceEqDiff,Nat.reduceBEq,Nat.reduceAdd,Nat.reduceLeDiff,Nat.reduceMul,Nat.reduceLT,Int.reduceEq,Int.reduceLT,Int.reduceLE,hf]
 intro b hb
 have e : ∀ a : Int, linkF h.length f a = (inR a (-1) (h.length - 1) && !decide (a = f)) := by
  intro a
  unfold linkF inR
  rw [Bool.eq_iff_iff]
  simp
  omega
 rw [e, e]
 refine (c_inRange _ _ _ _).det ?_
 rw [w64 (by omega) (by omega)]
 cases h1 : inR (h.getD f default).cause (-1) (h.length - 1)
 ·simp +contextual -dsimp -implicitDefEqProofs (maxSteps:=5000000) only [go_sem,reduceIte,reduceCtorEq,Nat.reduceEqDiff,Nat.reduceBEq,Nat.reduceAdd,Nat.reduceLeDiff,Nat.reduceMul,Nat.reduceLT,Int.reduceEq,Int.reduceLT,Int.reduceLE,hf,h1]
 ·simp +contextual -dsimp -implicitDefEqProofs (maxSteps:=5000000) only [go_sem,reduceIte,reduceCtorEq,Nat.reduceEqDiff,Nat.reduceBEq,Nat.reduceAdd,Nat.reduceLeDiff,Nat.reduceMul,Nat.reduceLT,Int.reduceEq,Int.reduceLT,Int.reduceLE,hf,h1]
  refine (c_inRange _ _ _ _).det ?_
  cases h2 : inR (h.getD f default).ctx (-1) (h.length - 1)
  ·simp +contextual -dsimp -implicitDefEqProofs (maxSteps:=5000000) only [go_sem,reduceIte,reduceCtorEq,Nat.reduceEqDiff,Nat.reduceBEq,Nat.reduceAdd,Nat.reduceLeDiff,Nat.reduceMul,Nat.reduceLT,Int.reduceEq,Int.reduceLT,Int.reduceLE,hf,h2]
  ·simp +contextual -dsimp -implicitDefEqProofs (maxSteps:=5000000) only [go_sem,reduceIte,reduceCtorEq,Nat.reduceEqDiff,Nat.reduceBEq,Nat.reduceAdd,Nat.reduceLeDiff,Nat.reduceMul,Nat.reduceLT,Int.reduceEq,Int.reduceLT,Int.reduceLE,hf,h2]
theorem c_scontexts (h : List Fault) (cl : Bool) (f : Int) (H : AHeap) (hl : h.length ≤ 1000000) (hf : f < h.length) (hc : ∀ k, k < h.length → (h.getD k default).ctx < h.length) :
  ACalls Tryz.prog 184 [aHeap h cl, I f] H fun r H' => Grow rI 1 3 H H' r (chainF h f) := by
 refine acalls_of0 Tryz.func184 rfl (by kernel_rfl) rfl rfl (awp_sound (fz := fun _ => []) (im := fun s => s == 2 || s == 6 || s == 17) mixed _ _ _ _ (by kernel_rfl) ?_)
 simp +contextual -dsimp -implicitDefEqProofs (maxSteps:=5000000) only [go_sem,reduceIte,reduceCtorEq,Nat.reduceEqDiff,Nat.reduceBEq,Nat.reduceAdd,Nat.reduceLeDiff,Nat.reduceMul,Nat.reduceLT,Int.reduceEq,Int.reduceLT,Int.reduceLE]
 refine aloop mixed (fz := fun _ => []) (im := fun s => s == 2 || s == 6 || s == 17) (by kernel_rfl) (fun m tm H' => ∃ (out : List Int) (c : Int), c < h.length ∧ freeN h.length out < m ∧ out.length + m ≤ h.length + 1 ∧ tm 1 = I c ∧ tm 2 = .vptr [[.vsl (h.map rFault) cl]] 0 0 ∧ Grow rI 1 3 H H' (tm 5) out ∧ walkG (ctxOf h) m out c = chainF h f) (h.length + 1) ⟨[], f, hf, ?_, ?_, ?_⟩ ?_
 ·have := freeN_nil h.length; omega
 ·simp
 ·simp +contextual -dsimp -implicitDefEqProofs (maxSteps:=5000000) only [go_sem,reduceIte,reduceCtorEq,Nat.reduceEqDiff,Nat.reduceBEq,Nat.reduceAdd,Nat.reduceLeDiff,Nat.reduceMul,Nat.reduceLT,Int.reduceEq,Int.reduceLT,Int.reduceLE]
  exact ⟨grow_nil, rfl⟩
 ·rintro m tm H' ⟨out, c, hc1, hfr, hlen, h1, h2, hg, he⟩
  have hm : m = (m - 1) + 1 := by omega
  rw [hm, walkG] at he
  have stop : ¬ (0 ≤ c ∧ (out.any fun x => decide (c = x)) = false) → out = chainF h f := fun h => by rw [if_neg h] at he; exact he
  by_cases h0 : 0 ≤ c
  ·simp +contextual -dsimp -implicitDefEqProofs (maxSteps:=5000000) only [go_sem,reduceIte,reduceCtorEq,Nat.reduceEqDiff,Nat.reduceBEq,Nat.reduceAdd,Nat.reduceLeDiff,Nat.reduceMul,Nat.reduceLT,Int.reduceEq,Int.reduceLT,Int.reduceLE,h1,h2,h0]
   refine (c_hasIntG out _ c H H' hg).det ?_
   have hn : c.toNat < h.length := by omega
   cases ha : out.any fun x => decide (c = x)
   ·rw [if_pos ⟨h0, ha⟩] at he
    simp +contextual -dsimp -implicitDefEqProofs (maxSteps:=5000000) only [go_sem,reduceIte,reduceCtorEq,Nat.reduceEqDiff,Nat.reduceBEq,Nat.reduceAdd,Nat.reduceLeDiff,Nat.reduceMul,Nat.reduceLT,Int.reduceEq,Int.reduceLT,Int.reduceLE,h1,h2,h0]
    refine grow_append (m := [c]) te29 ti3 rI_len (by decide) hg (by simp; omega) (by simp; omega) rfl fun x' H'' hg' => ?_
    simp +contextual -dsimp -implicitDefEqProofs (maxSteps:=5000000) only [go_sem,reduceIte,reduceCtorEq,Nat.reduceEqDiff,Nat.reduceBEq,Nat.reduceAdd,Nat.reduceLeDiff,Nat.reduceMul,Nat.reduceLT,Int.reduceEq,Int.reduceLT,Int.reduceLE,h1,h2,h0,hc1,hn]
    exact ⟨m - 1, by omega, out ++ [c], _, hc c.toNat hn, by have := freeN_lt h0 hc1 ha; omega, by simp; omega, rfl, hg', he⟩
   ·simp +contextual -dsimp -implicitDefEqProofs (maxSteps:=5000000) only [go_sem,reduceIte,reduceCtorEq,Nat.reduceEqDiff,Nat.reduceBEq,Nat.reduceAdd,Nat.reduceLeDiff,Nat.reduceMul,Nat.reduceLT,Int.reduceEq,Int.reduceLT,Int.reduceLE,h1,h2,h0]
    rw [← stop (fun q => by rw [ha] at q; cases q.2)]
    exact hg
  ·simp +contextual -dsimp -implicitDefEqProofs (maxSteps:=5000000) only [go_sem,reduceIte,reduceCtorEq,Nat.reduceEqDiff,Nat.reduceBEq,Nat.reduceAdd,Nat.reduceLeDiff,Nat.reduceMul,Nat.reduceLT,Int.reduceEq,Int.reduceLT,Int.reduceLE,h1,h2,h0]
   rw [← stop (fun q => h0 q.1)]
   exact hg
theorem walkG_len (nx : Int → Int) : ∀ (n : Nat) (out : List Int) (f : Int), (walkG nx n out f).length ≤ out.length + n
 | 0, out, f => Nat.le_refl _
 | n + 1, out, f => by
  simp only [walkG]
  split
  ·have := walkG_len nx n (out ++ [f]) (nx f)
   simp at this
   omega
  ·omega
theorem chainF_len (h : List Fault) (f : Int) : (chainF h f).length ≤ h.length + 1 := by
 have := walkG_len (ctxOf h) (h.length + 1) [] f
 simpa [chainF, walkF] using this
theorem chainF_in {h : List Fault} (hc : ∀ k, k < h.length → (h.getD k default).ctx < h.length) {f : Int} (hf : f < h.length) {a : Int} (ha : a ∈ chainF h f) : 0 ≤ a ∧ a < h.length := by
 have := walkG_mem (nx := ctxOf h) (p := fun a => a < h.length) (fun a a0 a1 => hc a.toNat (by omega)) (h.length + 1) [] f hf a ha
 simpa using this
def lastI (l : List Int) : Int := l.getD (l.length - 1) default
theorem lastI_in {h : List Fault} (hc : ∀ k, k < h.length → (h.getD k default).ctx < h.length) {f : Int} (h0 : 0 ≤ f) (hf : f < h.length) : 0 ≤ lastI (chainF h f) ∧ lastI (chainF h f) < h.length := by
 have hne := List.length_pos_iff.2 (chainF_ne (h := h) h0)
 apply chainF_in hc hf
 have : (chainF h f).length - 1 < (chainF h f).length := by omega
 unfold lastI
 rw [List.getD_eq_getElem?_getD, List.getElem?_eq_getElem this]
 exact List.getElem_mem this
def faultOk (t : List Class) (h : List Fault) (k : Nat) : Bool := hasF t (h.getD k default).cls && inR (h.getD k default).code 0 99 && linkF h.length k (h.getD k default).cause && linkF h.length k (h.getD k default).ctx
def lastOk (h : List Fault) (k : Nat) : Bool := decide (ctxOf h (lastI (chainF h k)) = -1)
def validH (t : List Class) (h : List Fault) : Bool := (List.range h.length).all (faultOk t h) && ((List.range h.length).all (lastOk h) && (validT t && decide (h.length ≤ 24)))
theorem faultOk_links {t : List Class} {h : List Fault} (hv : (List.range h.length).all (faultOk t h) = true) : ∀ k, k < h.length → -1 ≤ (h.getD k default).ctx ∧ (h.getD k default).ctx < h.length ∧ -1 ≤ (h.getD k default).cause ∧ (h.getD k default).cause < h.length := by
 intro k hk
 rw [List.all_eq_true] at hv
 have := hv k (by simp [hk])
 simp only [faultOk,linkF,inR,Bool.and_eq_true,Bool.or_eq_true,decide_eq_true_eq,Bool.not_eq_true'] at this
 omega
theorem range_next {p : Nat → Bool} {k : Nat} (h : (List.range k).all p = true) (e : p k = true) : (List.range (k + 1)).all p = true := by
 rw [List.range_succ, List.all_append, h]; simp [e]
theorem range_bad {p : Nat → Bool} {k n : Nat} (h : k < n) (e : p k = false) : (List.range n).all p = false := by
 rw [List.all_eq_false]; exact ⟨k, by simp [h], by simp [e]⟩
theorem c_ValidHeap (t : List Class) (cl : Bool) (h : List Fault) (cl' : Bool) (H : AHeap) (hn : namesOk t) (hl : h.length ≤ 1000000) : ACalls Tryz.prog 111 [aTree t cl, aHeap h cl'] H fun r H' => r = B (validH t h) ∧ H' = H := by
 refine acalls_of0 Tryz.func111 rfl (by kernel_rfl) rfl rfl (awp_sound (fz := fun r => if r = 4 then [7] else []) (im := fun s => s == 2 || s == 3) mixed _ _ _ _ (by kernel_rfl) ?_)
 simp +contextual -dsimp -implicitDefEqProofs (maxSteps:=5000000) only [go_sem,reduceIte,reduceCtorEq,Nat.reduceEqDiff,Nat.reduceBEq,Nat.reduceAdd,Nat.reduceLeDiff,Nat.reduceMul,Nat.reduceLT,Int.reduceEq,Int.reduceLT,Int.reduceLE]
 refine aloop mixed (fz := fun r => if r = 4 then [7] else []) (im := fun s => s == 2 || s == 3) (by kernel_rfl) (fun m tm H' => ∃ k : Nat, m = h.length - k ∧ k ≤ h.length ∧ H' = H ∧ tm 2 = .vptr [[.vsl (t.map rClass) cl]] 0 0 ∧ tm 3 = .vptr [[.vsl (h.map rFault) cl']] 0 0 ∧ tm 5 = .fn 156 [] [.vptr [[.vsl (h.map rFault) cl']] 0 0] ∧ tm 12 = .vsl (h.map rFault) cl' ∧ tm 13 = I h.length ∧ tm 14 = I k ∧ (List.range k).all (faultOk t h) = true) h.length ⟨0, by omega, by omega, rfl, ?_⟩ ?_
 ·simp +contextual -dsimp -implicitDefEqProofs (maxSteps:=5000000) only [go_sem,reduceIte,reduceCtorEq,Nat.reduceEqDiff,Nat.reduceBEq,Nat.reduceAdd,Nat.reduceLeDiff,Nat.reduceMul,Nat.reduceLT,Int.reduceEq,Int.reduceLT,Int.reduceLE]
  rfl
 ·rintro m tm H ⟨k, rfl, hk, rfl, h2, h3, h5, h12, h13, h14, hv⟩
  by_cases hlt : k < h.length
  ·have bad : faultOk t h k = false → validH t h = false := fun e => by unfold validH; rw [range_bad hlt e]; rfl
   unfold faultOk at bad
   simp +contextual -dsimp -implicitDefEqProofs (maxSteps:=5000000) only [go_sem,reduceIte,reduceCtorEq,Nat.reduceEqDiff,Nat.reduceBEq,Nat.reduceAdd,Nat.reduceLeDiff,Nat.reduceMul,Nat.reduceLT,Int.reduceEq,Int.reduceLT,Int.reduceLE,h2,h3,h5,h12,h13,h14,hlt]
   intro b hb
   refine (c_has t cl _ _).det ?_
   cases e1 : hasF t (h.getD k default).cls
   ·simp +contextual -dsimp -implicitDefEqProofs (maxSteps:=5000000) only [go_sem,reduceIte,reduceCtorEq,Nat.reduceEqDiff,Nat.reduceBEq,Nat.reduceAdd,Nat.reduceLeDiff,Nat.reduceMul,Nat.reduceLT,Int.reduceEq,Int.reduceLT,Int.reduceLE,h2,h3,h5,h12,h13,h14,hlt]
    rw [bad (by simp only [e1,Bool.false_and])]
   ·simp +contextual -dsimp -implicitDefEqProofs (maxSteps:=5000000) only [go_sem,reduceIte,reduceCtorEq,Nat.reduceEqDiff,Nat.reduceBEq,Nat.reduceAdd,Nat.reduceLeDiff,Nat.reduceMul,Nat.reduceLT,Int.reduceEq,Int.reduceLT,Int.reduceLE,h2,h3,h5,h12,h13,h14,hlt]
    refine (c_codeOk _ _).det ?_
    cases e2 : inR (h.getD k default).code 0 99
    ·simp +contextual -dsimp -implicitDefEqProofs (maxSteps:=5000000) only [go_sem,reduceIte,reduceCtorEq,Nat.reduceEqDiff,Nat.reduceBEq,Nat.reduceAdd,Nat.reduceLeDiff,Nat.reduceMul,Nat.reduceLT,Int.reduceEq,Int.reduceLT,Int.reduceLE,h2,h3,h5,h12,h13,h14,hlt]
     rw [bad (by simp only [e1,e2,Bool.false_and,Bool.and_false])]
    ·simp +contextual -dsimp -implicitDefEqProofs (maxSteps:=5000000) only [go_sem,reduceIte,reduceCtorEq,Nat.reduceEqDiff,Nat.reduceBEq,Nat.reduceAdd,Nat.reduceLeDiff,Nat.reduceMul,Nat.reduceLT,Int.reduceEq,Int.reduceLT,Int.reduceLE,h2,h3,h5,h12,h13,h14,hlt]
     refine (c_link h cl' _ _ _).det ?_
     cases e3 : linkF h.length k (h.getD k default).cause
     ·simp +contextual -dsimp -implicitDefEqProofs (maxSteps:=5000000) only [go_sem,reduceIte,reduceCtorEq,Nat.reduceEqDiff,Nat.reduceBEq,Nat.reduceAdd,Nat.reduceLeDiff,Nat.reduceMul,Nat.reduceLT,Int.reduceEq,Int.reduceLT,Int.reduceLE,h2,h3,h5,h12,h13,h14,hlt]
      rw [bad (by simp only [e1,e2,e3,Bool.false_and,Bool.and_false])]
     ·simp +contextual -dsimp -implicitDefEqProofs (maxSteps:=5000000) only [go_sem,reduceIte,reduceCtorEq,Nat.reduceEqDiff,Nat.reduceBEq,Nat.reduceAdd,Nat.reduceLeDiff,Nat.reduceMul,Nat.reduceLT,Int.reduceEq,Int.reduceLT,Int.reduceLE,h2,h3,h5,h12,h13,h14,hlt]
      refine (c_link h cl' _ _ _).det ?_
      cases e4 : linkF h.length k (h.getD k default).ctx
      ·simp +contextual -dsimp -implicitDefEqProofs (maxSteps:=5000000) only [go_sem,reduceIte,reduceCtorEq,Nat.reduceEqDiff,Nat.reduceBEq,Nat.reduceAdd,Nat.reduceLeDiff,Nat.reduceMul,Nat.reduceLT,Int.reduceEq,Int.reduceLT,Int.reduceLE,h2,h3,h5,h12,h13,h14,hlt]
       rw [bad (by simp only [e4,Bool.and_false])]
      ·simp +contextual -dsimp -implicitDefEqProofs (maxSteps:=5000000) only [go_sem,reduceIte,reduceCtorEq,Nat.reduceEqDiff,Nat.reduceBEq,Nat.reduceAdd,Nat.reduceLeDiff,Nat.reduceMul,Nat.reduceLT,Int.reduceEq,Int.reduceLT,Int.reduceLE,h2,h3,h5,h12,h13,h14,hlt]
       exact ⟨_, by omega, k + 1, rfl, hlt, I_wrap (by omega) (by omega) (by omega), range_next hv (by simp only [faultOk,e1,e2,e3,e4,Bool.and_self])⟩
  ·simp +contextual -dsimp -implicitDefEqProofs (maxSteps:=5000000) only [go_sem,reduceIte,reduceCtorEq,Nat.reduceEqDiff,Nat.reduceBEq,Nat.reduceAdd,Nat.reduceLeDiff,Nat.reduceMul,Nat.reduceLT,Int.reduceEq,Int.reduceLT,Int.reduceLE,h2,h3,h5,h12,h13,h14,hlt]
   have hkl : k = h.length := by omega
   subst hkl
   have hlk := faultOk_links hv
   refine aloop mixed (fz := fun r => if r = 4 then [7] else []) (im := fun s => s == 2 || s == 3) (by kernel_rfl) (fun m tm H' => ∃ k : Nat, m = h.length - k ∧ k ≤ h.length ∧ H' = H ∧ tm 2 = .vptr [[.vsl (t.map rClass) cl]] 0 0 ∧ tm 3 = .vptr [[.vsl (h.map rFault) cl']] 0 0 ∧ tm 49 = I h.length ∧ tm 50 = I k ∧ (List.range k).all (lastOk h) = true) h.length ⟨0, by omega, by omega, rfl, ?_⟩ ?_
   ·simp +contextual -dsimp -implicitDefEqProofs (maxSteps:=5000000) only [go_sem,reduceIte,reduceCtorEq,Nat.reduceEqDiff,Nat.reduceBEq,Nat.reduceAdd,Nat.reduceLeDiff,Nat.reduceMul,Nat.reduceLT,Int.reduceEq,Int.reduceLT,Int.reduceLE,h2,h3]
    rfl
   ·rintro m tm H ⟨k, rfl, hk, rfl, g2, g3, g49, g50, hw⟩
    by_cases hlt : k < h.length
    ·simp +contextual -dsimp -implicitDefEqProofs (maxSteps:=5000000) only [go_sem,reduceIte,reduceCtorEq,Nat.reduceEqDiff,Nat.reduceBEq,Nat.reduceAdd,Nat.reduceLeDiff,Nat.reduceMul,Nat.reduceLT,Int.reduceEq,Int.reduceLT,Int.reduceLE,g2,g3,g49,g50,hlt]
     refine acalls_frz (c_contexts h cl' k H hl (by omega) (fun k hk => (hlk k hk).2.1)) fun cl1 => ?_
     simp +contextual -dsimp -implicitDefEqProofs (maxSteps:=5000000) only [go_sem,reduceIte,reduceCtorEq,Nat.reduceEqDiff,Nat.reduceBEq,Nat.reduceAdd,Nat.reduceLeDiff,Nat.reduceMul,Nat.reduceLT,Int.reduceEq,Int.reduceLT,Int.reduceLE,g2,g3,g49,g50,hlt]
     have c1 := List.length_pos_iff.2 (chainF_ne (h := h) (g := k) (by omega))
     have c2 := chainF_len h k
     have c3 := lastI_in (fun k hk => (hlk k hk).2.1) (f := k) (by omega) (by omega)
     have hw1 : IntKind.i64.wrap (((chainF h k).length : Int) - 1) = (((chainF h k).length - 1 : Nat) : Int) := by
      have := I_wrap (a := ((chainF h k).length : Int) - 1) (b := (((chainF h k).length - 1 : Nat) : Int)) (by omega) (by omega) (by omega)
      injection this with q
      injection q
     have c4 : (chainF h k).length - 1 < (chainF h k).length := by omega
     refine draw_intro [0, 0, 0, 0, 0, 0, 0, 0, 0, 0, 0, 0] AHeap.none (by kernel_rfl) none_le ?_
     simp +contextual -dsimp -implicitDefEqProofs (maxSteps:=5000000) only [go_sem,reduceIte,reduceCtorEq,Nat.reduceEqDiff,Nat.reduceBEq,Nat.reduceAdd,Nat.reduceLeDiff,Nat.reduceMul,Nat.reduceLT,Int.reduceEq,Int.reduceLT,Int.reduceLE,g2,g3,g49,g50,hlt,hw1,c1,c4,c3]
     have bad : lastOk h k = false → validH t h = false := fun e => by simp [validH, range_bad hlt e]
     unfold lastOk ctxOf lastI at bad
     unfold lastI at c3
     exact ⟨⟨c3.1, c3.2⟩, by omega, fun hne => by rw [bad (decide_eq_false hne)], fun he => ⟨_, by omega, k + 1, rfl, hlt, I_wrap (by omega) (by omega) (by omega), range_next hw (decide_eq_true he)⟩⟩
    ·simp +contextual -dsimp -implicitDefEqProofs (maxSteps:=5000000) only [go_sem,reduceIte,reduceCtorEq,Nat.reduceEqDiff,Nat.reduceBEq,Nat.reduceAdd,Nat.reduceLeDiff,Nat.reduceMul,Nat.reduceLT,Int.reduceEq,Int.reduceLT,Int.reduceLE,g2,g3,g49,g50,hlt]
     have hkl : k = h.length := by omega
     subst hkl
     refine (c_ValidTree t cl _ hn).det ?_
     cases e1 : validT t
     ·simp +contextual -dsimp -implicitDefEqProofs (maxSteps:=5000000) only [go_sem,reduceIte,reduceCtorEq,Nat.reduceEqDiff,Nat.reduceBEq,Nat.reduceAdd,Nat.reduceLeDiff,Nat.reduceMul,Nat.reduceLT,Int.reduceEq,Int.reduceLT,Int.reduceLE,g2,g3]
      simp [validH, e1]
     ·simp +contextual -dsimp -implicitDefEqProofs (maxSteps:=5000000) only [go_sem,reduceIte,reduceCtorEq,Nat.reduceEqDiff,Nat.reduceBEq,Nat.reduceAdd,Nat.reduceLeDiff,Nat.reduceMul,Nat.reduceLT,Int.reduceEq,Int.reduceLT,Int.reduceLE,g2,g3]
      simp only [validH,hv,hw,e1,Bool.true_and]
      exact congrArg B (decide_eq_decide.2 (by omega))
theorem c_validHeap (t : List Class) (cl : Bool) (h : List Fault) (cl' : Bool) (H : AHeap) (hn : namesOk t) (hl : h.length ≤ 1000000) : ACalls Tryz.prog 160 [aTree t cl, aHeap h cl'] H fun r H' => r = B (validH t h) ∧ H' = H := by
 refine acalls_of0 Tryz.func160 rfl (by kernel_rfl) rfl rfl (awp_sound (fz := fun r => if r = 4 then [6] else []) (im := fun s => s == 2 || s == 3) mixed _ _ _ _ (by kernel_rfl) ?_)
 simp +contextual -dsimp -implicitDefEqProofs (maxSteps:=5000000) only [go_sem,reduceIte,reduceCtorEq,Nat.reduceEqDiff,Nat.reduceBEq,Nat.reduceAdd,Nat.reduceLeDiff,Nat.reduceMul,Nat.reduceLT,Int.reduceEq,Int.reduceLT,Int.reduceLE]
 refine aloop mixed (fz := fun r => if r = 4 then [6] else []) (im := fun s => s == 2 || s == 3) (by kernel_rfl) (fun m tm H' => ∃ k : Nat, m = h.length - k ∧ k ≤ h.length ∧ H' = H ∧ tm 2 = .vptr [[.vsl (t.map rClass) cl]] 0 0 ∧ tm 3 = .vptr [[.vsl (h.map rFault) cl']] 0 0 ∧ tm 5 = I k ∧ (List.range k).all (faultOk t h) = true) h.length ⟨0, by omega, by omega, rfl, ?_⟩ ?_
 ·simp +contextual -dsimp -implicitDefEqProofs (maxSteps:=5000000) only [go_sem,reduceIte,reduceCtorEq,Nat.reduceEqDiff,Nat.reduceBEq,Nat.reduceAdd,Nat.reduceLeDiff,Nat.reduceMul,Nat.reduceLT,Int.reduceEq,Int.reduceLT,Int.reduceLE]
  rfl
 ·rintro m tm H ⟨k, rfl, hk, rfl, h2, h3, h5, hv⟩
  by_cases hlt : k < h.length
  ·have bad : faultOk t h k = false → validH t h = false := fun e => by unfold validH; rw [range_bad hlt e]; rfl
   unfold faultOk at bad
   simp +contextual -dsimp -implicitDefEqProofs (maxSteps:=5000000) only [go_sem,reduceIte,reduceCtorEq,Nat.reduceEqDiff,Nat.reduceBEq,Nat.reduceAdd,Nat.reduceLeDiff,Nat.reduceMul,Nat.reduceLT,Int.reduceEq,Int.reduceLT,Int.reduceLE,h2,h3,h5,hlt]
   intro b hb
   refine (c_hasClass t cl _ _).det ?_
   cases e1 : hasF t (h.getD k default).cls
   ·simp +contextual -dsimp -implicitDefEqProofs (maxSteps:=5000000) only [go_sem,reduceIte,reduceCtorEq,Nat.reduceEqDiff,Nat.reduceBEq,Nat.reduceAdd,Nat.reduceLeDiff,Nat.reduceMul,Nat.reduceLT,Int.reduceEq,Int.reduceLT,Int.reduceLE,h2,h3,h5,hlt]
    rw [bad (by simp only [e1,Bool.false_and])]
   ·simp +contextual -dsimp -implicitDefEqProofs (maxSteps:=5000000) only [go_sem,reduceIte,reduceCtorEq,Nat.reduceEqDiff,Nat.reduceBEq,Nat.reduceAdd,Nat.reduceLeDiff,Nat.reduceMul,Nat.reduceLT,Int.reduceEq,Int.reduceLT,Int.reduceLE,h2,h3,h5,hlt]
    refine (c_inRange _ _ _ _).det ?_
    cases e2 : inR (h.getD k default).code 0 99
    ·simp +contextual -dsimp -implicitDefEqProofs (maxSteps:=5000000) only [go_sem,reduceIte,reduceCtorEq,Nat.reduceEqDiff,Nat.reduceBEq,Nat.reduceAdd,Nat.reduceLeDiff,Nat.reduceMul,Nat.reduceLT,Int.reduceEq,Int.reduceLT,Int.reduceLE,h2,h3,h5,hlt]
     rw [bad (by simp only [e1,e2,Bool.false_and,Bool.and_false])]
    ·simp +contextual -dsimp -implicitDefEqProofs (maxSteps:=5000000) only [go_sem,reduceIte,reduceCtorEq,Nat.reduceEqDiff,Nat.reduceBEq,Nat.reduceAdd,Nat.reduceLeDiff,Nat.reduceMul,Nat.reduceLT,Int.reduceEq,Int.reduceLT,Int.reduceLE,h2,h3,h5,hlt]
     refine (c_validLinks h cl' k _ hlt).det ?_
     cases e3 : linkF h.length k (h.getD k default).cause && linkF h.length k (h.getD k default).ctx
     ·simp +contextual -dsimp -implicitDefEqProofs (maxSteps:=5000000) only [go_sem,reduceIte,reduceCtorEq,Nat.reduceEqDiff,Nat.reduceBEq,Nat.reduceAdd,Nat.reduceLeDiff,Nat.reduceMul,Nat.reduceLT,Int.reduceEq,Int.reduceLT,Int.reduceLE,h2,h3,h5,hlt]
      rw [bad (by rw [Bool.and_assoc, e3, Bool.and_false])]
     ·simp +contextual -dsimp -implicitDefEqProofs (maxSteps:=5000000) only [go_sem,reduceIte,reduceCtorEq,Nat.reduceEqDiff,Nat.reduceBEq,Nat.reduceAdd,Nat.reduceLeDiff,Nat.reduceMul,Nat.reduceLT,Int.reduceEq,Int.reduceLT,Int.reduceLE,h2,h3,h5,hlt]
      exact ⟨_, by omega, k + 1, rfl, hlt, I_wrap (by omega) (by omega) (by omega), range_next hv (by simp only [faultOk]; rw [Bool.and_assoc,e3,e1,e2]; rfl)⟩
  ·simp +contextual -dsimp -implicitDefEqProofs (maxSteps:=5000000) only [go_sem,reduceIte,reduceCtorEq,Nat.reduceEqDiff,Nat.reduceBEq,Nat.reduceAdd,Nat.reduceLeDiff,Nat.reduceMul,Nat.reduceLT,Int.reduceEq,Int.reduceLT,Int.reduceLE,h2,h3,h5,hlt]
   have hkl : k = h.length := by omega
   subst hkl
   have hlk := faultOk_links hv
   refine aloop mixed (fz := fun r => if r = 4 then [6] else []) (im := fun s => s == 2 || s == 3) (by kernel_rfl) (fun m tm H' => ∃ k : Nat, m = h.length - k ∧ k ≤ h.length ∧ H' = H ∧ tm 2 = .vptr [[.vsl (t.map rClass) cl]] 0 0 ∧ tm 3 = .vptr [[.vsl (h.map rFault) cl']] 0 0 ∧ tm 7 = I k ∧ (List.range k).all (lastOk h) = true) h.length ⟨0, by omega, by omega, rfl, ?_⟩ ?_
   ·simp +contextual -dsimp -implicitDefEqProofs (maxSteps:=5000000) only [go_sem,reduceIte,reduceCtorEq,Nat.reduceEqDiff,Nat.reduceBEq,Nat.reduceAdd,Nat.reduceLeDiff,Nat.reduceMul,Nat.reduceLT,Int.reduceEq,Int.reduceLT,Int.reduceLE,h2,h3]
    rfl
   ·rintro m tm H ⟨k, rfl, hk, rfl, g2, g3, g7, hw⟩
    by_cases hlt : k < h.length
    ·simp +contextual -dsimp -implicitDefEqProofs (maxSteps:=5000000) only [go_sem,reduceIte,reduceCtorEq,Nat.reduceEqDiff,Nat.reduceBEq,Nat.reduceAdd,Nat.reduceLeDiff,Nat.reduceMul,Nat.reduceLT,Int.reduceEq,Int.reduceLT,Int.reduceLE,g2,g3,g7,hlt]
     refine acalls_frz (c_scontexts h cl' k H hl (by omega) (fun k hk => (hlk k hk).2.1)) fun cl1 => ?_
     simp +contextual -dsimp -implicitDefEqProofs (maxSteps:=5000000) only [go_sem,reduceIte,reduceCtorEq,Nat.reduceEqDiff,Nat.reduceBEq,Nat.reduceAdd,Nat.reduceLeDiff,Nat.reduceMul,Nat.reduceLT,Int.reduceEq,Int.reduceLT,Int.reduceLE,g2,g3,g7,hlt]
     have c1 := List.length_pos_iff.2 (chainF_ne (h := h) (g := k) (by omega))
     have c2 := chainF_len h k
     have c3 := lastI_in (fun k hk => (hlk k hk).2.1) (f := k) (by omega) (by omega)
     have hw1 : IntKind.i64.wrap (((chainF h k).length : Int) - 1) = (((chainF h k).length - 1 : Nat) : Int) := by
      have := I_wrap (a := ((chainF h k).length : Int) - 1) (b := (((chainF h k).length - 1 : Nat) : Int)) (by omega) (by omega) (by omega)
      injection this with q
      injection q
     have c4 : (chainF h k).length - 1 < (chainF h k).length := by omega
     refine draw_intro [0, 0, 0, 0, 0, 0, 0, 0, 0, 0, 0, 0] AHeap.none (by kernel_rfl) none_le ?_
     simp +contextual -dsimp -implicitDefEqProofs (maxSteps:=5000000) only [go_sem,reduceIte,reduceCtorEq,Nat.reduceEqDiff,Nat.reduceBEq,Nat.reduceAdd,Nat.reduceLeDiff,Nat.reduceMul,Nat.reduceLT,Int.reduceEq,Int.reduceLT,Int.reduceLE,g2,g3,g7,hlt,hw1,c1,c4,c3]
     have bad : lastOk h k = false → validH t h = false := fun e => by simp [validH, range_bad hlt e]
     unfold lastOk ctxOf lastI at bad
     unfold lastI at c3
     have c5 := (hlk ((chainF h k).getD ((chainF h k).length - 1) default).toNat (by omega)).1
     exact ⟨⟨c3.1, c3.2⟩, by omega, fun hne => by rw [bad (decide_eq_false (by omega))], fun he => ⟨_, by omega, k + 1, rfl, hlt, I_wrap (by omega) (by omega) (by omega), range_next hw (decide_eq_true (by show (h.getD _ default).ctx = -1; unfold lastI; omega))⟩⟩
    ·simp +contextual -dsimp -implicitDefEqProofs (maxSteps:=5000000) only [go_sem,reduceIte,reduceCtorEq,Nat.reduceEqDiff,Nat.reduceBEq,Nat.reduceAdd,Nat.reduceLeDiff,Nat.reduceMul,Nat.reduceLT,Int.reduceEq,Int.reduceLT,Int.reduceLE,g2,g3,g7,hlt]
     have hkl : k = h.length := by omega
     subst hkl
     refine (c_validTree t cl _ hn).det ?_
     cases e1 : validT t
     ·simp +contextual -dsimp -implicitDefEqProofs (maxSteps:=5000000) only [go_sem,reduceIte,reduceCtorEq,Nat.reduceEqDiff,Nat.reduceBEq,Nat.reduceAdd,Nat.reduceLeDiff,Nat.reduceMul,Nat.reduceLT,Int.reduceEq,Int.reduceLT,Int.reduceLE,g2,g3]
      simp [validH, e1]
     ·simp +contextual -dsimp -implicitDefEqProofs (maxSteps:=5000000) only [go_sem,reduceIte,reduceCtorEq,Nat.reduceEqDiff,Nat.reduceBEq,Nat.reduceAdd,Nat.reduceLeDiff,Nat.reduceMul,Nat.reduceLT,Int.reduceEq,Int.reduceLT,Int.reduceLE,g2,g3]
      simp only [validH,hv,hw,e1,Bool.true_and]
      exact congrArg B (decide_eq_decide.2 (by omega))
theorem c_faultsIn (t : List Class) (cl : Bool) (h : List Fault) (cl' : Bool) (l : List Int) (cl2 : Bool) (H : AHeap) (hn : namesOk t) (hl : h.length ≤ 1000000) : ACalls Tryz.prog 65 [aTree t cl, aHeap h cl', .vsl (l.map rI) cl2] H fun r H' => r = B (validH t h && l.all fun f => inR f 0 (h.length - 1)) ∧ H' = H := by
 refine acalls_of0 Tryz.func65 rfl (by kernel_rfl) rfl rfl (awp_sound (fz := fun _ => []) (im := fun s => s == 3 || s == 4) mixed _ _ _ _ (by kernel_rfl) ?_)
 simp +contextual -dsimp -implicitDefEqProofs (maxSteps:=5000000) only [go_sem,reduceIte,reduceCtorEq,Nat.reduceEqDiff,Nat.reduceBEq,Nat.reduceAdd,Nat.reduceLeDiff,Nat.reduceMul,Nat.reduceLT,Int.reduceEq,Int.reduceLT,Int.reduceLE]
 refine (c_ValidHeap t cl h cl' _ hn hl).det ?_
 cases e1 : validH t h
 ·simp +contextual -dsimp -implicitDefEqProofs (maxSteps:=5000000) only [go_sem,reduceIte,reduceCtorEq,Nat.reduceEqDiff,Nat.reduceBEq,Nat.reduceAdd,Nat.reduceLeDiff,Nat.reduceMul,Nat.reduceLT,Int.reduceEq,Int.reduceLT,Int.reduceLE]
 ·simp +contextual -dsimp -implicitDefEqProofs (maxSteps:=5000000) only [go_sem,reduceIte,reduceCtorEq,Nat.reduceEqDiff,Nat.reduceBEq,Nat.reduceAdd,Nat.reduceLeDiff,Nat.reduceMul,Nat.reduceLT,Int.reduceEq,Int.reduceLT,Int.reduceLE]
  refine (c_ContainsFuncInt l cl2 _ _ (fun f => !inR f 0 (h.length - 1)) _ (fun c => c_faultsIn1 h cl' c _)).det ?_
  simp +contextual -dsimp -implicitDefEqProofs (maxSteps:=5000000) only [go_sem,reduceIte,reduceCtorEq,Nat.reduceEqDiff,Nat.reduceBEq,Nat.reduceAdd,Nat.reduceLeDiff,Nat.reduceMul,Nat.reduceLT,Int.reduceEq,Int.reduceLT,Int.reduceLE]
  congr 1
  rw [Bool.eq_iff_iff]
  simp
theorem c_goodFault (t : List Class) (cl : Bool) (h : List Fault) (cl' : Bool) (f : Int) (H : AHeap) (hn : namesOk t) (hl : h.length ≤ 1000000) : ACalls Tryz.prog 117 [aTree t cl, aHeap h cl', I f] H fun r H' => r = B (validH t h && inR f 0 (h.length - 1)) ∧ H' = H := by
 refine acalls_of0 Tryz.func117 rfl (by kernel_rfl) rfl rfl (awp_sound (fz := fun _ => []) (im := fun s => s == 3 || s == 4) mixed _ _ _ _ (by kernel_rfl) ?_)
 simp +contextual -dsimp -implicitDefEqProofs (maxSteps:=5000000) only [go_sem,reduceIte,reduceCtorEq,Nat.reduceEqDiff,Nat.reduceBEq,Nat.reduceAdd,Nat.reduceLeDiff,Nat.reduceMul,Nat.reduceLT,Int.reduceEq,Int.reduceLT,Int.reduceLE]
 refine (c_validHeap t cl h cl' _ hn hl).det ?_
 cases e1 : validH t h
 ·simp +contextual -dsimp -implicitDefEqProofs (maxSteps:=5000000) only [go_sem,reduceIte,reduceCtorEq,Nat.reduceEqDiff,Nat.reduceBEq,Nat.reduceAdd,Nat.reduceLeDiff,Nat.reduceMul,Nat.reduceLT,Int.reduceEq,Int.reduceLT,Int.reduceLE]
 ·simp +contextual -dsimp -implicitDefEqProofs (maxSteps:=5000000) only [go_sem,reduceIte,reduceCtorEq,Nat.reduceEqDiff,Nat.reduceBEq,Nat.reduceAdd,Nat.reduceLeDiff,Nat.reduceMul,Nat.reduceLT,Int.reduceEq,Int.reduceLT,Int.reduceLE]
  refine (c_hasFault h cl' f _).det ?_
  simp +contextual -dsimp -implicitDefEqProofs (maxSteps:=5000000) only [go_sem,reduceIte,reduceCtorEq,Nat.reduceEqDiff,Nat.reduceBEq,Nat.reduceAdd,Nat.reduceLeDiff,Nat.reduceMul,Nat.reduceLT,Int.reduceEq,Int.reduceLT,Int.reduceLE]
end
section
open Go Go.Sim
set_option maxRecDepth 100000

theorem getD_app {α : Type} {a b : List α} {d : α} {i : Nat} (h : i < a.length) : (a ++ b).getD i d = a.getD i d := by
 rw [List.getD_eq_getElem?_getD, List.getD_eq_getElem?_getD, List.getElem?_append_left h]
theorem walkG_step {nx : Int → Int} : ∀ (n : Nat) (out : List Int) (f : Int), (∀ i, i + 1 < out.length → out.getD (i + 1) default = nx (out.getD i default)) → (∀ i, i + 1 = out.length → nx (out.getD i default) = f) →
  ∀ i, i + 1 < (walkG nx n out f).length → (walkG nx n out f).getD (i + 1) default = nx ((walkG nx n out f).getD i default)
 | 0, out, f, h, _, i, hi => h i hi
 | n + 1, out, f, h, h2, i, hi => by
  simp only [walkG] at hi ⊢
  by_cases c : 0 ≤ f ∧ (out.any fun x => decide (f = x)) = false
  ·rw [if_pos c] at hi ⊢
   refine walkG_step n (out ++ [f]) (nx f) ?_ ?_ i hi
   ·intro j hj
    rw [List.length_append, List.length_singleton] at hj
    rcases Nat.lt_or_ge (j + 1) out.length with q | q
    ·rw [getD_app q, getD_app (show j < out.length by omega)]
     exact h j q
    ·have e : j + 1 = out.length := by omega
     rw [getD_app (show j < out.length by omega), h2 j e, e]
     simp [List.getD_eq_getElem?_getD]
   ·intro j hj
    rw [List.length_append, List.length_singleton] at hj
    have e : j = out.length := by omega
    subst e
    simp [List.getD_eq_getElem?_getD]
  ·rw [if_neg c] at hi ⊢
   exact h i hi
theorem walkG_pre {nx : Int → Int} : ∀ (n : Nat) (out : List Int) (f : Int) (i : Nat), i < out.length → (walkG nx n out f).getD i default = out.getD i default
 | 0, out, f, i, hi => rfl
 | n + 1, out, f, i, hi => by
  simp only [walkG]
  split
  ·rw [walkG_pre n (out ++ [f]) (nx f) i (by simp; omega), getD_app hi]
  ·rfl
theorem chain_step {h : List Fault} {g : Int} {i : Nat} (hi : i + 1 < (chainF h g).length) : (chainF h g).getD (i + 1) default = ctxOf h ((chainF h g).getD i default) :=
 walkG_step (h.length + 1) [] g (fun i q => by simp at q) (fun i q => by simp at q) i hi
theorem chain_head {h : List Fault} {g : Int} (h0 : 0 ≤ g) : (chainF h g).getD 0 default = g := by
 unfold chainF walkF
 simp only [walkG]
 rw [if_pos ⟨h0, rfl⟩, walkG_pre _ _ _ 0 (by simp)]
 rfl
structure Calm (h : List Fault) : Prop where
 ctx : ∀ k, k < h.length → -1 ≤ (h.getD k default).ctx ∧ (h.getD k default).ctx < h.length
 last : ∀ k, k < h.length → lastOk h k = true
theorem Calm.at {h : List Fault} (hc : Calm h) {g : Int} (h0 : 0 ≤ g) (hg : g < h.length) {i : Nat} (hi : i < (chainF h g).length) : (i + 1 < (chainF h g).length ∧ 0 ≤ ctxOf h ((chainF h g).getD i default)) ∨ (i + 1 = (chainF h g).length ∧ ctxOf h ((chainF h g).getD i default) = -1) := by
 rcases Nat.lt_or_ge (i + 1) (chainF h g).length with q | q
 ·left
  refine ⟨q, ?_⟩
  rw [← chain_step q, List.getD_eq_getElem?_getD, List.getElem?_eq_getElem q]
  exact (chainF_in (fun k hk => (hc.ctx k hk).2) hg (List.getElem_mem q)).1
 ·right
  have e : i + 1 = (chainF h g).length := by omega
  refine ⟨e, ?_⟩
  have := hc.last g.toNat (by omega)
  rw [lastOk, decide_eq_true_eq, lastI, Int.toNat_of_nonneg h0, ← e] at this
  simpa using this
end
section
open Go Go.Sim
set_option maxRecDepth 100000

def EndsAt (nx : Int → Int) : Nat → Int → Prop
 | 0, a => a < 0
 | m + 1, a => 0 ≤ a ∧ EndsAt nx m (nx a)
theorem EndsAt.uniq {nx : Int → Int} : ∀ {m m' : Nat} {a : Int}, EndsAt nx m a → EndsAt nx m' a → m = m'
 | 0, 0, _, _, _ => rfl
 | 0, m' + 1, a, h, h' => by have := h'.1; simp only [EndsAt] at h; omega
 | m + 1, 0, a, h, h' => by have := h.1; simp only [EndsAt] at h'; omega
 | m + 1, m' + 1, a, h, h' => by rw [EndsAt.uniq h.2 h'.2]
def Ends (nx : Int → Int) (a : Int) : Prop := ∃ m, EndsAt nx m a
theorem Ends.neg {nx : Int → Int} {a : Int} (h : a < 0) : Ends nx a := ⟨0, h⟩
theorem Ends.step {nx : Int → Int} {a : Int} (h : Ends nx (nx a)) : Ends nx a := by
 obtain ⟨m, hm⟩ := h
 by_cases c : a < 0
 ·exact .neg c
 ·exact ⟨m + 1, by omega, hm⟩
theorem Ends.ind {nx : Int → Int} {p : Int → Prop} (h0 : ∀ a, a < 0 → p a) (h1 : ∀ a, 0 ≤ a → p (nx a) → p a) {a : Int} (h : Ends nx a) : p a := by
 obtain ⟨m, hm⟩ := h
 induction m generalizing a with
 | zero => exact h0 a hm
 | succ m ih => exact h1 a hm.1 (ih hm.2)
theorem walkG_end {nx : Int → Int} {n : Nat} (hnx : ∀ a : Int, 0 ≤ a → a < n → nx a < n) : ∀ (m fuel : Nat) (out : List Int) (f : Int), EndsAt nx m f → f < n → (∀ a ∈ out, ∃ m', m < m' ∧ EndsAt nx m' a) → freeN n out < fuel → (out ≠ [] → nx (lastI out) = f) → walkG nx fuel out f ≠ [] → nx (lastI (walkG nx fuel out f)) < 0
 | m, 0, out, f, _, _, _, hfr, _, _ => by omega
 | 0, fuel + 1, out, f, he, hf, ho, hfr, hl, hne => by
  have hf0 : f < 0 := he
  simp only [walkG] at hne ⊢
  rw [if_neg (by omega)] at hne ⊢
  rw [hl hne]; exact hf0
 | m + 1, fuel + 1, out, f, he, hf, ho, hfr, hl, hne => by
  have hany : (out.any fun x => decide (f = x)) = false := by
   rw [List.any_eq_false]
   intro a ha
   obtain ⟨m', h1, h2⟩ := ho a ha
   have : ¬ f = a := by
    rintro rfl
    have := he.uniq h2
    omega
   simpa using this
  simp only [walkG] at hne ⊢
  rw [if_pos ⟨he.1, hany⟩] at hne ⊢
  have := freeN_lt he.1 hf hany
  refine walkG_end hnx m fuel (out ++ [f]) (nx f) he.2 (hnx f he.1 hf) ?_ (by omega) ?_ hne
  ·intro a ha
   rcases List.mem_append.1 ha with q | q
   ·obtain ⟨m', h1, h2⟩ := ho a q
    exact ⟨m', by omega, h2⟩
   ·simp at q; subst q
    exact ⟨m + 1, by omega, he⟩
  ·intro _
   congr 1
   simp [lastI, List.getD_eq_getElem?_getD]
theorem Calm.of_ends {h : List Fault} (hc : ∀ k, k < h.length → -1 ≤ (h.getD k default).ctx ∧ (h.getD k default).ctx < h.length) (he : ∀ k : Nat, k < h.length → Ends (ctxOf h) k) : Calm h := by
 refine ⟨hc, fun k hk => ?_⟩
 obtain ⟨m, hm⟩ := he k hk
 have hne := chainF_ne (h := h) (g := k) (by omega)
 have hnx : ∀ a : Int, 0 ≤ a → a < h.length → ctxOf h a < h.length := fun a a0 a1 => (hc a.toNat (by omega)).2
 have := walkG_end hnx m (h.length + 1) [] k hm (by omega) (fun a ha => by cases ha) (by have := freeN_nil h.length; omega) (fun q => absurd rfl q) hne
 have hin := lastI_in (fun k hk => (hc k hk).2) (f := k) (by omega) (by omega)
 have h1 := hc (lastI (chainF h k)).toNat (by omega)
 rw [lastOk, decide_eq_true_eq]
 unfold ctxOf at this ⊢
 unfold chainF walkF at h1 ⊢
 unfold ctxOf at h1 ⊢
 omega
theorem Calm.ends {h : List Fault} (hc : Calm h) {k : Int} (h0 : 0 ≤ k) (hk : k < h.length) : Ends (ctxOf h) k := by
 have hne := List.length_pos_iff.2 (chainF_ne (h := h) h0)
 have key : ∀ j, j < (chainF h k).length → Ends (ctxOf h) ((chainF h k).getD ((chainF h k).length - 1 - j) default) := by
  intro j
  induction j with
  | zero =>
   intro hj
   rcases hc.at h0 hk (i := (chainF h k).length - 1 - 0) (by omega) with ⟨q, _⟩ | ⟨_, q⟩
   ·omega
   ·exact .step (.neg (by omega))
  | succ j ih =>
   intro hj
   have e : (chainF h k).length - 1 - j = ((chainF h k).length - 1 - (j + 1)) + 1 := by omega
   have := ih (by omega)
   rw [e, chain_step (by omega)] at this
   exact .step this
 have := key ((chainF h k).length - 1) (by omega)
 rw [Nat.sub_self, chain_head h0] at this
 exact this
end
section
open Go Go.Sim
set_option maxRecDepth 100000
theorem Calm.nil : Calm [] := ⟨fun k hk => by simp at hk, fun k hk => by simp at hk⟩
theorem Calm.same {h h' : List Fault} (hc : Calm h) (hl : h'.length = h.length) (hx : ∀ k, k < h.length → (h'.getD k default).ctx = (h.getD k default).ctx) : Calm h' := by
 have e : ∀ a : Int, 0 ≤ a → a < h.length → ctxOf h' a = ctxOf h a := fun a a0 a1 => hx a.toNat (by omega)
 refine .of_ends (fun k hk => ?_) (fun k hk => ?_)
 ·rw [hl] at hk ⊢; rw [hx k hk]; exact hc.ctx k hk
 ·rw [hl] at hk
  have := hc.ends (k := k) (by omega) (by omega)
  refine Ends.ind (p := fun a => a < h.length → Ends (ctxOf h') a) (fun a q _ => .neg q) (fun a a0 q q1 => .step ?_) this (by omega)
  rw [e a a0 q1]
  exact q (hc.ctx a.toNat (by omega)).2
theorem Calm.add {h : List Fault} (hc : Calm h) {x : Fault} (hx : x.ctx = -1) : Calm (h ++ [x]) := by
 have e1 : ∀ a : Int, 0 ≤ a → a < h.length → ctxOf (h ++ [x]) a = ctxOf h a := fun a a0 a1 => by unfold ctxOf; rw [getD_app (by omega)]
 have e2 : ctxOf (h ++ [x]) h.length = -1 := by unfold ctxOf; simp [List.getD_eq_getElem?_getD, hx]
 refine .of_ends (fun k hk => ?_) (fun k hk => ?_)
 ·rw [List.length_append, List.length_singleton] at hk ⊢
  show -1 ≤ ctxOf (h ++ [x]) (k : Int) ∧ ctxOf (h ++ [x]) (k : Int) < ((h.length + 1 : Nat) : Int)
  rcases Nat.lt_or_ge k h.length with q | q
  ·rw [e1 k (by omega) (by omega)]
   have := hc.ctx k q
   unfold ctxOf
   simp only [Int.toNat_natCast]
   omega
  ·have : k = h.length := by omega
   subst this
   rw [e2]; omega
 ·rw [List.length_append, List.length_singleton] at hk
  rcases Nat.lt_or_ge k h.length with q | q
  ·have := hc.ends (k := k) (by omega) (by omega)
   refine Ends.ind (p := fun a => a < h.length → Ends (ctxOf (h ++ [x])) a) (fun a q _ => .neg q) (fun a a0 q q1 => .step ?_) this (by omega)
   rw [e1 a a0 q1]
   exact q (hc.ctx a.toNat (by omega)).2
  ·have : k = h.length := by omega
   subst this
   exact .step (by rw [e2]; exact .neg (by omega))
end
section
open Go Go.Sim
set_option maxRecDepth 100000

def Links (h : List Fault) : Prop := ∀ k, k < h.length → (h.getD k default).cause < h.length ∧ (h.getD k default).ctx < h.length
end
end
section
set_option maxRecDepth 100000
attribute [local go_sem ↓] aw_skip aw_ret aw_exit aw_region aw_draw aw_seq aw_block aw_loop aw_cond frz_nil frz_cons sq_normal sq_ret sq_exit exB_normal exB_ret exB_same exB_other retQ_ret retQ_normal ret0_ret ret0_normal ao_nil go1 g_move g_assign g_pick g_build g_load g_binOp g_unOp g_convert g_fieldAddr g_field g_indexAddr g_index g_extract g_lookup g_slice g_nilCheck g_len g_makeFunc h_call h_append h_alloc h_box h_buildSlice h_makeSlice h_store gV i_box i_buildSlice i_move i_assign i_build i_load i_binOp i_unOp i_convert i_fieldAddr i_field i_indexAddr i_index i_extract i_lookup i_makeMap i_mapUpdate i_slice i_nilCheck i_makeFunc i_len i_max i_min i_alloc i_makeSlice i_store i_append i_call i_pick boxI boxA buildSliceI buildSliceA makeSliceA makeMapA allocA storeA p_move p_assign p_pick p_build p_load p_binOp p_unOp p_convert p_fieldAddr p_field p_indexAddr p_index p_extract p_lookup p_makeMap p_mapUpdate p_slice p_nilCheck p_makeFunc p_len p_max p_min p_alloc p_box p_buildSlice p_makeSlice p_store p_append p_call x_nil x_go1 x_g0 x_g1 x_g2 x_g3 x_s0 x_s1 x_s2 x_s3 u_move u_assign u_pick u_build u_load u_binOp u_unOp u_convert u_fieldAddr u_field u_indexAddr u_index u_extract u_lookup u_slice u_nilCheck u_makeFunc u_len u_buildSlice
attribute [local go_sem] frzV_ptr frzV_sl frzK_some set_none set_other AHeap.set_self set_del set_set cnd_t cnd_f cnd_b retA_one retA_two retA_three retA_four retA_nil gIf_b mrgV_b mrgV_wh mrgV_U gIf_U gIf_wh mrgB_f mrgB_some mrgB_if wh_true wh_false keepA_some keepA_if gD_zero gD_succ gT_some bxA_t bxA_f callA_fn ev_tmp ev_const ev_global ev_func oc_bool oc_int oc_string oc_nil oc_nilptr oc_nilfunc cl_bool cl_int cl_string cl_nil updO_some updO_none upd_same upd_other init_at pickA_b pickA_wh selA_t selA_f selA_and selA_or selA_orn selA_orm selA_bb selA_ii beqt b_add b_sub b_mul b_and b_or b_xor b_eql b_neq b_lss b_leq b_gtr b_geq b_quo b_rem b_shr b_seql b_sneq b_sadd b_beql b_bneq b_aeql b_aneq u_not u_neg isConstOp eqA eqCellV List.getD_cons_zero List.getD_cons_succ List.map_cons List.map_nil List.nil_append List.cons_append List.append_nil if_true if_false Option.map_some Option.map_none ne_eq not_false_eq_true oneA ldv ld1v ld1s wr1s ldRow stRow row_lit row_agg row_vsl row_sl row_ptr row_fn one_I one_B one_S one_vsl one_sl one_ptr one_fn extractA okA rI rS rU rClass rFault rExit rStart rLine Int.toNat_natCast List.length_cons List.length_nil List.length_map List.all_cons List.all_nil Bool.and_true Nat.zero_add List.getElem?_cons_zero List.getElem?_cons_succ List.take_succ_cons List.take_zero List.drop_succ_cons List.drop_zero and_self true_and and_true implies_true decide_eq_true_eq decide_eq_false_iff_not Bool.or_eq_true Bool.or_eq_false_iff Bool.and_eq_true Bool.not_eq_true' Bool.not_eq_false' beq_false decide_true decide_false Int.ofNat_lt Int.ofNat_le Int.natCast_nonneg Bool.or_true Bool.or_false Bool.true_or Bool.false_or beq_self_eq_true List.drop_one Bool.not_true Bool.not_false Bool.not_not Bool.false_eq_true Bool.true_eq_false false_implies true_implies Bool.true_and Bool.false_and Bool.and_false not_true_eq_false Int.natCast_eq_zero Int.natCast_pos Int.natCast_zero false_and and_false or_false false_or or_true true_or Bool.or_self none_le_iff List.replicate_zero Int.toNat_zero List.replicate_succ buildRows List.set_cons_zero List.set_cons_succ List.set_nil List.mapM_nil maxLen_eq Nat.zero_le Nat.mul_one Nat.one_mul bldA fillA spliceA List.take_nil List.drop_nil List.getElem?_nil ld1o wr1o bldSliceA le_same ti1 ti2 tk2 ti3 te3 ts3 tk3 tz3 ti4 tb4 ti5 tk5 tz5 ti9 te9 ts9 tk9 tz9 ti20 ti22 te22 tz22 ti23 te23 ti25 tp25 tf25_0 ti26 te26 ti29 te29 ti30 te30 ti32 tp32 tf32_0 ti34 tp34 tf34_0 tf34_1 tf34_2 tf34_3 ti41 tq41 tp41 tf41_0 tf41_1 tf41_2 tf41_3 ti44 tq44 tp44 tf44_0 tf44_1 tf44_2 ti45 te45 ti47 tq47 tp47 tf47_0 tf47_1 tf47_2 ti56 te56 ti58 tp58 tf58_0 ti59 te59 ti71 te71 ti84 ti88 tq88 tp88 tf88_0 tf88_1 ti103 tq103 tp103 tf103_0 tf103_1 tf103_2 tf103_3 tf103_4 ti106 ti109 ti113 tq113 tp113 tf113_0 tf113_1 tf113_2 tf113_3 ti120 tq120 tp120 tf120_0 tf120_1 tf120_2 ti124 ti129 tp129 tf129_0 tf129_1 tf129_2 tf129_3 tf129_4 ti136 ti138 tp138 tf138_0 tf138_1 tf138_2 tf138_3 ti140 tq140 tp140 tf140_0 tf140_1 ti144 tq144 tp144 tf144_0 tf144_1 ti151 te151 ti159 tp159 tf159_0 tf159_1 tf159_2 ti164 ti165 ti167 ti169 tq169 tp169 tf169_0 tf169_1 ti186 ti202 ti205 tk205 tz205 ti209 tk209 ti217 tk217 tz217 ti219 tk219 tz219 ti220 tk220 ti224 ti226 fp13_0 fv13_0 fp13_1 fv13_1 fp24_0 fv24_0 fp25_0 fv25_0 fp31_0 fv31_0 fp32_0 fv32_0 fp33_0 fv33_0 fp33_1 fv33_1 fp33_2 fv33_2 fp33_3 fv33_3 fp34_0 fv34_0 fp34_1 fv34_1 fp34_2 fv34_2 fp34_3 fv34_3 fp40_0 fv40_0 fp40_1 fv40_1 fp40_2 fv40_2 fp40_3 fv40_3 fp41_0 fv41_0 fp41_1 fv41_1 fp41_2 fv41_2 fp41_3 fv41_3 fp43_0 fv43_0 fp43_1 fv43_1 fp43_2 fv43_2 fp44_0 fv44_0 fp44_1 fv44_1 fp44_2 fv44_2 fp46_0 fv46_0 fp46_1 fv46_1 fp46_2 fv46_2 fp47_0 fv47_0 fp47_1 fv47_1 fp47_2 fv47_2 fp57_0 fv57_0 fp58_0 fv58_0 fp72_0 fv72_0 fp72_1 fv72_1 fp72_2 fv72_2 fp87_0 fv87_0 fp87_1 fv87_1 fp88_0 fv88_0 fp88_1 fv88_1 fp102_0 fv102_0 fp102_1 fv102_1 fp102_2 fv102_2 fp102_3 fv102_3 fp102_4 fv102_4 fp103_0 fv103_0 fp103_1 fv103_1 fp103_2 fv103_2 fp103_3 fv103_3 fp103_4 fv103_4 fp113_0 fv113_0 fp113_1 fv113_1 fp113_2 fv113_2 fp113_3 fv113_3 fp120_0 fv120_0 fp120_1 fv120_1 fp120_2 fv120_2 fp126_0 fv126_0 fp126_1 fv126_1 fp127_0 fv127_0 fp127_1 fv127_1 fp128_0 fv128_0 fp128_1 fv128_1 fp128_2 fv128_2 fp128_3 fv128_3 fp128_4 fv128_4 fp129_0 fv129_0 fp129_1 fv129_1 fp129_2 fv129_2 fp129_3 fv129_3 fp129_4 fv129_4 fp137_0 fv137_0 fp137_1 fv137_1 fp137_2 fv137_2 fp137_3 fv137_3 fp138_0 fv138_0 fp138_1 fv138_1 fp138_2 fv138_2 fp138_3 fv138_3 fp139_0 fv139_0 fp139_1 fv139_1 fp140_0 fv140_0 fp140_1 fv140_1 fp143_0 fv143_0 fp143_1 fv143_1 fp144_0 fv144_0 fp144_1 fv144_1 fp158_0 fv158_0 fp158_1 fv158_1 fp158_2 fv158_2 fp159_0 fv159_0 fp159_1 fv159_1 fp159_2 fv159_2 fp169_0 fv169_0 fp169_1 fv169_1 lv22 ll22 is22 ix22 sh22 so22 sb22 sm22 sp22 lv23 ll23 is23 ix23 sh23 so23 sb23 sm23 sp23 lv26 ll26 is26 ix26 sh26 so26 sb26 sm26 sp26 lv29 ll29 is29 ix29 sh29 so29 sb29 sm29 sp29 lv30 ll30 is30 ix30 sh30 so30 sb30 sm30 sp30 lv45 ll45 is45 ix45 sh45 so45 sb45 sm45 sp45 lv56 ll56 is56 sp56 lv59 ll59 is59 sp59 lv71 ll71 is71 sp71 lv149 ll149 is149 sp149 lv151 ll151 is151 sp151 lv177 ll177 is177 ix177 sh177 so177 sb177 sm177 sp177 xs9 ls9 sx9 sy9 sz9
section
open Go Go.Sim
set_option maxRecDepth 100000
theorem Nums.nil (n : Nat) : Nums n [] where
 mem a ha := absurd ha (List.not_mem_nil)
 free := by have := freeN_nil n; simpa using this
end
section
open Go Go.Sim
set_option maxRecDepth 100000

def insR : List Int → Int → List Int
 | [], v => [v]
 | b :: out, v => if b < v then b :: insR out v else if b = v then b :: out else v :: b :: out
theorem insF_eq : ∀ (out : List Int) (v : Int), insF out v = insR out v
 | [], v => by simp [insF, insR, insK]
 | b :: out, v => by
  have ih := insF_eq out v
  unfold insR
  by_cases c : b < v
  ·rw [if_pos c, ← ih]
   have hk : insK (b :: out) v = insK out v + 1 := by simp [insK, List.takeWhile_cons, c]
   unfold insF
   rw [hk]
   simp only [List.length_cons,List.getD_cons_succ,List.take_succ_cons,List.drop_succ_cons,Nat.add_right_cancel_iff]
   split <;> simp
  ·rw [if_neg c]
   have hk : insK (b :: out) v = 0 := by simp [insK, List.takeWhile_cons, c]
   unfold insF
   rw [hk]
   by_cases e : b = v
   ·rw [if_pos e, if_neg (by simp [e])]
   ·rw [if_neg e, if_pos (by right; simpa using e)]
    simp
theorem insR_mem : ∀ {out : List Int} {v a : Int}, a ∈ insR out v ↔ a = v ∨ a ∈ out
 | [], v, a => by simp [insR]
 | b :: out, v, a => by
  unfold insR
  split
  ·rw [List.mem_cons, insR_mem, List.mem_cons]
   constructor
   ·rintro (q | q | q) <;> simp [q]
   ·rintro (q | q | q) <;> simp [q]
  ·split
   ·rename_i e; subst e; simp
   ·simp
theorem insR_asc : ∀ {out : List Int} {v : Int}, out.Pairwise (· < ·) → (insR out v).Pairwise (· < ·)
 | [], v, _ => by simp [insR]
 | b :: out, v, h => by
  obtain ⟨h1, h2⟩ := List.pairwise_cons.1 h
  unfold insR
  split
  ·rename_i c
   refine .cons (fun a ha => ?_) (insR_asc h2)
   rcases insR_mem.1 ha with q | q
   ·omega
   ·exact h1 a q
  ·split
   ·exact h
   ·rename_i c e
    refine .cons (fun a ha => ?_) h
    rcases List.mem_cons.1 ha with q | q
    ·omega
    ·have := h1 a q; omega
theorem fold_asc : ∀ (l out : List Int), out.Pairwise (· < ·) → (l.foldl insF out).Pairwise (· < ·) ∧ ∀ a, a ∈ l.foldl insF out ↔ a ∈ out ∨ a ∈ l
 | [], out, h => ⟨h, fun a => by simp⟩
 | v :: l, out, h => by
  rw [List.foldl_cons, insF_eq]
  obtain ⟨h1, h2⟩ := fold_asc l (insR out v) (insR_asc h)
  refine ⟨h1, fun a => ?_⟩
  rw [h2, insR_mem, List.mem_cons]
  constructor
  ·rintro ((q | q) | q) <;> simp [q]
  ·rintro (q | q | q) <;> simp [q]
theorem sortedF_asc (l : List Int) : (sortedF l).Pairwise (· < ·) := (fold_asc l [] .nil).1
theorem sortedF_iff {l : List Int} {a : Int} : a ∈ sortedF l ↔ a ∈ l := by
 have := (fold_asc l [] .nil).2 a
 simpa [sortedF] using this
theorem sort_ext {l m : List Int} (hl : l.Nodup) (h : ∀ a, a ∈ l ↔ a ∈ m) : sortI l = sortedF m := by
 have s1 : (sortI l).Pairwise (fun a b => a ≤ b) := by
  have := List.pairwise_mergeSort (le := fun x y : Int => decide (x ≤ y)) (fun a b c h1 h2 => by simp at *; omega) (fun a b => by simp; omega) l
  exact this.imp (fun h => by simpa using h)
 have a2 := sortedF_asc m
 have s2 : (sortedF m).Pairwise (fun a b => a ≤ b) := a2.imp (fun h => by omega)
 have n2 : (sortedF m).Nodup := a2.imp (fun h => by omega)
 have n1 : (sortI l).Nodup := (List.mergeSort_perm l _).nodup_iff.2 hl
 have pm : (sortI l).Perm (sortedF m) := (List.perm_ext_iff_of_nodup n1 n2).2 fun a => by rw [sortI_mem, sortedF_iff, h]
 exact pm.eq_of_pairwise (fun a b _ _ h1 h2 => by omega) s1 s2
inductive Rch (h : List Fault) (f : Int) : Int → Prop where
 | refl : Rch h f f
 | cause {a : Int} : Rch h f a → 0 ≤ causeOf h a → Rch h f (causeOf h a)
 | ctx {a : Int} : Rch h f a → 0 ≤ ctxOf h a → Rch h f (ctxOf h a)
theorem addF_mem {out : List Int} {g a : Int} : a ∈ addF out g ↔ a ∈ out ∨ (a = g ∧ 0 ≤ g) := by
 unfold addF
 by_cases c : 0 ≤ g ∧ (out.any fun x => decide (g = x)) = false
 ·rw [if_pos c, List.mem_append, List.mem_singleton]
  constructor
  ·rintro (q | q)
   ·exact .inl q
   ·exact .inr ⟨q, c.1⟩
  ·rintro (q | q)
   ·exact .inl q
   ·exact .inr q.1
 ·rw [if_neg c]
  refine ⟨.inl, ?_⟩
  rintro (q | ⟨rfl, q⟩)
  ·exact q
  ·have : ¬ (out.any fun x => decide (a = x)) = false := fun e => c ⟨q, e⟩
   simpa using this
theorem addF_nodup {out : List Int} {g : Int} (h : out.Nodup) : (addF out g).Nodup := by
 unfold addF
 split
 ·rename_i c
  rw [List.nodup_append]
  refine ⟨h, by simp, fun a ha b hb => ?_⟩
  simp at hb; subst hb
  rintro rfl
  have := c.2
  rw [List.any_eq_false] at this
  exact this a ha (by simp)
 ·exact h
theorem bfsG_clos {h : List Fault} (hlk : Links h) (f : Int) : ∀ (n i : Nat) (out : List Int), Nums h.length out → out.Nodup → h.length ≤ i + n → (∀ a ∈ out, Rch h f a) →
  (∀ j, j < i → j < out.length → (0 ≤ causeOf h (out.getD j default) → causeOf h (out.getD j default) ∈ out) ∧ (0 ≤ ctxOf h (out.getD j default) → ctxOf h (out.getD j default) ∈ out)) →
  (∀ a ∈ out, a ∈ bfsG h n i out) ∧ (bfsG h n i out).Nodup ∧ (∀ a ∈ bfsG h n i out, Rch h f a) ∧ (∀ a ∈ bfsG h n i out, (0 ≤ causeOf h a → causeOf h a ∈ bfsG h n i out) ∧ (0 ≤ ctxOf h a → ctxOf h a ∈ bfsG h n i out)) := by
 have stop : ∀ (i : Nat) (out : List Int), out.length ≤ i → (∀ j, j < i → j < out.length → (0 ≤ causeOf h (out.getD j default) → causeOf h (out.getD j default) ∈ out) ∧ (0 ≤ ctxOf h (out.getD j default) → ctxOf h (out.getD j default) ∈ out)) →
   ∀ a ∈ out, (0 ≤ causeOf h a → causeOf h a ∈ out) ∧ (0 ≤ ctxOf h a → ctxOf h a ∈ out) := by
  intro i out hi hj a ha
  obtain ⟨j, hj1, rfl⟩ := List.mem_iff_getElem.1 ha
  have := hj j (by omega) hj1
  simpa [List.getD_eq_getElem?_getD, hj1] using this
 intro n
 induction n with
 | zero =>
  intro i out hn hd hl hr hj
  have := hn.free
  exact ⟨fun a ha => ha, hd, hr, stop i out (by omega) hj⟩
 | succ n ih =>
  intro i out hn hd hl hr hj
  simp only [bfsG]
  by_cases c : i < out.length
  ·rw [if_pos c]
   have hm : out.getD i default ∈ out := by rw [List.getD_eq_getElem?_getD, List.getElem?_eq_getElem c]; exact List.getElem_mem c
   have hmm := hn.mem _ hm
   have hk := hlk (out.getD i default).toNat (by omega)
   have hri := hr _ hm
   generalize hg : out.getD i default = v at hm hmm hk hri
   have hN := (hn.add (g := causeOf h v) hk.1).add (g := ctxOf h v) hk.2
   have keep : ∀ a ∈ out, a ∈ addF (addF out (causeOf h v)) (ctxOf h v) := fun a ha => addF_mem.2 (.inl (addF_mem.2 (.inl ha)))
   have pre : ∀ (o : List Int) (g : Int) (j : Nat), j < o.length → (addF o g).getD j default = o.getD j default := by
    intro o g j hjo
    unfold addF
    split
    ·rw [getD_app hjo]
    ·rfl
   have l1 := addF_len out (causeOf h v)
   obtain ⟨b1, b2, b3, b4⟩ := ih (i + 1) (addF (addF out (causeOf h v)) (ctxOf h v)) hN (addF_nodup (addF_nodup hd)) (by omega) (fun a ha => by
    rcases addF_mem.1 ha with q | ⟨e, q⟩
    ·rcases addF_mem.1 q with q1 | ⟨e1, q1⟩
     ·exact hr a q1
     ·rw [e1]; exact .cause hri q1
    ·rw [e]; exact .ctx hri q) (fun j hj1 hj2 => by
    have hjo : j < out.length := by omega
    rw [pre _ _ j (by omega), pre _ _ j hjo]
    by_cases e : j = i
    ·subst e
     rw [hg]
     exact ⟨fun q => addF_mem.2 (.inl (addF_mem.2 (.inr ⟨rfl, q⟩))), fun q => addF_mem.2 (.inr ⟨rfl, q⟩)⟩
    ·have := hj j (by omega) hjo
     exact ⟨fun q => keep _ (this.1 q), fun q => keep _ (this.2 q)⟩)
   exact ⟨fun a ha => b1 a (keep a ha), b2, b3, b4⟩
  ·rw [if_neg c]
   exact ⟨fun a ha => ha, hd, hr, stop i out (by omega) hj⟩
theorem bfsF_iff {h : List Fault} (hlk : Links h) {f : Int} (h0 : 0 ≤ f) (hf : f < h.length) : (bfsF h f).Nodup ∧ ∀ a, a ∈ bfsF h f ↔ Rch h f a := by
 obtain ⟨b1, b2, b3, b4⟩ := bfsG_clos hlk f (h.length + 1) 0 [f] (Nums.one h0 hf) (by simp) (by omega) (fun a ha => by simp at ha; subst ha; exact .refl) (fun j hj => by omega)
 refine ⟨b2, fun a => ⟨b3 a, fun r => ?_⟩⟩
 induction r with
 | refl => exact b1 f (by simp)
 | cause _ q ih => exact (b4 _ ih).1 q
 | ctx _ q ih => exact (b4 _ ih).2 q
end
section
open Go Go.Sim
set_option maxRecDepth 100000

theorem validH_all {t : List Class} {h : List Fault} (hv : validH t h = true) : (List.range h.length).all (faultOk t h) = true ∧ (List.range h.length).all (lastOk h) = true ∧ validT t = true ∧ h.length ≤ 24 := by
 simpa only [validH,Bool.and_eq_true,decide_eq_true_eq] using hv
theorem validH_cls {t : List Class} {h : List Fault} (hv : validH t h = true) : ∀ k, k < h.length → 0 ≤ (h.getD k default).cls ∧ (h.getD k default).cls < t.length ∧ 0 ≤ (h.getD k default).code ∧ (h.getD k default).code < 100 := fun k hk => by
 have := (List.all_eq_true.1 (validH_all hv).1) k (by simp [hk])
 simp only [faultOk,hasF,inR,Bool.and_eq_true,decide_eq_true_eq] at this
 omega
theorem inR_len {f : Int} {n : Nat} : inR f 0 (n - 1) = true ↔ 0 ≤ f ∧ f < n := by
 simp only [inR,Bool.and_eq_true,decide_eq_true_eq]; omega
end
section
open Go Go.Sim
set_option maxRecDepth 100000

def posF (S : List Int) (a : Int) : Int := idxF (fun x => decide (a = x)) S
theorem posF_mem {S : List Int} {a : Int} (h : a ∈ S) : 0 ≤ posF S a ∧ posF S a < S.length ∧ S.getD (posF S a).toNat default = a := by
 unfold posF
 induction S with
 | nil => cases h
 | cons b S ih =>
  simp only [idxF]
  by_cases e : a = b
  ·rw [if_pos (by simpa using e)]
   refine ⟨by omega, by simp only [List.length_cons]; omega,?_⟩
   show (b :: S).getD 0 default = a
   rw [List.getD_cons_zero, e]
  ·have hm : a ∈ S := by
    rcases List.mem_cons.1 h with q | q
    ·exact absurd q e
    ·exact q
   obtain ⟨i1, i2, i3⟩ := ih hm
   rw [if_neg (by simpa using e), if_neg (by omega)]
   refine ⟨by omega, by simp only [List.length_cons]; omega,?_⟩
   have : (idxF (fun x => decide (a = x)) S + 1).toNat = (idxF (fun x => decide (a = x)) S).toNat + 1 := by omega
   rw [this, List.getD_cons_succ, i3]
theorem posF_none {S : List Int} {a : Int} (h : a ∉ S) : posF S a = -1 := by
 unfold posF
 rw [idxF_neg, List.any_eq_false]
 intro x hx
 have : ¬ a = x := by rintro rfl; exact h hx
 simpa using this
theorem posF_inj {S : List Int} {a b : Int} (ha : a ∈ S) (hb : b ∈ S) (h : posF S a = posF S b) : a = b := by
 have h1 := (posF_mem ha).2.2
 have h2 := (posF_mem hb).2.2
 rw [h] at h1
 rw [← h1, h2]
theorem posF_at {S : List Int} (hd : S.Nodup) {k : Nat} (hk : k < S.length) : posF S (S.getD k default) = k := by
 have hm : S.getD k default ∈ S := by rw [List.getD_eq_getElem?_getD, List.getElem?_eq_getElem hk]; exact List.getElem_mem hk
 obtain ⟨h1, h2, h3⟩ := posF_mem hm
 obtain ⟨j, hj⟩ : ∃ j : Nat, posF S (S.getD k default) = j := ⟨(posF S (S.getD k default)).toNat, by omega⟩
 rw [hj] at h1 h2 h3 ⊢
 have hj2 : j < S.length := by omega
 rw [Int.toNat_natCast, List.getD_eq_getElem?_getD, List.getD_eq_getElem?_getD, List.getElem?_eq_getElem hj2, List.getElem?_eq_getElem hk] at h3
 have h4 : S[j] = S[k] := by simpa using h3
 rcases Nat.lt_trichotomy j k with q | q | q
 ·exact absurd h4 ((List.pairwise_iff_getElem.1 hd) j k hj2 hk q)
 ·omega
 ·exact absurd h4.symm ((List.pairwise_iff_getElem.1 hd) k j hk hj2 q)
theorem isoL_len (h : List Fault) (S : List Int) : (isoL h S).length = S.length := by simp [isoL]
theorem isoL_at {h : List Fault} {S : List Int} {k : Nat} (hk : k < S.length) : (isoL h S).getD k default = isoAt h S (S.getD k default) := by
 simp [isoL, List.getD_eq_getElem?_getD, hk]
theorem iso_cause {h : List Fault} {S : List Int} {a : Int} (ha : a ∈ S) : causeOf (isoL h S) (posF S a) = posF S (causeOf h a) := by
 obtain ⟨h1, h2, h3⟩ := posF_mem ha
 unfold causeOf
 rw [isoL_at (by omega), h3]
 rfl
theorem iso_ctx {h : List Fault} {S : List Int} {a : Int} (ha : a ∈ S) : ctxOf (isoL h S) (posF S a) = posF S (ctxOf h a) := by
 obtain ⟨h1, h2, h3⟩ := posF_mem ha
 unfold ctxOf
 rw [isoL_at (by omega), h3]
 rfl
theorem walk_iso {S : List Int} {n : Nat} (hS : ∀ a ∈ S, 0 ≤ a ∧ a < n) {nx nx' : Int → Int} (hnx : ∀ a ∈ S, nx a ∈ S ∨ nx a < 0) (hiso : ∀ a ∈ S, nx' (posF S a) = posF S (nx a)) :
  ∀ (fuel fuel' : Nat) (out : List Int) (f : Int), (f ∈ S ∨ f < 0) → (∀ a ∈ out, a ∈ S) → freeN n out < fuel → freeN S.length (out.map (posF S)) < fuel' → walkG nx' fuel' (out.map (posF S)) (posF S f) = (walkG nx fuel out f).map (posF S)
 | 0, fuel', out, f, _, _, h1, _ => by omega
 | fuel + 1, 0, out, f, _, _, _, h2 => by omega
 | fuel + 1, fuel' + 1, out, f, hf, ho, h1, h2 => by
  simp only [walkG]
  rcases hf with hf | hf
  ·have hp := posF_mem hf
   have hany : ((out.map (posF S)).any fun x => decide (posF S f = x)) = (out.any fun x => decide (f = x)) := by
    rw [List.any_map, Bool.eq_iff_iff, List.any_eq_true, List.any_eq_true]
    constructor
    ·rintro ⟨a, ha, q⟩
     exact ⟨a, ha, by simp only [Function.comp,decide_eq_true_eq] at q; simpa using posF_inj hf (ho a ha) q⟩
    ·rintro ⟨a, ha, q⟩
     exact ⟨a, ha, by simp only [decide_eq_true_eq] at q; subst q; simp⟩
   rw [hany]
   cases hb : out.any fun x => decide (f = x)
   ·rw [if_pos ⟨hp.1, rfl⟩, if_pos ⟨(hS f hf).1, rfl⟩, hiso f hf]
    have l1 := freeN_lt (hS f hf).1 (hS f hf).2 hb
    have l2 := freeN_lt (out := out.map (posF S)) hp.1 hp.2.1 (by rw [hany, hb])
    have e : out.map (posF S) ++ [posF S f] = (out ++ [f]).map (posF S) := by simp
    rw [e] at l2 ⊢
    refine walk_iso hS hnx hiso fuel fuel' (out ++ [f]) (nx f) (hnx f hf) (fun a ha => ?_) (by omega) (by omega)
    rcases List.mem_append.1 ha with q | q
    ·exact ho a q
    ·simp at q; subst q; exact hf
   ·rw [if_neg (fun q => by cases q.2), if_neg (fun q => by cases q.2)]
  ·have hn : f ∉ S := fun q => by have := hS f q; omega
   rw [posF_none hn, if_neg (by omega), if_neg (by omega)]
structure Closed (h : List Fault) (S : List Int) : Prop where
 mem : ∀ a ∈ S, 0 ≤ a ∧ a < h.length
 cause : ∀ a ∈ S, causeOf h a ∈ S ∨ causeOf h a < 0
 ctx : ∀ a ∈ S, ctxOf h a ∈ S ∨ ctxOf h a < 0
theorem Closed.pos {h : List Fault} {S : List Int} (hc : Closed h S) {b : Int} (hb : b ∈ S ∨ b < 0) : (0 ≤ posF S b ↔ 0 ≤ b) ∧ (b < 0 → posF S b = -1) := by
 rcases hb with q | q
 ·have h1 := (posF_mem q).1
  have h2 := (hc.mem b q).1
  exact ⟨⟨fun _ => h2, fun _ => h1⟩, fun w => by omega⟩
 ·have hn : b ∉ S := fun w => by have := (hc.mem b w).1; omega
  rw [posF_none hn]
  exact ⟨⟨fun w => by omega, fun w => by omega⟩, fun _ => rfl⟩
theorem closed_reach {h : List Fault} (hlk : Links h) {f : Int} (h0 : 0 ≤ f) (hf : f < h.length) : Closed h (sortI (bfsF h f)) ∧ f ∈ sortI (bfsF h f) ∧ (sortI (bfsF h f)).Nodup := by
 obtain ⟨b1, b2⟩ := bfsF_iff hlk h0 hf
 have hn := bfsF_nums hlk h0 hf
 have m : ∀ a, a ∈ sortI (bfsF h f) ↔ Rch h f a := fun a => by rw [sortI_mem, b2]
 refine ⟨⟨fun a ha => hn.mem a (sortI_mem.1 ha), fun a ha => ?_, fun a ha => ?_⟩, (m f).2 .refl, (List.mergeSort_perm _ _).nodup_iff.2 b1⟩
 ·by_cases c : causeOf h a < 0
  ·exact .inr c
  ·exact .inl ((m _).2 (.cause ((m a).1 ha) (by omega)))
 ·by_cases c : ctxOf h a < 0
  ·exact .inr c
  ·exact .inl ((m _).2 (.ctx ((m a).1 ha) (by omega)))
theorem Closed.links {h : List Fault} {S : List Int} (hd : S.Nodup) : Links (isoL h S) := by
 intro k hk
 rw [isoL_len] at hk ⊢
 rw [isoL_at hk]
 exact ⟨idxF_lt _ _, idxF_lt _ _⟩
theorem Closed.rch {h : List Fault} {S : List Int} (hc : Closed h S) {f a : Int} (hf : f ∈ S) (r : Rch h f a) : a ∈ S ∧ Rch (isoL h S) (posF S f) (posF S a) := by
 induction r with
 | refl => exact ⟨hf, .refl⟩
 | @cause a r q ih =>
  obtain ⟨i1, i2⟩ := ih
  have hm := (hc.cause a i1).resolve_right (by omega)
  refine ⟨hm, ?_⟩
  rw [← iso_cause i1]
  exact .cause i2 (by rw [iso_cause i1]; exact (posF_mem hm).1)
 | @ctx a r q ih =>
  obtain ⟨i1, i2⟩ := ih
  have hm := (hc.ctx a i1).resolve_right (by omega)
  refine ⟨hm, ?_⟩
  rw [← iso_ctx i1]
  exact .ctx i2 (by rw [iso_ctx i1]; exact (posF_mem hm).1)
theorem reach_all {h : List Fault} (hlk : Links h) {f : Int} (h0 : 0 ≤ f) (hf : f < h.length) :
  sortI (bfsF (isoL h (sortI (bfsF h f))) (posF (sortI (bfsF h f)) f)) = (List.range (sortI (bfsF h f)).length).map (fun (k : Nat) => (k : Int)) := by
 obtain ⟨hc, hm, hd⟩ := closed_reach hlk h0 hf
 have hall : ∀ a ∈ sortI (bfsF h f), Rch h f a := fun a ha => ((bfsF_iff hlk h0 hf).2 a).1 (sortI_mem.1 ha)
 generalize hS : sortI (bfsF h f) = S at hc hm hd hall ⊢
 obtain ⟨p1, p2, p3⟩ := posF_mem hm
 have hl2 : Links (isoL h S) := Closed.links hd
 obtain ⟨b1, b2⟩ := bfsF_iff hl2 p1 (by rw [isoL_len]; exact p2)
 have hn := bfsF_nums hl2 p1 (by rw [isoL_len]; exact p2)
 have s2 : ((List.range S.length).map (fun (k : Nat) => (k : Int))).Pairwise (fun a b => a < b) := by
  rw [List.pairwise_map]
  exact List.pairwise_lt_range.imp (fun q => by omega)
 have hsf : sortedF ((List.range S.length).map (fun (k : Nat) => (k : Int))) = (List.range S.length).map (fun (k : Nat) => (k : Int)) := by
  have a2 := sortedF_asc ((List.range S.length).map (fun (k : Nat) => (k : Int)))
  have pm : (sortedF ((List.range S.length).map (fun (k : Nat) => (k : Int)))).Perm ((List.range S.length).map (fun (k : Nat) => (k : Int))) :=
   (List.perm_ext_iff_of_nodup (a2.imp (fun q => by omega)) (s2.imp (fun q => by omega))).2 fun a => sortedF_iff
  exact pm.eq_of_pairwise (fun a b _ _ q1 q2 => by omega) (a2.imp (fun q => Int.le_of_lt q)) (s2.imp (fun q => Int.le_of_lt q))
 rw [← hsf]
 refine sort_ext b1 fun a => ?_
 rw [List.mem_map]
 constructor
 ·intro ha
  have := hn.mem a ha
  rw [isoL_len] at this
  exact ⟨a.toNat, by simp; omega, by omega⟩
 ·rintro ⟨k, hk, rfl⟩
  rw [List.mem_range] at hk
  rw [b2, ← posF_at hd hk]
  have hkm : S.getD k default ∈ S := by rw [List.getD_eq_getElem?_getD, List.getElem?_eq_getElem hk]; exact List.getElem_mem hk
  exact (hc.rch hm (hall _ hkm)).2
def natsF (n : Nat) : List Int := (List.range n).map (fun (k : Nat) => (k : Int))
theorem Closed.last {h : List Fault} {S : List Int} (hc : Closed h S) (hcm : Calm h) {a : Int} (ha : a ∈ S) : ctxOf (isoL h S) (lastI (chainF (isoL h S) (posF S a))) = -1 := by
 have hw : chainF (isoL h S) (posF S a) = (chainF h a).map (posF S) := by
  unfold chainF
  rw [isoL_len]
  exact walk_iso (S := S) (n := h.length) hc.mem (nx := ctxOf h) (nx' := ctxOf (isoL h S)) hc.ctx (fun a ha => iso_ctx ha) (h.length + 1) (S.length + 1) [] a (.inl ha) (fun a ha => by cases ha) (by have := freeN_nil h.length; omega) (by have := freeN_nil S.length; simp only [List.map_nil]; omega)
 have h0 := hc.mem a ha
 have hne := List.length_pos_iff.2 (chainF_ne (h := h) h0.1)
 have hl : (chainF h a).length - 1 < (chainF h a).length := by omega
 have hmem : ∀ b ∈ chainF h a, b ∈ S := by
  intro b hb
  have key := walkG_mem (nx := ctxOf h) (p := fun a => a ∈ S ∨ a < 0) (fun a a0 ha => hc.ctx a (ha.resolve_right (by omega))) (h.length + 1) [] a (.inl ha) b hb
  rcases key with q | ⟨q0, q⟩
  ·cases q
  ·exact q.resolve_right (by omega)
 have hlm : lastI (chainF h a) ∈ S := hmem _ (by unfold lastI; rw [List.getD_eq_getElem?_getD, List.getElem?_eq_getElem hl]; exact List.getElem_mem hl)
 have e : lastI ((chainF h a).map (posF S)) = posF S (lastI (chainF h a)) := by
  unfold lastI
  rw [List.length_map, List.getD_eq_getElem?_getD, List.getD_eq_getElem?_getD, List.getElem?_map, List.getElem?_eq_getElem hl]; rfl
 have hlast := hcm.last a.toNat (by omega)
 rw [lastOk, decide_eq_true_eq, Int.toNat_of_nonneg h0.1] at hlast
 rw [hw, e, iso_ctx hlm, hlast]
 exact (hc.pos (.inr (by omega))).2 (by omega)
theorem valid_isoG {t : List Class} {h : List Fault} {S : List Int} (v1 : (List.range h.length).all (faultOk t h) = true) (hcm : Calm h) (v3 : validT t = true) (hc : Closed h S) (hd : S.Nodup) (hlen : S.length ≤ 24) : validH t (isoL h S) = true := by
 have link : ∀ (k : Nat), k < S.length → ∀ b : Int, (b ∈ S ∨ b < 0) → b ≠ S.getD k default → linkF S.length k (posF S b) = true := by
  intro k hk b hb hne
  have hkm : S.getD k default ∈ S := by rw [List.getD_eq_getElem?_getD, List.getElem?_eq_getElem hk]; exact List.getElem_mem hk
  rcases hb with q | q
  ·obtain ⟨p1, p2, p3⟩ := posF_mem q
   have hne2 : ¬ posF S b = k := fun e => hne (posF_inj q hkm (by rw [e, posF_at hd hk]))
   simp only [linkF,inR,Bool.or_eq_true,Bool.and_eq_true,decide_eq_true_eq,Bool.not_eq_true',decide_eq_false_iff_not]
   omega
  ·rw [(hc.pos (.inr q)).2 q]; simp [linkF]
 simp only [validH,Bool.and_eq_true,decide_eq_true_eq,List.all_eq_true,List.mem_range,isoL_len]
 refine ⟨fun k hk => ?_, fun k hk => ?_, v3, hlen⟩
 ·have hkm : S.getD k default ∈ S := by rw [List.getD_eq_getElem?_getD, List.getElem?_eq_getElem hk]; exact List.getElem_mem hk
  have hin := hc.mem _ hkm
  have hf := (List.all_eq_true.1 v1) (S.getD k default).toNat (List.mem_range.2 (by omega))
  simp only [faultOk,Bool.and_eq_true] at hf ⊢
  rw [isoL_at hk, isoL_len]
  have n1 : causeOf h (S.getD k default) ≠ S.getD k default := by
   have := hf.1.2
   unfold causeOf
   simp only [linkF,inR,Bool.or_eq_true,Bool.and_eq_true,decide_eq_true_eq,Bool.not_eq_true',decide_eq_false_iff_not] at this
   omega
  have n2 : ctxOf h (S.getD k default) ≠ S.getD k default := by
   have := hf.2
   unfold ctxOf
   simp only [linkF,inR,Bool.or_eq_true,Bool.and_eq_true,decide_eq_true_eq,Bool.not_eq_true',decide_eq_false_iff_not] at this
   omega
  exact ⟨⟨hf.1.1, link k hk _ (hc.cause _ hkm) n1⟩, link k hk _ (hc.ctx _ hkm) n2⟩
 ·have hkm : S.getD k default ∈ S := by rw [List.getD_eq_getElem?_getD, List.getElem?_eq_getElem hk]; exact List.getElem_mem hk
  have := hc.last hcm hkm
  rw [posF_at hd hk] at this
  rw [lastOk, decide_eq_true_eq]
  exact this
end
section
open Go Go.Sim
set_option maxRecDepth 100000

theorem calm_heap {fs : List Fault} (ho : heapOk fs) : Calm fs := by
 refine .of_ends (fun k hk => by have := ho k hk; omega) (fun k hk => ?_)
 have key : ∀ n : Nat, ∀ k : Nat, k < n → k < fs.length → Ends (ctxOf fs) k := by
  intro n
  induction n with
  | zero => intro k hk; omega
  | succ n ih =>
   intro k hk hl
   obtain ⟨o1, o2, o3⟩ := ho k hl
   refine .step ?_
   have e : ctxOf fs k = (fs.getD k default).ctx := by unfold ctxOf; rw [Int.toNat_natCast]
   rw [e]
   by_cases c : (fs.getD k default).ctx < 0
   ·exact .neg c
   ·obtain ⟨m, hm⟩ : ∃ m : Nat, (fs.getD k default).ctx = m := ⟨(fs.getD k default).ctx.toNat, by omega⟩
    rw [hm]
    exact ih m (by omega) (by omega)
 exact key (k + 1) k (by omega) hk
structure RunOut (t : List Class) (r : En × RS) (R : Res) : Prop where
 valid : validH t R.heap = true
 low : 0 ≤ R.val
 high : R.val < R.heap.length
 reach : sortI (bfsF R.heap R.val) = natsF R.heap.length
 cls : (R.heap.getD R.val.toNat default).cls = clsOf r.2 r.1.val
 code : (R.heap.getD R.val.toNat default).code = (r.2.fs.getD r.1.val.toNat default).code
theorem run_out {t : List Class} {r : En × RS} (ht : validT t = true) (hf : FsOk t r.2.fs) (h2 : r.1.ed = 2) (h0 : 0 ≤ r.1.val) (h1 : r.1.val < r.2.fs.length) (hd : dep r.2.fs r.1.val ≤ 24) : RunOut t r (resOf r) := by
 have ho := hf.ho
 have hlk : Links r.2.fs := heapOk_links ho
 obtain ⟨hc, hm, hn⟩ := closed_reach hlk h0 h1
 have hra := reach_all hlk h0 h1
 have hlen : (sortI (bfsF r.2.fs r.1.val)).length ≤ 24 := by
  rw [sort_dch ho h0 h1, List.length_reverse]; exact hd
 rw [res_two h2]
 unfold isoR
 generalize sortI (bfsF r.2.fs r.1.val) = S at hc hm hn hra hlen ⊢
 obtain ⟨p1, p2, p3⟩ := posF_mem hm
 have hat : (isoL r.2.fs S).getD (posF S r.1.val).toNat default = isoAt r.2.fs S r.1.val := by rw [isoL_at (by omega), p3]
 refine ⟨?_, p1, ?_, ?_, ?_, ?_⟩
 ·refine valid_isoG ?_ (calm_heap ho) ht hc hn hlen
  rw [List.all_eq_true]
  intro k hk
  have hk' := List.mem_range.1 hk
  obtain ⟨o1, o2, o3⟩ := ho k hk'
  obtain ⟨c1, c2⟩ := hf.cls k hk'
  simp only [faultOk,Bool.and_eq_true]
  refine ⟨⟨⟨c1, c2⟩, ?_⟩, ?_⟩
  ·rw [o1]; simp [linkF]
  ·simp only [linkF,inR,Bool.or_eq_true,Bool.and_eq_true,decide_eq_true_eq,Bool.not_eq_true',decide_eq_false_iff_not]
   omega
 ·show posF S r.1.val < (isoL r.2.fs S).length
  rw [isoL_len]; exact p2
 ·show sortI (bfsF (isoL r.2.fs S) (posF S r.1.val)) = natsF (isoL r.2.fs S).length
  rw [hra, isoL_len]; rfl
 ·show ((isoL r.2.fs S).getD (posF S r.1.val).toNat default).cls = _
  rw [hat]; rfl
 ·show ((isoL r.2.fs S).getD (posF S r.1.val).toNat default).code = _
  rw [hat]; rfl
theorem run_valid {t : List Class} {p : List Line} (h : ValidP t p) (h2 : (runP t p).1.ed = 2) : RunOut t (runP t p) (resOf (runP t p)) := by
 have hg := runP_goes h
 exact run_out h.1 hg.ok h2 (hg.val h2).1 (hg.val h2).2 (dep_top h h2)
end
section
open Go Go.Sim
set_option maxRecDepth 100000
def kd (p : List Line) (m : Nat) : Int := (p.getD m default).kind
/-! ### What encloses a line -/
/-! ### What is behind jumps -/
/-! ### The line that a line goes on with -/
/-! ### Flags, line by line -/
end
section
open Go Go.Sim
set_option maxRecDepth 100000
set_option maxHeartbeats 4000000

theorem At.sub {p : List Line} {i : Nat} {d : Int} {f : Fo} (h : At p i d f) : (p.take (i + f.size)).drop i = f.flat d := by
 obtain ⟨pre, post, rfl, rfl, _⟩ := h
 have e1 : (pre ++ (f.flat d ++ post)).take (pre.length + f.size) = pre ++ f.flat d := by
  rw [← List.append_assoc, ← flat_len f d, ← List.length_append, List.take_left]
 rw [e1, List.drop_left]
end
end
section
set_option maxRecDepth 100000
attribute [local go_sem ↓] aw_skip aw_ret aw_exit aw_region aw_draw aw_seq aw_block aw_loop aw_cond frz_nil frz_cons sq_normal sq_ret sq_exit exB_normal exB_ret exB_same exB_other retQ_ret retQ_normal ret0_ret ret0_normal ao_nil go1 g_move g_assign g_pick g_build g_load g_binOp g_unOp g_convert g_fieldAddr g_field g_indexAddr g_index g_extract g_lookup g_slice g_nilCheck g_len g_makeFunc h_call h_append h_alloc h_box h_buildSlice h_makeSlice h_store gV i_box i_buildSlice i_move i_assign i_build i_load i_binOp i_unOp i_convert i_fieldAddr i_field i_indexAddr i_index i_extract i_lookup i_makeMap i_mapUpdate i_slice i_nilCheck i_makeFunc i_len i_max i_min i_alloc i_makeSlice i_store i_append i_call i_pick boxI boxA buildSliceI buildSliceA makeSliceA makeMapA allocA storeA p_move p_assign p_pick p_build p_load p_binOp p_unOp p_convert p_fieldAddr p_field p_indexAddr p_index p_extract p_lookup p_makeMap p_mapUpdate p_slice p_nilCheck p_makeFunc p_len p_max p_min p_alloc p_box p_buildSlice p_makeSlice p_store p_append p_call x_nil x_go1 x_g0 x_g1 x_g2 x_g3 x_s0 x_s1 x_s2 x_s3 u_move u_assign u_pick u_build u_load u_binOp u_unOp u_convert u_fieldAddr u_field u_indexAddr u_index u_extract u_lookup u_slice u_nilCheck u_makeFunc u_len u_buildSlice x_s4 x_g4 rq_normal rq_ret rq_exit aw_range
attribute [local go_sem] frzV_sl frzK_some set_none set_other AHeap.set_self set_del set_set cnd_t cnd_f cnd_b retA_one retA_two retA_three retA_four retA_nil gIf_b mrgV_b mrgV_wh mrgV_U gIf_U gIf_wh mrgB_f mrgB_some mrgB_if wh_true wh_false keepA_some keepA_if gD_zero gD_succ gT_some bxA_t bxA_f callA_fn ev_tmp ev_const ev_global ev_func oc_bool oc_int oc_string oc_nil oc_nilptr oc_nilfunc cl_bool cl_int cl_string cl_nil updO_some updO_none upd_same upd_other init_at pickA_b pickA_wh selA_t selA_f selA_and selA_or selA_orn selA_orm selA_bb selA_ii beqt b_add b_sub b_mul b_and b_or b_xor b_eql b_neq b_lss b_leq b_gtr b_geq b_quo b_rem b_shr b_seql b_sneq b_sadd b_beql b_bneq b_aeql b_aneq u_not u_neg isConstOp eqA eqCellV List.getD_cons_zero List.getD_cons_succ List.map_cons List.map_nil List.nil_append List.cons_append List.append_nil if_true if_false Option.map_some Option.map_none ne_eq not_false_eq_true oneA ldv ld1v ld1s wr1s ldRow stRow row_lit row_agg row_vsl row_sl row_ptr row_fn one_I one_B one_S one_vsl one_sl one_ptr one_fn extractA okA rI rS rU rClass rFault rExit rStart rLine Int.toNat_natCast List.length_cons List.length_nil List.length_map List.all_cons List.all_nil Bool.and_true Nat.zero_add List.getElem?_cons_zero List.getElem?_cons_succ List.take_succ_cons List.take_zero List.drop_succ_cons List.drop_zero and_self true_and and_true implies_true decide_eq_true_eq decide_eq_false_iff_not Bool.or_eq_true Bool.or_eq_false_iff Bool.and_eq_true Bool.not_eq_true' Bool.not_eq_false' beq_false decide_true decide_false Int.ofNat_lt Int.ofNat_le Int.natCast_nonneg Bool.or_true Bool.or_false Bool.true_or Bool.false_or beq_self_eq_true List.drop_one Bool.not_true Bool.not_false Bool.not_not Bool.false_eq_true Bool.true_eq_false false_implies true_implies Bool.true_and Bool.false_and Bool.and_false not_true_eq_false Int.natCast_eq_zero Int.natCast_pos Int.natCast_zero false_and and_false or_false false_or or_true true_or Bool.or_self none_le_iff List.replicate_zero Int.toNat_zero List.replicate_succ buildRows List.set_cons_zero List.set_cons_succ List.set_nil List.mapM_nil maxLen_eq Nat.zero_le Nat.mul_one Nat.one_mul bldA fillA spliceA List.take_nil List.drop_nil List.getElem?_nil ld1o wr1o bldSliceA le_same cv_i cvI_t quietT_fn qvd_some ld_o ldO_1 ldO_l wr_o wrO_1 set_2 set_3 set_4 putL_nil putL_cons List.zip_cons_cons List.zip_nil_left List.zip_nil_right List.toList_toArray frzV_set ti1 ti2 tk2 ti3 te3 ts3 tk3 tz3 ti4 tb4 ti5 tk5 tz5 ti9 te9 ts9 tk9 tz9 ti20 ti22 te22 tz22 ti23 te23 ti25 tp25 tf25_0 ti26 te26 ti29 te29 ti30 te30 ti32 tp32 tf32_0 ti34 tp34 tf34_0 tf34_1 tf34_2 tf34_3 ti41 tq41 tp41 tf41_0 tf41_1 tf41_2 tf41_3 ti44 tq44 tp44 tf44_0 tf44_1 tf44_2 ti45 te45 ti47 tq47 tp47 tf47_0 tf47_1 tf47_2 ti56 te56 ti58 tp58 tf58_0 ti59 te59 ti71 te71 ti84 ti88 tq88 tp88 tf88_0 tf88_1 ti103 tq103 tp103 tf103_0 tf103_1 tf103_2 tf103_3 tf103_4 ti106 ti109 ti113 tq113 tp113 tf113_0 tf113_1 tf113_2 tf113_3 ti120 tq120 tp120 tf120_0 tf120_1 tf120_2 ti124 ti129 tp129 tf129_0 tf129_1 tf129_2 tf129_3 tf129_4 ti136 ti138 tp138 tf138_0 tf138_1 tf138_2 tf138_3 ti140 tq140 tp140 tf140_0 tf140_1 ti144 tq144 tp144 tf144_0 tf144_1 ti151 te151 ti159 tp159 tf159_0 tf159_1 tf159_2 ti164 ti165 ti167 ti169 tq169 tp169 tf169_0 tf169_1 ti186 ti202 ti205 tk205 tz205 ti209 tk209 ti217 tk217 tz217 ti219 tk219 tz219 ti220 tk220 ti224 ti226 fp13_0 fv13_0 fp13_1 fv13_1 fp24_0 fv24_0 fp25_0 fv25_0 fp31_0 fv31_0 fp32_0 fv32_0 fp33_0 fv33_0 fp33_1 fv33_1 fp33_2 fv33_2 fp33_3 fv33_3 fp34_0 fv34_0 fp34_1 fv34_1 fp34_2 fv34_2 fp34_3 fv34_3 fp40_0 fv40_0 fp40_1 fv40_1 fp40_2 fv40_2 fp40_3 fv40_3 fp41_0 fv41_0 fp41_1 fv41_1 fp41_2 fv41_2 fp41_3 fv41_3 fp43_0 fv43_0 fp43_1 fv43_1 fp43_2 fv43_2 fp44_0 fv44_0 fp44_1 fv44_1 fp44_2 fv44_2 fp46_0 fv46_0 fp46_1 fv46_1 fp46_2 fv46_2 fp47_0 fv47_0 fp47_1 fv47_1 fp47_2 fv47_2 fp57_0 fv57_0 fp58_0 fv58_0 fp72_0 fv72_0 fp72_1 fv72_1 fp72_2 fv72_2 fp87_0 fv87_0 fp87_1 fv87_1 fp88_0 fv88_0 fp88_1 fv88_1 fp102_0 fv102_0 fp102_1 fv102_1 fp102_2 fv102_2 fp102_3 fv102_3 fp102_4 fv102_4 fp103_0 fv103_0 fp103_1 fv103_1 fp103_2 fv103_2 fp103_3 fv103_3 fp103_4 fv103_4 fp113_0 fv113_0 fp113_1 fv113_1 fp113_2 fv113_2 fp113_3 fv113_3 fp120_0 fv120_0 fp120_1 fv120_1 fp120_2 fv120_2 fp126_0 fv126_0 fp126_1 fv126_1 fp127_0 fv127_0 fp127_1 fv127_1 fp128_0 fv128_0 fp128_1 fv128_1 fp128_2 fv128_2 fp128_3 fv128_3 fp128_4 fv128_4 fp129_0 fv129_0 fp129_1 fv129_1 fp129_2 fv129_2 fp129_3 fv129_3 fp129_4 fv129_4 fp137_0 fv137_0 fp137_1 fv137_1 fp137_2 fv137_2 fp137_3 fv137_3 fp138_0 fv138_0 fp138_1 fv138_1 fp138_2 fv138_2 fp138_3 fv138_3 fp139_0 fv139_0 fp139_1 fv139_1 fp140_0 fv140_0 fp140_1 fv140_1 fp143_0 fv143_0 fp143_1 fv143_1 fp144_0 fv144_0 fp144_1 fv144_1 fp158_0 fv158_0 fp158_1 fv158_1 fp158_2 fv158_2 fp159_0 fv159_0 fp159_1 fv159_1 fp159_2 fv159_2 fp169_0 fv169_0 fp169_1 fv169_1 lv22 ll22 is22 ix22 sh22 so22 sb22 sm22 sp22 lv23 ll23 is23 ix23 sh23 so23 sb23 sm23 sp23 lv26 ll26 is26 ix26 sh26 so26 sb26 sm26 sp26 lv29 ll29 is29 ix29 sh29 so29 sb29 sm29 sp29 lv30 ll30 is30 ix30 sh30 so30 sb30 sm30 sp30 lv45 ll45 is45 ix45 sh45 so45 sb45 sm45 sp45 lv56 ll56 is56 sp56 lv59 ll59 is59 sp59 lv71 ll71 is71 sp71 lv149 ll149 is149 sp149 lv151 ll151 is151 sp151 lv177 ll177 is177 ix177 sh177 so177 sb177 sm177 sp177 xs9 ls9 sx9 sy9 sz9
section
open Go Go.Sim
set_option maxRecDepth 100000
set_option maxHeartbeats 4000000

def stOf (t : List Class) (R : Res) : Sta × Bool :=
 if validT t = true then
  (if R.ed = 0 then (⟨false, 0, 0⟩, true)
   else if R.ed = 2 ∧ (validH t R.heap && inR R.val 0 (R.heap.length - 1)) = true then (⟨true, (R.heap.getD R.val.toNat default).cls, (R.heap.getD R.val.toNat default).code⟩, true)
   else (⟨false, 0, 0⟩, false))
 else (⟨false, 0, 0⟩, false)
theorem st_out {t : List Class} {r : En × RS} (ht : validT t = true) (ho : RunOut t r (resOf r)) (h2 : r.1.ed = 2) : stOf t (resOf r) = (⟨true, clsOf r.2 r.1.val, (r.2.fs.getD r.1.val.toNat default).code⟩, true) ∧ hasF t (clsOf r.2 r.1.val) = true := by
 have e2 : (resOf r).ed = 2 := by rw [res_ed, h2]
 rw [stOf, if_pos ht, if_neg (by rw [e2]; decide), if_pos ⟨e2, by rw [ho.valid, Bool.true_and]; exact inR_len.2 ⟨ho.low, ho.high⟩⟩, ho.cls, ho.code]
 refine ⟨rfl, ?_⟩
 have hl := ho.low
 have hh := ho.high
 have hc := validH_cls ho.valid (resOf r).val.toNat (by omega)
 rw [ho.cls] at hc
 simp only [hasF,inR,Bool.and_eq_true,decide_eq_true_eq]
 omega
theorem st_else {t : List Class} {R : Res} (ht : validT t = true) (h2 : R.ed ≠ 2) : stOf t R = (⟨false, 0, 0⟩, decide (R.ed = 0)) := by
 rw [stOf, if_pos ht]
 by_cases h0 : R.ed = 0
 ·rw [if_pos h0, decide_eq_true h0]
 ·rw [if_neg h0, if_neg (fun h => h2 h.1), decide_eq_false h0]
theorem heap_small {t : List Class} {p : List Line} (hv : ValidP t p) : (resOf (runP t p)).heap.length ≤ 1000000 := by
 by_cases h2 : (runP t p).1.ed = 2
 ·have := (validH_all (run_valid hv h2).valid).2.2.2; omega
 ·rw [res_else h2]; exact Nat.zero_le _
theorem c_mStartOf (t : List Class) (cl : Bool) (R : Res) (c1 c2 : Bool) (H : AHeap) (hn : namesOk t) (hl : R.heap.length ≤ 1000000) : ACalls Tryz.prog 16 [aTree t cl, aRes R c1 c2] H fun r H' => r = .tup [.agg (rStart (stOf t R).1), B (stOf t R).2] ∧ H' = H := by
 refine acalls_of1 Tryz.func16 rfl (by kernel_rfl) rfl rfl (awp_sound (fz := fun _ => []) (im := fun s => s == 2 || s == 3 || s == 27) mixed _ _ _ _ (by kernel_rfl) ?_)
 simp +contextual -dsimp -implicitDefEqProofs (maxSteps:=5000000) only [go_sem,reduceIte,reduceCtorEq,Nat.reduceEqDiff,Nat.reduceBEq,Nat.reduceAdd,Nat.reduceLeDiff,Nat.reduceMul,Nat.reduceLT,Int.reduceEq,Int.reduceLT,Int.reduceLE]
 intro b4 hb4
 refine (c_ValidTree t cl _ hn).det ?_
 cases hv : validT t
 ·simp +contextual -dsimp -implicitDefEqProofs (maxSteps:=5000000) only [go_sem,reduceIte,reduceCtorEq,Nat.reduceEqDiff,Nat.reduceBEq,Nat.reduceAdd,Nat.reduceLeDiff,Nat.reduceMul,Nat.reduceLT,Int.reduceEq,Int.reduceLT,Int.reduceLE]
  refine retR_less (l := [.agg (rStart (stOf t R).1), B (stOf t R).2]) (H' := H) ?_ (le_set hb4) ⟨rfl, rfl⟩
  simp only [stOf,hv,if_true,if_false,resA,go_sem,reduceIte,reduceCtorEq,Nat.reduceEqDiff,Nat.reduceBEq,Nat.reduceAdd,Nat.reduceLeDiff,Nat.reduceMul,Nat.reduceLT,Int.reduceEq,Int.reduceLT,Int.reduceLE]
  try rfl
 ·simp +contextual -dsimp -implicitDefEqProofs (maxSteps:=5000000) only [go_sem,reduceIte,reduceCtorEq,Nat.reduceEqDiff,Nat.reduceBEq,Nat.reduceAdd,Nat.reduceLeDiff,Nat.reduceMul,Nat.reduceLT,Int.reduceEq,Int.reduceLT,Int.reduceLE]
  refine ⟨fun h0 => ?_, fun h0 => ?_⟩
  refine retR_less (l := [.agg (rStart (stOf t R).1), B (stOf t R).2]) (H' := H) ?_ (le_set hb4) ⟨rfl, rfl⟩
  simp only [stOf,hv,h0,if_true,if_false,resA,go_sem,reduceIte,reduceCtorEq,Nat.reduceEqDiff,Nat.reduceBEq,Nat.reduceAdd,Nat.reduceLeDiff,Nat.reduceMul,Nat.reduceLT,Int.reduceEq,Int.reduceLT,Int.reduceLE]
  try rfl
  refine ⟨fun h2 => ?_, fun h2 => ?_⟩
  ·refine (c_faultsIn t cl R.heap c2 [R.val] true _ hn hl).det ?_
   simp only [List.all_cons,List.all_nil,Bool.and_true]
   cases hg : validH t R.heap && inR R.val 0 (R.heap.length - 1)
   ·simp +contextual -dsimp -implicitDefEqProofs (maxSteps:=5000000) only [go_sem,reduceIte,reduceCtorEq,Nat.reduceEqDiff,Nat.reduceBEq,Nat.reduceAdd,Nat.reduceLeDiff,Nat.reduceMul,Nat.reduceLT,Int.reduceEq,Int.reduceLT,Int.reduceLE,h2]
    refine retR_less (l := [.agg (rStart (stOf t R).1), B (stOf t R).2]) (H' := H) ?_ (le_set hb4) ⟨rfl, rfl⟩
    simp only [stOf,hv,h0,h2,hg,if_true,if_false,resA,go_sem,reduceIte,reduceCtorEq,Nat.reduceEqDiff,Nat.reduceBEq,Nat.reduceAdd,Nat.reduceLeDiff,Nat.reduceMul,Nat.reduceLT,Int.reduceEq,Int.reduceLT,Int.reduceLE]
    try rfl
   ·have hg2 := hg
    rw [Bool.and_eq_true] at hg2
    have hi := inR_len.1 hg2.2
    have i2 : R.val.toNat < R.heap.length := by omega
    simp +contextual -dsimp -implicitDefEqProofs (maxSteps:=5000000) only [go_sem,reduceIte,reduceCtorEq,Nat.reduceEqDiff,Nat.reduceBEq,Nat.reduceAdd,Nat.reduceLeDiff,Nat.reduceMul,Nat.reduceLT,Int.reduceEq,Int.reduceLT,Int.reduceLE,h2,hi.1,hi.2,i2]
    rintro b6 ⟨s1, s2, hb6⟩
    refine retR_less (l := [.agg (rStart (stOf t R).1), B (stOf t R).2]) (H' := H) ?_ (le_s1 (le_s1 (AHeap.le_refl _) hb4) hb6) ⟨rfl, rfl⟩
    have e0 : ¬ (2 : Int) = 0 := by decide
    simp only [stOf,hv,h0,h2,hg,e0,and_self,if_true,if_false,resA,go_sem,reduceIte,reduceCtorEq,Nat.reduceEqDiff,Nat.reduceBEq,Nat.reduceAdd,Nat.reduceLeDiff,Nat.reduceMul,Nat.reduceLT,Int.reduceEq,Int.reduceLT,Int.reduceLE,s1,s2]
    try rfl
  ·
   refine retR_less (l := [.agg (rStart (stOf t R).1), B (stOf t R).2]) (H' := H) ?_ (le_set hb4) ⟨rfl, rfl⟩
   simp only [stOf,hv,h0,h2,false_and,if_true,if_false,resA,go_sem,reduceIte,reduceCtorEq,Nat.reduceEqDiff,Nat.reduceBEq,Nat.reduceAdd,Nat.reduceLeDiff,Nat.reduceMul,Nat.reduceLT,Int.reduceEq,Int.reduceLT,Int.reduceLE]
   try rfl
theorem c_sStartOf (t : List Class) (cl : Bool) (R : Res) (c1 c2 : Bool) (H : AHeap) (hn : namesOk t) (hl : R.heap.length ≤ 1000000) : ACalls Tryz.prog 68 [aTree t cl, aRes R c1 c2] H fun r H' => r = .tup [.agg (rStart (stOf t R).1), B (stOf t R).2] ∧ H' = H := by
 refine acalls_of1 Tryz.func68 rfl (by kernel_rfl) rfl rfl (awp_sound (fz := fun _ => []) (im := fun s => s == 2 || s == 3) mixed _ _ _ _ (by kernel_rfl) ?_)
 simp +contextual -dsimp -implicitDefEqProofs (maxSteps:=5000000) only [go_sem,reduceIte,reduceCtorEq,Nat.reduceEqDiff,Nat.reduceBEq,Nat.reduceAdd,Nat.reduceLeDiff,Nat.reduceMul,Nat.reduceLT,Int.reduceEq,Int.reduceLT,Int.reduceLE]
 intro b4 hb4
 refine (c_validTree t cl _ hn).det ?_
 cases hv : validT t
 ·
  simp +contextual -dsimp -implicitDefEqProofs (maxSteps:=5000000) only [go_sem,reduceIte,reduceCtorEq,Nat.reduceEqDiff,Nat.reduceBEq,Nat.reduceAdd,Nat.reduceLeDiff,Nat.reduceMul,Nat.reduceLT,Int.reduceEq,Int.reduceLT,Int.reduceLE]
  refine retR_less (l := [.agg (rStart (stOf t R).1), B (stOf t R).2]) (H' := H) ?_ (le_set hb4) ⟨rfl, rfl⟩
  simp only [stOf,hv,if_true,if_false,resA,go_sem,reduceIte,reduceCtorEq,Nat.reduceEqDiff,Nat.reduceBEq,Nat.reduceAdd,Nat.reduceLeDiff,Nat.reduceMul,Nat.reduceLT,Int.reduceEq,Int.reduceLT,Int.reduceLE]
  try rfl
 ·simp +contextual -dsimp -implicitDefEqProofs (maxSteps:=5000000) only [go_sem,reduceIte,reduceCtorEq,Nat.reduceEqDiff,Nat.reduceBEq,Nat.reduceAdd,Nat.reduceLeDiff,Nat.reduceMul,Nat.reduceLT,Int.reduceEq,Int.reduceLT,Int.reduceLE]
  refine ⟨fun q => ?_, fun q => ⟨fun h0 => ?_, fun h0 => ?_⟩⟩
  ·obtain ⟨h0, h2⟩ := q
   refine retR_less (l := [.agg (rStart (stOf t R).1), B (stOf t R).2]) (H' := H) ?_ (le_set hb4) ⟨rfl, rfl⟩
   simp only [stOf,hv,h0,h2,false_and,if_true,if_false,resA,go_sem,reduceIte,reduceCtorEq,Nat.reduceEqDiff,Nat.reduceBEq,Nat.reduceAdd,Nat.reduceLeDiff,Nat.reduceMul,Nat.reduceLT,Int.reduceEq,Int.reduceLT,Int.reduceLE]
   try rfl
  ·refine retR_less (l := [.agg (rStart (stOf t R).1), B (stOf t R).2]) (H' := H) ?_ (le_set hb4) ⟨rfl, rfl⟩
   simp only [stOf,hv,h0,if_true,if_false,resA,go_sem,reduceIte,reduceCtorEq,Nat.reduceEqDiff,Nat.reduceBEq,Nat.reduceAdd,Nat.reduceLeDiff,Nat.reduceMul,Nat.reduceLT,Int.reduceEq,Int.reduceLT,Int.reduceLE]
   try rfl
  ·have h2 : R.ed = 2 := by
    by_cases c : R.ed = 2
    ·exact c
    ·rw [decide_eq_false h0, decide_eq_false c] at q; cases q
   refine (c_goodFault t cl R.heap c2 R.val _ hn hl).det ?_
   cases hg : validH t R.heap && inR R.val 0 (R.heap.length - 1)
   ·simp +contextual -dsimp -implicitDefEqProofs (maxSteps:=5000000) only [go_sem,reduceIte,reduceCtorEq,Nat.reduceEqDiff,Nat.reduceBEq,Nat.reduceAdd,Nat.reduceLeDiff,Nat.reduceMul,Nat.reduceLT,Int.reduceEq,Int.reduceLT,Int.reduceLE]
    refine retR_less (l := [.agg (rStart (stOf t R).1), B (stOf t R).2]) (H' := H) ?_ (le_set hb4) ⟨rfl, rfl⟩
    simp only [stOf,hv,h0,h2,hg,if_true,if_false,resA,go_sem,reduceIte,reduceCtorEq,Nat.reduceEqDiff,Nat.reduceBEq,Nat.reduceAdd,Nat.reduceLeDiff,Nat.reduceMul,Nat.reduceLT,Int.reduceEq,Int.reduceLT,Int.reduceLE]
    try rfl
   ·have hg2 := hg
    rw [Bool.and_eq_true] at hg2
    have hi := inR_len.1 hg2.2
    have i2 : R.val.toNat < R.heap.length := by omega
    simp +contextual -dsimp -implicitDefEqProofs (maxSteps:=5000000) only [go_sem,reduceIte,reduceCtorEq,Nat.reduceEqDiff,Nat.reduceBEq,Nat.reduceAdd,Nat.reduceLeDiff,Nat.reduceMul,Nat.reduceLT,Int.reduceEq,Int.reduceLT,Int.reduceLE,hi.1,hi.2,i2]
    rintro b6 ⟨s1, s2, hb6⟩
    refine retR_less (l := [.agg (rStart (stOf t R).1), B (stOf t R).2]) (H' := H) ?_ (le_s1 (le_s1 (AHeap.le_refl _) hb4) hb6) ⟨rfl, rfl⟩
    have e0 : ¬ (2 : Int) = 0 := by decide
    simp only [stOf,hv,h0,h2,hg,e0,and_self,if_true,if_false,resA,go_sem,reduceIte,reduceCtorEq,Nat.reduceEqDiff,Nat.reduceBEq,Nat.reduceAdd,Nat.reduceLeDiff,Nat.reduceMul,Nat.reduceLT,Int.reduceEq,Int.reduceLT,Int.reduceLE,s1,s2]
    try rfl
end
end
end Go.Proofs.YtjpfgafdjlkblaaGreat
