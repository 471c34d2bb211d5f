/- Walks and plain laws that the claims of this seat lean on. No condition. -/
import Derived.Test.YtjpfgafdjlkblaaGreatJ4
import Derived.Test.YtjpfgafdjlkblaaGreatSimZ
import Derived.Test.YtjpfgafdjlkblaaGreatGrow
import Derived.Test.YtjpfgafdjlkblaaGreatJ2
import Derived.Test.YtjpfgafdjlkblaaGreatJ3
import Derived.Test.YtjpfgafdjlkblaaGreatSimY
set_option linter.unusedVariables false
set_option linter.unusedSimpArgs false
namespace Go.Proofs.YtjpfgafdjlkblaaGreat
open Go Go.Sim
section
set_option maxRecDepth 100000
attribute [local go_sem ↓] aw_skip aw_ret aw_exit aw_region aw_draw aw_seq aw_block aw_loop aw_cond frz_nil frz_cons sq_normal sq_ret sq_exit exB_normal exB_ret exB_same exB_other retQ_ret retQ_normal ret0_ret ret0_normal ao_nil go1 g_move g_assign g_pick g_build g_load g_binOp g_unOp g_convert g_fieldAddr g_field g_indexAddr g_index g_extract g_lookup g_slice g_nilCheck g_len g_makeFunc h_call h_append h_alloc h_box h_buildSlice h_makeSlice h_store gV i_box i_buildSlice i_move i_assign i_build i_load i_binOp i_unOp i_convert i_fieldAddr i_field i_indexAddr i_index i_extract i_lookup i_makeMap i_mapUpdate i_slice i_nilCheck i_makeFunc i_len i_max i_min i_alloc i_makeSlice i_store i_append i_call i_pick boxI boxA buildSliceI buildSliceA makeSliceA makeMapA allocA storeA p_move p_assign p_pick p_build p_load p_binOp p_unOp p_convert p_fieldAddr p_field p_indexAddr p_index p_extract p_lookup p_makeMap p_mapUpdate p_slice p_nilCheck p_makeFunc p_len p_max p_min p_alloc p_box p_buildSlice p_makeSlice p_store p_append p_call x_nil x_go1 x_g0 x_g1 x_g2 x_g3 x_s0 x_s1 x_s2 x_s3 u_move u_assign u_pick u_build u_load u_binOp u_unOp u_convert u_fieldAddr u_field u_indexAddr u_index u_extract u_lookup u_slice u_nilCheck u_makeFunc u_len u_buildSlice x_s4 x_g4 rq_normal rq_ret rq_exit aw_range
attribute [local go_sem] frzV_sl frzK_some set_none set_other AHeap.set_self set_del set_set cnd_t cnd_f cnd_b retA_one retA_two retA_three retA_four retA_nil gIf_b mrgV_b mrgV_wh mrgV_U gIf_U gIf_wh mrgB_f mrgB_some mrgB_if wh_true wh_false keepA_some keepA_if gD_zero gD_succ gT_some bxA_t bxA_f callA_fn ev_tmp ev_const ev_global ev_func oc_bool oc_int oc_string oc_nil oc_nilptr oc_nilfunc cl_bool cl_int cl_string cl_nil updO_some updO_none upd_same upd_other init_at pickA_b pickA_wh selA_t selA_f selA_and selA_or selA_orn selA_orm selA_bb selA_ii beqt b_add b_sub b_mul b_and b_or b_xor b_eql b_neq b_lss b_leq b_gtr b_geq b_quo b_rem b_shr b_seql b_sneq b_sadd b_beql b_bneq b_aeql b_aneq u_not u_neg isConstOp eqA eqCellV List.getD_cons_zero List.getD_cons_succ List.map_cons List.map_nil List.nil_append List.cons_append List.append_nil if_true if_false Option.map_some Option.map_none ne_eq not_false_eq_true oneA ldv ld1v ld1s wr1s ldRow stRow row_lit row_agg row_vsl row_sl row_ptr row_fn one_I one_B one_S one_vsl one_sl one_ptr one_fn extractA okA rI rS rU rClass rFault rExit rStart rLine Int.toNat_natCast List.length_cons List.length_nil List.length_map List.all_cons List.all_nil Bool.and_true Nat.zero_add List.getElem?_cons_zero List.getElem?_cons_succ List.take_succ_cons List.take_zero List.drop_succ_cons List.drop_zero and_self true_and and_true implies_true decide_eq_true_eq decide_eq_false_iff_not Bool.or_eq_true Bool.or_eq_false_iff Bool.and_eq_true Bool.not_eq_true' Bool.not_eq_false' beq_false decide_true decide_false Int.ofNat_lt Int.ofNat_le Int.natCast_nonneg Bool.or_true Bool.or_false Bool.true_or Bool.false_or beq_self_eq_true List.drop_one Bool.not_true Bool.not_false Bool.not_not Bool.false_eq_true Bool.true_eq_false false_implies true_implies Bool.true_and Bool.false_and Bool.and_false not_true_eq_false Int.natCast_eq_zero Int.natCast_pos Int.natCast_zero false_and and_false or_false false_or or_true true_or Bool.or_self none_le_iff List.replicate_zero Int.toNat_zero List.replicate_succ buildRows List.set_cons_zero List.set_cons_succ List.set_nil List.mapM_nil maxLen_eq Nat.zero_le Nat.mul_one Nat.one_mul bldA fillA spliceA List.take_nil List.drop_nil List.getElem?_nil ld1o wr1o bldSliceA le_same cv_i cvI_t quietT_fn qvd_some ld_o ldO_1 ldO_l wr_o wrO_1 set_2 set_3 set_4 putL_nil putL_cons List.zip_cons_cons List.zip_nil_left List.zip_nil_right List.toList_toArray frzV_set ti1 ti2 tk2 ti3 te3 ts3 tk3 tz3 ti4 tb4 ti5 tk5 tz5 ti9 te9 ts9 tk9 tz9 ti20 ti22 te22 tz22 ti23 te23 ti25 tp25 tf25_0 ti26 te26 ti29 te29 ti30 te30 ti32 tp32 tf32_0 ti34 tp34 tf34_0 tf34_1 tf34_2 tf34_3 ti41 tq41 tp41 tf41_0 tf41_1 tf41_2 tf41_3 ti44 tq44 tp44 tf44_0 tf44_1 tf44_2 ti45 te45 ti47 tq47 tp47 tf47_0 tf47_1 tf47_2 ti82 ti84 ti88 tq88 tp88 tf88_0 tf88_1 ti103 tq103 tp103 tf103_0 tf103_1 tf103_2 tf103_3 tf103_4 ti106 ti109 ti124 ti127 tp127 tf127_0 tf127_1 ti129 tp129 tf129_0 tf129_1 tf129_2 tf129_3 tf129_4 ti136 ti138 tp138 tf138_0 tf138_1 tf138_2 tf138_3 ti140 tq140 tp140 tf140_0 tf140_1 ti144 tq144 tp144 tf144_0 tf144_1 ti149 te149 ti151 te151 ti164 ti165 ti167 ti177 te177 ti186 ti202 ti205 tk205 tz205 ti209 tk209 ti217 tk217 tz217 ti219 tk219 tz219 ti220 tk220 ti224 ti226 fp13_0 fv13_0 fp13_1 fv13_1 fp24_0 fv24_0 fp25_0 fv25_0 fp31_0 fv31_0 fp32_0 fv32_0 fp33_0 fv33_0 fp33_1 fv33_1 fp33_2 fv33_2 fp33_3 fv33_3 fp34_0 fv34_0 fp34_1 fv34_1 fp34_2 fv34_2 fp34_3 fv34_3 fp40_0 fv40_0 fp40_1 fv40_1 fp40_2 fv40_2 fp40_3 fv40_3 fp41_0 fv41_0 fp41_1 fv41_1 fp41_2 fv41_2 fp41_3 fv41_3 fp43_0 fv43_0 fp43_1 fv43_1 fp43_2 fv43_2 fp44_0 fv44_0 fp44_1 fv44_1 fp44_2 fv44_2 fp46_0 fv46_0 fp46_1 fv46_1 fp46_2 fv46_2 fp47_0 fv47_0 fp47_1 fv47_1 fp47_2 fv47_2 fp57_0 fv57_0 fp58_0 fv58_0 fp72_0 fv72_0 fp72_1 fv72_1 fp72_2 fv72_2 fp87_0 fv87_0 fp87_1 fv87_1 fp88_0 fv88_0 fp88_1 fv88_1 fp102_0 fv102_0 fp102_1 fv102_1 fp102_2 fv102_2 fp102_3 fv102_3 fp102_4 fv102_4 fp103_0 fv103_0 fp103_1 fv103_1 fp103_2 fv103_2 fp103_3 fv103_3 fp103_4 fv103_4 fp113_0 fv113_0 fp113_1 fv113_1 fp113_2 fv113_2 fp113_3 fv113_3 fp120_0 fv120_0 fp120_1 fv120_1 fp120_2 fv120_2 fp126_0 fv126_0 fp126_1 fv126_1 fp127_0 fv127_0 fp127_1 fv127_1 fp128_0 fv128_0 fp128_1 fv128_1 fp128_2 fv128_2 fp128_3 fv128_3 fp128_4 fv128_4 fp129_0 fv129_0 fp129_1 fv129_1 fp129_2 fv129_2 fp129_3 fv129_3 fp129_4 fv129_4 fp137_0 fv137_0 fp137_1 fv137_1 fp137_2 fv137_2 fp137_3 fv137_3 fp138_0 fv138_0 fp138_1 fv138_1 fp138_2 fv138_2 fp138_3 fv138_3 fp139_0 fv139_0 fp139_1 fv139_1 fp140_0 fv140_0 fp140_1 fv140_1 fp143_0 fv143_0 fp143_1 fv143_1 fp144_0 fv144_0 fp144_1 fv144_1 fp158_0 fv158_0 fp158_1 fv158_1 fp158_2 fv158_2 fp159_0 fv159_0 fp159_1 fv159_1 fp159_2 fv159_2 fp169_0 fv169_0 fp169_1 fv169_1 lv22 ll22 is22 ix22 sh22 so22 sb22 sm22 sp22 lv23 ll23 is23 ix23 sh23 so23 sb23 sm23 sp23 lv26 ll26 is26 ix26 sh26 so26 sb26 sm26 sp26 lv29 ll29 is29 ix29 sh29 so29 sb29 sm29 sp29 lv30 ll30 is30 ix30 sh30 so30 sb30 sm30 sp30 lv45 ll45 is45 ix45 sh45 so45 sb45 sm45 sp45 lv56 ll56 is56 sp56 lv59 ll59 is59 sp59 lv71 ll71 is71 sp71 lv149 ll149 is149 sp149 lv151 ll151 is151 sp151 lv177 ll177 is177 ix177 sh177 so177 sb177 sm177 sp177 xs9 ls9 sx9 sy9 sz9
section
open Go Go.Sim
set_option maxRecDepth 100000
set_option maxHeartbeats 4000000

theorem c_GrowL (n : Nat) (H : AHeap) (hn : n ≤ 1000000) : ACalls Tryz.prog 109 [.vsl [] true, I n] H fun r H' => Grow rLine 4 41 H H' r [] := by
 rcases Nat.eq_zero_or_pos n with h0 | h0
 ·subst h0
  refine (acalls_grow0 (by kernel_rfl) fun base w => ?_).mono ?_
  ·exact Tryz.growRoomLine base 0 0 0 w (by omega) (by omega) (by omega) (by omega)
  ·rintro _ _ ⟨rfl, rfl⟩
   exact grow_nil
 ·obtain ⟨i, d, z, hi, hd, hz, hsz, hby, hag, hzl, hzs, hz1⟩ := tinfo_spec ti41
  have hzz : z.cells.size = 4 := by rw [hzs]
  refine acalls_growN (bytes := i.bytes) (by kernel_rfl) (by decide) (fun base m w hm hb h63 => ?_) h0 (by rw [hby]; show n * 32 ≤ _; omega) (by omega)
  refine (Any8.slices_Grow_grow Tryz.laysGrowLine i z hi hz (by rw [hsz]; decide) base 0 0 m [] w (by omega) (by omega) (by simpa using hb) (by simpa using h63) (by simp) (fun _ => rfl) (fun a _ j v hj => by simp at hj)).mono ?_
  rintro e w' ⟨rfl, rfl⟩
  refine ⟨by rw [Nat.zero_add]; rfl, _, rfl, ?_⟩
  have hge := grownCap_ge w (0 + m) 0 (Tryz.laysGrowLine_ren.t 25)
  simp only [Array.size_append,size_zeroCells,hzz,List.size_toArray,List.length_nil,Nat.zero_add,← Nat.add_mul] at hge ⊢
  refine Nat.mul_le_mul_right _ ?_
  show grownCap w m 0 (Tryz.laysGrowLine_ren.t 25) ≤ _
  omega
def rSeg (q : List Line × Bool) : List AV := [.vsl (q.1.map rLine) q.2]
theorem rSeg_len (q : List Line × Bool) : (rSeg q).length = 1 := rfl
def segs (ps : List (List Line × Bool)) : List Line := (ps.map (·.1)).flatten
theorem segs_next {ps : List (List Line × Bool)} {k : Nat} (h : k < ps.length) : segs (ps.take (k + 1)) = segs (ps.take k) ++ (ps.getD k default).1 := by
 unfold segs
 rw [List.take_succ_eq_append_getElem h, List.map_append, List.flatten_append, List.getD_eq_getElem?_getD, List.getElem?_eq_getElem h]
 simp
theorem segs_le (ps : List (List Line × Bool)) (k : Nat) : (segs (ps.take k)).length ≤ (segs ps).length := by
 have : segs ps = segs (ps.take k) ++ segs (ps.drop k) := by
  unfold segs
  rw [← List.flatten_append, ← List.map_append, List.take_append_drop]
 rw [this, List.length_append]; omega
theorem c_ConcatL (ps : List (List Line × Bool)) (cl : Bool) (H : AHeap) (hb : (segs ps).length ≤ 1000000) : ACalls Tryz.prog 60 [.vsl (ps.map rSeg) cl] H fun r H' => Grow rLine 4 41 H H' r (segs ps) := by
 refine acalls_len (by kernel_rfl) (List.mem_cons_self ..) fun hl => ?_
 rw [List.length_map] at hl
 refine acalls_of0 Tryz.func60 rfl (by kernel_rfl) rfl rfl (awp_sound (fz := fun _ => []) (im := fun _ => false) mixed _ _ _ _ (by kernel_rfl) ?_)
 simp +contextual -dsimp -implicitDefEqProofs (maxSteps:=5000000) only [go_sem,reduceIte,reduceCtorEq,Nat.reduceEqDiff,Nat.reduceBEq,Nat.reduceAdd,Nat.reduceLeDiff,Nat.reduceMul,Nat.reduceLT,Int.reduceEq,Int.reduceLT,Int.reduceLE]
 refine aloop mixed (fz := fun _ => []) (im := fun _ => false) (by kernel_rfl) (fun m tm H' => ∃ k : Nat, m = ps.length - k ∧ k ≤ ps.length ∧ H' = H ∧ tm 0 = .vsl (ps.map rSeg) cl ∧ tm 3 = I (segs (ps.take k)).length ∧ tm 9 = .vsl (ps.map rSeg) cl ∧ tm 10 = I ps.length ∧ tm 11 = I k) ps.length ⟨0, by omega, by omega, rfl, ?_⟩ ?_
 ·simp +contextual -dsimp -implicitDefEqProofs (maxSteps:=5000000) only [go_sem,reduceIte,reduceCtorEq,Nat.reduceEqDiff,Nat.reduceBEq,Nat.reduceAdd,Nat.reduceLeDiff,Nat.reduceMul,Nat.reduceLT,Int.reduceEq,Int.reduceLT,Int.reduceLE]
  rfl
 ·rintro m tm H ⟨k, rfl, hk, rfl, t0, t3, t9, t10, t11⟩
  by_cases hlt : k < ps.length
  ·have h1 := segs_next hlt
   have h2 := segs_le ps (k + 1)
   rw [h1, List.length_append] at h2
   have hw : IntKind.i64.wrap (((segs (ps.take k)).length : Int) + ((ps.getD k default).1.length : Int)) = (((segs (ps.take (k + 1))).length : Nat) : Int) := by rw [h1, List.length_append, w64 (by omega) (by omega)]; omega
   have hnn : ¬ ((segs (ps.take (k + 1))).length : Int) < 0 := by omega
   simp +contextual -dsimp -implicitDefEqProofs (maxSteps:=5000000) only [go_sem,reduceIte,reduceCtorEq,Nat.reduceEqDiff,Nat.reduceBEq,Nat.reduceAdd,Nat.reduceLeDiff,Nat.reduceMul,Nat.reduceLT,Int.reduceEq,Int.reduceLT,Int.reduceLE,ixv te149 ti26 rSeg_len (show 0 < 1 by decide),rSeg,Nat.lt_irrefl,t0,t3,t9,t10,t11,hlt,hw,hnn]
   exact ⟨_, by omega, k + 1, rfl, hlt, rfl, I_wrap (by omega) (by omega) (by omega)⟩
  ·have hke : k = ps.length := by omega
   subst hke
   rw [List.take_length] at t3
   simp +contextual -dsimp -implicitDefEqProofs (maxSteps:=5000000) only [go_sem,reduceIte,reduceCtorEq,Nat.reduceEqDiff,Nat.reduceBEq,Nat.reduceAdd,Nat.reduceLeDiff,Nat.reduceMul,Nat.reduceLT,Int.reduceEq,Int.reduceLT,Int.reduceLE,ixv te149 ti26 rSeg_len (show 0 < 1 by decide),rSeg,Nat.lt_irrefl,t0,t3,t9,t10,t11]
   refine (c_GrowL _ _ hb).mono ?_
   intro x H1 hg
   simp +contextual -dsimp -implicitDefEqProofs (maxSteps:=5000000) only [go_sem,reduceIte,reduceCtorEq,Nat.reduceEqDiff,Nat.reduceBEq,Nat.reduceAdd,Nat.reduceLeDiff,Nat.reduceMul,Nat.reduceLT,Int.reduceEq,Int.reduceLT,Int.reduceLE,ixv te149 ti26 rSeg_len (show 0 < 1 by decide),rSeg,Nat.lt_irrefl,t0,t3,t9,t10,t11]
   refine aloop mixed (fz := fun _ => []) (im := fun _ => false) (by kernel_rfl) (fun m tm H' => ∃ (k : Nat) (x : AV), m = ps.length - k ∧ k ≤ ps.length ∧ Grow rLine 4 41 H H' x (segs (ps.take k)) ∧ tm 6 = x ∧ tm 25 = .vsl (ps.map rSeg) cl ∧ tm 26 = I ps.length ∧ tm 27 = I k) ps.length ⟨0, x, by omega, by omega, by simpa [segs] using hg, ?_⟩ ?_
   ·simp +contextual -dsimp -implicitDefEqProofs (maxSteps:=5000000) only [go_sem,reduceIte,reduceCtorEq,Nat.reduceEqDiff,Nat.reduceBEq,Nat.reduceAdd,Nat.reduceLeDiff,Nat.reduceMul,Nat.reduceLT,Int.reduceEq,Int.reduceLT,Int.reduceLE,ixv te149 ti26 rSeg_len (show 0 < 1 by decide),rSeg,Nat.lt_irrefl,t0]
   ·rintro m tm H' ⟨k, x, rfl, hk, hg, t6, t25, t26, t27⟩
    by_cases hlt : k < ps.length
    ·have h1 := segs_next hlt
     have h2 := segs_le ps (k + 1)
     rw [h1, List.length_append] at h2
     simp +contextual -dsimp -implicitDefEqProofs (maxSteps:=5000000) only [go_sem,reduceIte,reduceCtorEq,Nat.reduceEqDiff,Nat.reduceBEq,Nat.reduceAdd,Nat.reduceLeDiff,Nat.reduceMul,Nat.reduceLT,Int.reduceEq,Int.reduceLT,Int.reduceLE,ixv te149 ti26 rSeg_len (show 0 < 1 by decide),rSeg,Nat.lt_irrefl,t6,t25,t26,t27,hlt]
     refine app_lines (m := (ps.getD k default).1) hg (by omega) rfl fun x' H'' hg' => ?_
     simp +contextual -dsimp -implicitDefEqProofs (maxSteps:=5000000) only [go_sem,reduceIte,reduceCtorEq,Nat.reduceEqDiff,Nat.reduceBEq,Nat.reduceAdd,Nat.reduceLeDiff,Nat.reduceMul,Nat.reduceLT,Int.reduceEq,Int.reduceLT,Int.reduceLE,ixv te149 ti26 rSeg_len (show 0 < 1 by decide),rSeg,Nat.lt_irrefl,t6,t25,t26,t27,hlt]
     exact ⟨_, by omega, k + 1, x', rfl, hlt, by rw [h1]; exact hg', rfl, I_wrap (by omega) (by omega) (by omega)⟩
    ·simp +contextual -dsimp -implicitDefEqProofs (maxSteps:=5000000) only [go_sem,reduceIte,reduceCtorEq,Nat.reduceEqDiff,Nat.reduceBEq,Nat.reduceAdd,Nat.reduceLeDiff,Nat.reduceMul,Nat.reduceLT,Int.reduceEq,Int.reduceLT,Int.reduceLE,ixv te149 ti26 rSeg_len (show 0 < 1 by decide),rSeg,Nat.lt_irrefl,t6,t25,t26,t27,hlt]
     rw [show k = ps.length by omega, List.take_length] at hg
     exact hg
theorem c_GrowI (n : Nat) (H : AHeap) (hn : n ≤ 1000000) : ACalls Tryz.prog 110 [.vsl [] true, I n] H fun r H' => Grow rI 1 3 H H' r [] := by
 rcases Nat.eq_zero_or_pos n with h0 | h0
 ·subst h0
  refine (acalls_grow0 (by kernel_rfl) fun base w => ?_).mono ?_
  ·exact Tryz.growRoomInt base 0 0 0 w (by omega) (by omega) (by omega) (by omega)
  ·rintro _ _ ⟨rfl, rfl⟩
   exact grow_nil
 ·obtain ⟨i, d, z, hi, hd, hz, hsz, hby, hag, hzl, hzs, hz1⟩ := tinfo_spec ti3
  have hzz : z.cells.size = 1 := by rw [hzs]
  refine acalls_growN (bytes := i.bytes) (by kernel_rfl) (by decide) (fun base m w hm hb h63 => ?_) h0 (by rw [hby]; show n * 8 ≤ _; omega) (by omega)
  refine (Any8.slices_Grow_grow Tryz.laysGrowInt i z hi hz (by rw [hsz]; decide) base 0 0 m [] w (by omega) (by omega) (by simpa using hb) (by simpa using h63) (by simp) (fun _ => rfl) (fun a _ j v hj => by simp at hj)).mono ?_
  rintro e w' ⟨rfl, rfl⟩
  refine ⟨by rw [Nat.zero_add]; rfl, _, rfl, ?_⟩
  have hge := grownCap_ge w (0 + m) 0 (Tryz.laysGrowInt_ren.t 25)
  simp only [Array.size_append,size_zeroCells,hzz,List.size_toArray,List.length_nil,Nat.zero_add,← Nat.add_mul] at hge ⊢
  refine Nat.mul_le_mul_right _ ?_
  show grownCap w m 0 (Tryz.laysGrowInt_ren.t 25) ≤ _
  omega
def rSegI (q : List Int × Bool) : List AV := [.vsl (q.1.map rI) q.2]
theorem rSegI_len (q : List Int × Bool) : (rSegI q).length = 1 := rfl
def segsI (ps : List (List Int × Bool)) : List Int := (ps.map (·.1)).flatten
theorem segsI_next {ps : List (List Int × Bool)} {k : Nat} (h : k < ps.length) : segsI (ps.take (k + 1)) = segsI (ps.take k) ++ (ps.getD k default).1 := by
 unfold segsI
 rw [List.take_succ_eq_append_getElem h, List.map_append, List.flatten_append, List.getD_eq_getElem?_getD, List.getElem?_eq_getElem h]
 simp
theorem segsI_le (ps : List (List Int × Bool)) (k : Nat) : (segsI (ps.take k)).length ≤ (segsI ps).length := by
 have : segsI ps = segsI (ps.take k) ++ segsI (ps.drop k) := by
  unfold segsI
  rw [← List.flatten_append, ← List.map_append, List.take_append_drop]
 rw [this, List.length_append]; omega
theorem c_ConcatI (ps : List (List Int × Bool)) (cl : Bool) (H : AHeap) (hb : (segsI ps).length ≤ 1000000) : ACalls Tryz.prog 64 [.vsl (ps.map rSegI) cl] H fun r H' => Grow rI 1 3 H H' r (segsI ps) := by
 refine acalls_len (by kernel_rfl) (List.mem_cons_self ..) fun hl => ?_
 rw [List.length_map] at hl
 refine acalls_of0 Tryz.func64 rfl (by kernel_rfl) rfl rfl (awp_sound (fz := fun _ => []) (im := fun _ => false) mixed _ _ _ _ (by kernel_rfl) ?_)
 simp +contextual -dsimp -implicitDefEqProofs (maxSteps:=5000000) only [go_sem,reduceIte,reduceCtorEq,Nat.reduceEqDiff,Nat.reduceBEq,Nat.reduceAdd,Nat.reduceLeDiff,Nat.reduceMul,Nat.reduceLT,Int.reduceEq,Int.reduceLT,Int.reduceLE]
 refine aloop mixed (fz := fun _ => []) (im := fun _ => false) (by kernel_rfl) (fun m tm H' => ∃ k : Nat, m = ps.length - k ∧ k ≤ ps.length ∧ H' = H ∧ tm 0 = .vsl (ps.map rSegI) cl ∧ tm 3 = I (segsI (ps.take k)).length ∧ tm 9 = .vsl (ps.map rSegI) cl ∧ tm 10 = I ps.length ∧ tm 11 = I k) ps.length ⟨0, by omega, by omega, rfl, ?_⟩ ?_
 ·simp +contextual -dsimp -implicitDefEqProofs (maxSteps:=5000000) only [go_sem,reduceIte,reduceCtorEq,Nat.reduceEqDiff,Nat.reduceBEq,Nat.reduceAdd,Nat.reduceLeDiff,Nat.reduceMul,Nat.reduceLT,Int.reduceEq,Int.reduceLT,Int.reduceLE]
  rfl
 ·rintro m tm H ⟨k, rfl, hk, rfl, t0, t3, t9, t10, t11⟩
  by_cases hlt : k < ps.length
  ·have h1 := segsI_next hlt
   have h2 := segsI_le ps (k + 1)
   rw [h1, List.length_append] at h2
   have hw : IntKind.i64.wrap (((segsI (ps.take k)).length : Int) + ((ps.getD k default).1.length : Int)) = (((segsI (ps.take (k + 1))).length : Nat) : Int) := by rw [h1, List.length_append, w64 (by omega) (by omega)]; omega
   have hnn : ¬ ((segsI (ps.take (k + 1))).length : Int) < 0 := by omega
   simp +contextual -dsimp -implicitDefEqProofs (maxSteps:=5000000) only [go_sem,reduceIte,reduceCtorEq,Nat.reduceEqDiff,Nat.reduceBEq,Nat.reduceAdd,Nat.reduceLeDiff,Nat.reduceMul,Nat.reduceLT,Int.reduceEq,Int.reduceLT,Int.reduceLE,ixv te151 ti29 rSegI_len (show 0 < 1 by decide),rSegI,Nat.lt_irrefl,t0,t3,t9,t10,t11,hlt,hw,hnn]
   exact ⟨_, by omega, k + 1, rfl, hlt, rfl, I_wrap (by omega) (by omega) (by omega)⟩
  ·have hke : k = ps.length := by omega
   subst hke
   rw [List.take_length] at t3
   simp +contextual -dsimp -implicitDefEqProofs (maxSteps:=5000000) only [go_sem,reduceIte,reduceCtorEq,Nat.reduceEqDiff,Nat.reduceBEq,Nat.reduceAdd,Nat.reduceLeDiff,Nat.reduceMul,Nat.reduceLT,Int.reduceEq,Int.reduceLT,Int.reduceLE,ixv te151 ti29 rSegI_len (show 0 < 1 by decide),rSegI,Nat.lt_irrefl,t0,t3,t9,t10,t11]
   refine (c_GrowI _ _ hb).mono ?_
   intro x H1 hg
   simp +contextual -dsimp -implicitDefEqProofs (maxSteps:=5000000) only [go_sem,reduceIte,reduceCtorEq,Nat.reduceEqDiff,Nat.reduceBEq,Nat.reduceAdd,Nat.reduceLeDiff,Nat.reduceMul,Nat.reduceLT,Int.reduceEq,Int.reduceLT,Int.reduceLE,ixv te151 ti29 rSegI_len (show 0 < 1 by decide),rSegI,Nat.lt_irrefl,t0,t3,t9,t10,t11]
   refine aloop mixed (fz := fun _ => []) (im := fun _ => false) (by kernel_rfl) (fun m tm H' => ∃ (k : Nat) (x : AV), m = ps.length - k ∧ k ≤ ps.length ∧ Grow rI 1 3 H H' x (segsI (ps.take k)) ∧ tm 6 = x ∧ tm 25 = .vsl (ps.map rSegI) cl ∧ tm 26 = I ps.length ∧ tm 27 = I k) ps.length ⟨0, x, by omega, by omega, by simpa [segsI] using hg, ?_⟩ ?_
   ·simp +contextual -dsimp -implicitDefEqProofs (maxSteps:=5000000) only [go_sem,reduceIte,reduceCtorEq,Nat.reduceEqDiff,Nat.reduceBEq,Nat.reduceAdd,Nat.reduceLeDiff,Nat.reduceMul,Nat.reduceLT,Int.reduceEq,Int.reduceLT,Int.reduceLE,ixv te151 ti29 rSegI_len (show 0 < 1 by decide),rSegI,Nat.lt_irrefl,t0]
   ·rintro m tm H' ⟨k, x, rfl, hk, hg, t6, t25, t26, t27⟩
    by_cases hlt : k < ps.length
    ·have h1 := segsI_next hlt
     have h2 := segsI_le ps (k + 1)
     rw [h1, List.length_append] at h2
     simp +contextual -dsimp -implicitDefEqProofs (maxSteps:=5000000) only [go_sem,reduceIte,reduceCtorEq,Nat.reduceEqDiff,Nat.reduceBEq,Nat.reduceAdd,Nat.reduceLeDiff,Nat.reduceMul,Nat.reduceLT,Int.reduceEq,Int.reduceLT,Int.reduceLE,ixv te151 ti29 rSegI_len (show 0 < 1 by decide),rSegI,Nat.lt_irrefl,t6,t25,t26,t27,hlt]
     refine grow_append (m := (ps.getD k default).1) te29 ti3 rI_len (by decide) hg (by show ((segsI (ps.take k)).length + (ps.getD k default).1.length) * 8 ≤ 140737488355328; omega) (by show (segsI (ps.take k)).length + (ps.getD k default).1.length ≤ _; omega) rfl fun x' H'' hg' => ?_
     simp +contextual -dsimp -implicitDefEqProofs (maxSteps:=5000000) only [go_sem,reduceIte,reduceCtorEq,Nat.reduceEqDiff,Nat.reduceBEq,Nat.reduceAdd,Nat.reduceLeDiff,Nat.reduceMul,Nat.reduceLT,Int.reduceEq,Int.reduceLT,Int.reduceLE,ixv te151 ti29 rSegI_len (show 0 < 1 by decide),rSegI,Nat.lt_irrefl,t6,t25,t26,t27,hlt]
     exact ⟨_, by omega, k + 1, x', rfl, hlt, by rw [h1]; exact hg', rfl, I_wrap (by omega) (by omega) (by omega)⟩
    ·simp +contextual -dsimp -implicitDefEqProofs (maxSteps:=5000000) only [go_sem,reduceIte,reduceCtorEq,Nat.reduceEqDiff,Nat.reduceBEq,Nat.reduceAdd,Nat.reduceLeDiff,Nat.reduceMul,Nat.reduceLT,Int.reduceEq,Int.reduceLT,Int.reduceLE,ixv te151 ti29 rSegI_len (show 0 < 1 by decide),rSegI,Nat.lt_irrefl,t6,t25,t26,t27,hlt]
     rw [show k = ps.length by omega, List.take_length] at hg
     exact hg
end
section
open Go Go.Sim
set_option maxRecDepth 100000
set_option maxHeartbeats 4000000

theorem valid_depth {t : List Class} {p : List Line} (h : ValidP t p) : ∀ x ∈ p, 0 ≤ x.depth ∧ x.depth ≤ 5 := by
 obtain ⟨_, e, h3, _⟩ := validP_forest h
 have key : ∀ (f : Fo) (d : Int), numsF t f d = true → ∀ x ∈ f.flat d, 0 ≤ x.depth ∧ x.depth ≤ 5 := by
  intro f
  induction f with
  | nil => intro d _ x hx; cases hx
  | node k a b kids rest ihk ihr =>
   intro d hn x hx
   obtain ⟨n1, n2, n3, n4, n5⟩ := numsF_node hn
   simp only [Fo.flat,List.mem_cons,List.mem_append] at hx
   rcases hx with rfl | hx | hx
   ·simp only [inR,Bool.and_eq_true,decide_eq_true_eq] at n2; exact n2
   ·exact ihk _ n4 x hx
   ·exact ihr _ n5 x hx
 rw [e]; exact key _ 0 h3
theorem getD_mem {l : List Line} {k : Nat} (h : k < l.length) : l.getD k default ∈ l := by
 rw [List.getD_eq_getElem?_getD, List.getElem?_eq_getElem h]; exact List.getElem_mem h
theorem take_nextL {l : List Line} {k : Nat} (h : k < l.length) : l.take (k + 1) = l.take k ++ [l.getD k default] := by
 rw [List.take_succ_eq_append_getElem h, List.getD_eq_getElem?_getD, List.getElem?_eq_getElem h]; rfl
theorem c_innerD (p : List Line) (cl : Bool) (H : AHeap) (hp : p.length ≤ 1000) (hd : ∀ x ∈ p, 0 ≤ x.depth ∧ x.depth ≤ 100) : ACalls Tryz.prog 61 [aProg p cl] H fun r H' => (∃ c, r = aProg (innP p) c) ∧ H' = H := by
 refine acalls_of1 Tryz.func61 rfl (by kernel_rfl) rfl rfl (awp_sound (fz := fun r => if r = 7 then [5] else []) (im := fun s => s == 10 || s == 26) mixed _ _ _ _ (by kernel_rfl) ?_)
 simp +contextual -dsimp -implicitDefEqProofs (maxSteps:=5000000) only [go_sem,reduceIte,reduceCtorEq,Nat.reduceEqDiff,Nat.reduceBEq,Nat.reduceAdd,Nat.reduceLeDiff,Nat.reduceMul,Nat.reduceLT,Int.reduceEq,Int.reduceLT,Int.reduceLE]
 refine ⟨fun h0 => ?_, fun h0 => ?_⟩
 ·have hp0 : p = [] := List.eq_nil_of_length_eq_zero (by omega)
  subst hp0
  refine retR_less (l := [aProg (innP []) true]) (H' := H) ?_ (AHeap.le_refl _) ⟨⟨true, rfl⟩, rfl⟩
  simp only [resA,go_sem,reduceIte,reduceCtorEq,Nat.reduceEqDiff,Nat.reduceBEq,Nat.reduceAdd,Nat.reduceLeDiff,Nat.reduceMul,Nat.reduceLT,Int.reduceEq,Int.reduceLT,Int.reduceLE]
  try rfl
 ·have hip : innP p = p.map deepL := by unfold innP; rw [if_neg (fun e => h0 (by rw [e]; rfl))]
  rw [hip]
  refine ⟨by omega, by omega, fun b3 hb3 => ?_⟩
  refine aloop mixed (fz := fun r => if r = 7 then [5] else []) (im := fun s => s == 10 || s == 26) (by kernel_rfl) (fun m tm H' => ∃ (k : Nat) (x : AV), m = p.length - k ∧ k ≤ p.length ∧ Grow rLine 4 41 H H' x ((p.take k).map deepL) ∧ tm 3 = x ∧ tm 14 = aProg p cl ∧ tm 15 = I p.length ∧ tm 16 = I k) p.length ⟨0, .sl b3 4 0 0 false, by omega, by omega, grow_new hb3, ?_⟩ ?_
  ·simp +contextual -dsimp -implicitDefEqProofs (maxSteps:=5000000) only [go_sem,reduceIte,reduceCtorEq,Nat.reduceEqDiff,Nat.reduceBEq,Nat.reduceAdd,Nat.reduceLeDiff,Nat.reduceMul,Nat.reduceLT,Int.reduceEq,Int.reduceLT,Int.reduceLE]
  ·rintro m tm H' ⟨k, x, rfl, hk, hg, t3, t14, t15, t16⟩
   by_cases hlt : k < p.length
   ·have hdk := hd _ (getD_mem hlt)
    have hw : IntKind.i64.wrap ((p.getD k default).depth + 1) = (p.getD k default).depth + 1 := w64 (by omega) (by omega)
    simp +contextual -dsimp -implicitDefEqProofs (maxSteps:=5000000) only [go_sem,reduceIte,reduceCtorEq,Nat.reduceEqDiff,Nat.reduceBEq,Nat.reduceAdd,Nat.reduceLeDiff,Nat.reduceMul,Nat.reduceLT,Int.reduceEq,Int.reduceLT,Int.reduceLE,t3,t14,t15,t16,hlt]
    intro b5 hb5
    rw [hw]
    refine app_lines (m := [deepL (p.getD k default)]) hg (by simp; omega) rfl fun x' H'' hg' => ?_
    simp +contextual -dsimp -implicitDefEqProofs (maxSteps:=5000000) only [go_sem,reduceIte,reduceCtorEq,Nat.reduceEqDiff,Nat.reduceBEq,Nat.reduceAdd,Nat.reduceLeDiff,Nat.reduceMul,Nat.reduceLT,Int.reduceEq,Int.reduceLT,Int.reduceLE,t3,t14,t15,t16,hlt]
    exact ⟨_, by omega, k + 1, x', rfl, hlt, by rw [take_nextL hlt, List.map_append]; exact hg', rfl, I_wrap (by omega) (by omega) (by omega)⟩
   ·rw [show k = p.length by omega, List.take_length] at hg
    simp +contextual -dsimp -implicitDefEqProofs (maxSteps:=5000000) only [go_sem,reduceIte,reduceCtorEq,Nat.reduceEqDiff,Nat.reduceBEq,Nat.reduceAdd,Nat.reduceLeDiff,Nat.reduceMul,Nat.reduceLT,Int.reduceEq,Int.reduceLT,Int.reduceLE,t3,t14,t15,t16,hlt]
    refine grow_frz (t := 2) (by simpa only [upd_same] using hg) fun c => ?_
    refine retR_less (l := [aProg (p.map deepL) c]) (H' := H) ?_ (AHeap.le_refl _) ⟨⟨c, rfl⟩, rfl⟩
    simp only [resA,go_sem,reduceIte,reduceCtorEq,Nat.reduceEqDiff,Nat.reduceBEq,Nat.reduceAdd,Nat.reduceLeDiff,Nat.reduceMul,Nat.reduceLT,Int.reduceEq,Int.reduceLT,Int.reduceLE]
theorem c_inner (p : List Line) (cl : Bool) (H : AHeap) (hp : p.length ≤ 1000) (hd : ∀ x ∈ p, 0 ≤ x.depth ∧ x.depth ≤ 5) : ACalls Tryz.prog 61 [aProg p cl] H fun r H' => (∃ c, r = aProg (innP p) c) ∧ H' = H :=
 c_innerD p cl H hp fun x hx => ⟨(hd x hx).1, by have := (hd x hx).2; omega⟩
end
section
open Go Go.Sim
set_option maxRecDepth 100000
set_option maxHeartbeats 4000000

theorem c_bothValid (t : List Class) (cl : Bool) (p q : List Line) (c1 c2 : Bool) (H : AHeap) (hn : namesOk t) (hp : p.length ≤ 4398046511104) (hq : q.length ≤ 4398046511104) : ACalls Tryz.prog 58 [aTree t cl, aProg p c1, aProg q c2] H fun r H' => r = B (validB t p && validB t q) ∧ H' = H := by
 refine acalls_of0 Tryz.func58 rfl (by kernel_rfl) rfl rfl (awp_sound (fz := fun _ => []) (im := fun s => s == 3) mixed _ _ _ _ (by kernel_rfl) ?_)
 simp +contextual -dsimp -implicitDefEqProofs (maxSteps:=5000000) only [go_sem,reduceIte,reduceCtorEq,Nat.reduceEqDiff,Nat.reduceBEq,Nat.reduceAdd,Nat.reduceLeDiff,Nat.reduceMul,Nat.reduceLT,Int.reduceEq,Int.reduceLT,Int.reduceLE]
 refine (c_ValidProgram t cl p c1 _ hn hp).det ?_
 cases hv : validB t p
 ·simp +contextual -dsimp -implicitDefEqProofs (maxSteps:=5000000) only [go_sem,reduceIte,reduceCtorEq,Nat.reduceEqDiff,Nat.reduceBEq,Nat.reduceAdd,Nat.reduceLeDiff,Nat.reduceMul,Nat.reduceLT,Int.reduceEq,Int.reduceLT,Int.reduceLE]
 ·simp +contextual -dsimp -implicitDefEqProofs (maxSteps:=5000000) only [go_sem,reduceIte,reduceCtorEq,Nat.reduceEqDiff,Nat.reduceBEq,Nat.reduceAdd,Nat.reduceLeDiff,Nat.reduceMul,Nat.reduceLT,Int.reduceEq,Int.reduceLT,Int.reduceLE]
  refine (c_ValidProgram t cl q c2 _ hn hq).det ?_
  simp +contextual -dsimp -implicitDefEqProofs (maxSteps:=5000000) only [go_sem,reduceIte,reduceCtorEq,Nat.reduceEqDiff,Nat.reduceBEq,Nat.reduceAdd,Nat.reduceLeDiff,Nat.reduceMul,Nat.reduceLT,Int.reduceEq,Int.reduceLT,Int.reduceLE]
noncomputable def mkR (b : Bool) (t : List Class) (l : List Line) : List Line := if b = true then madeF t l else []
noncomputable def mkB (b : Bool) (t : List Class) (l : List Line) : Bool := b && validB t l
theorem innP_len (p : List Line) : (innP p).length ≤ p.length + 1 := by
 unfold innP; split <;> simp
theorem c_mWithFinally (t : List Class) (cl : Bool) (p q : List Line) (c1 c2 : Bool) (H : AHeap) (hn : namesOk t) (hp : p.length ≤ 1000) (hq : q.length ≤ 1000) : ACalls Tryz.prog 14 [aTree t cl, aProg p c1, aProg q c2] H fun r H' => (∃ c, r = .tup [aProg (mkR (validB t p && validB t q) t (finP p q)) c, B (mkB (validB t p && validB t q) t (finP p q))]) ∧ H' = H := by
 have hil := innP_len p
 have hiq := innP_len q
 refine acalls_of0 Tryz.func14 rfl (by kernel_rfl) rfl rfl (awp_sound (fz := fun _ => []) (im := fun s => s == 3) mixed _ _ _ _ (by kernel_rfl) ?_)
 simp +contextual -dsimp -implicitDefEqProofs (maxSteps:=5000000) only [go_sem,reduceIte,reduceCtorEq,Nat.reduceEqDiff,Nat.reduceBEq,Nat.reduceAdd,Nat.reduceLeDiff,Nat.reduceMul,Nat.reduceLT,Int.reduceEq,Int.reduceLT,Int.reduceLE]
 refine (c_bothValid t cl p q c1 c2 _ hn (by omega) (by omega)).det ?_
 unfold mkR mkB
 cases hv : (validB t p && validB t q)
 ·simp +contextual -dsimp -implicitDefEqProofs (maxSteps:=5000000) only [go_sem,reduceIte,reduceCtorEq,Nat.reduceEqDiff,Nat.reduceBEq,Nat.reduceAdd,Nat.reduceLeDiff,Nat.reduceMul,Nat.reduceLT,Int.reduceEq,Int.reduceLT,Int.reduceLE]
  exact ⟨true, rfl⟩
 ·rw [Bool.and_eq_true] at hv
  simp +contextual -dsimp -implicitDefEqProofs (maxSteps:=5000000) only [go_sem,reduceIte,reduceCtorEq,Nat.reduceEqDiff,Nat.reduceBEq,Nat.reduceAdd,Nat.reduceLeDiff,Nat.reduceMul,Nat.reduceLT,Int.reduceEq,Int.reduceLT,Int.reduceLE]
  refine draw_intro [1, 0, 0, 0, 3, 0, 0, 0, 3, 0, 3, 2, 0, 0, 0, 0] AHeap.none (by kernel_rfl) none_le ?_
  simp +contextual -dsimp -implicitDefEqProofs (maxSteps:=5000000) only [go_sem,reduceIte,reduceCtorEq,Nat.reduceEqDiff,Nat.reduceBEq,Nat.reduceAdd,Nat.reduceLeDiff,Nat.reduceMul,Nat.reduceLT,Int.reduceEq,Int.reduceLT,Int.reduceLE]
  refine (c_inner p c1 _ hp (valid_depth (validB_true.1 hv.1))).mono ?_
  rintro _ H ⟨⟨c3, rfl⟩, rfl⟩
  simp +contextual -dsimp -implicitDefEqProofs (maxSteps:=5000000) only [go_sem,reduceIte,reduceCtorEq,Nat.reduceEqDiff,Nat.reduceBEq,Nat.reduceAdd,Nat.reduceLeDiff,Nat.reduceMul,Nat.reduceLT,Int.reduceEq,Int.reduceLT,Int.reduceLE]
  refine (c_inner q c2 _ hq (valid_depth (validB_true.1 hv.2))).mono ?_
  rintro _ H ⟨⟨c4, rfl⟩, rfl⟩
  simp +contextual -dsimp -implicitDefEqProofs (maxSteps:=5000000) only [go_sem,reduceIte,reduceCtorEq,Nat.reduceEqDiff,Nat.reduceBEq,Nat.reduceAdd,Nat.reduceLeDiff,Nat.reduceMul,Nat.reduceLT,Int.reduceEq,Int.reduceLT,Int.reduceLE]
  refine acalls_frz (c_ConcatL [([⟨0, 7, 0, 0⟩], true), (innP p, c3), ([⟨0, 10, 0, 0⟩], true), (innP q, c4)] true _ (by simp [segs]; omega)) fun c5 => ?_
  have e : segs [([⟨0, 7, 0, 0⟩], true), (innP p, c3), ([⟨0, 10, 0, 0⟩], true), (innP q, c4)] = (finP p q) := by simp [segs, finP]
  have hll : ((finP p q)).length ≤ 4398046511104 := by simp [finP]; omega
  rw [e]
  simp +contextual -dsimp -implicitDefEqProofs (maxSteps:=5000000) only [go_sem,reduceIte,reduceCtorEq,Nat.reduceEqDiff,Nat.reduceBEq,Nat.reduceAdd,Nat.reduceLeDiff,Nat.reduceMul,Nat.reduceLT,Int.reduceEq,Int.reduceLT,Int.reduceLE]
  refine (c_programMade t cl (finP p q) c5 _ hn hll).mono ?_
  rintro _ _ ⟨⟨c, rfl⟩, rfl⟩
  simp +contextual -dsimp -implicitDefEqProofs (maxSteps:=5000000) only [go_sem,reduceIte,reduceCtorEq,Nat.reduceEqDiff,Nat.reduceBEq,Nat.reduceAdd,Nat.reduceLeDiff,Nat.reduceMul,Nat.reduceLT,Int.reduceEq,Int.reduceLT,Int.reduceLE]
  exact ⟨c, rfl⟩
end
section
open Go Go.Sim
set_option maxRecDepth 100000
set_option maxHeartbeats 4000000

theorem c_DrawRunProgram (F : AHeap) (bs : List UInt8) (cb : Bool) : ACalls Tryz.prog 9 [.vsl (bs.map rU) cb] F fun r H' =>
  ∃ t cl, ∃ l : List Line, ∃ cl', r = .tup [aTree t cl, .vsl (l.map rLine) cl'] ∧ H' = F ∧ shortNames t ∧ t.length ≤ 8 ∧ l.length ≤ 24 := by
 refine acalls_of1 Tryz.func9 rfl (by kernel_rfl) rfl rfl (awp_sound (fz := fun _ => []) (im := fun _ => false) mixed _ _ _ _ (by kernel_rfl) ?_)
 simp +contextual -dsimp -implicitDefEqProofs (maxSteps:=5000000) only [go_sem,reduceIte,reduceCtorEq,Nat.reduceEqDiff,Nat.reduceBEq,Nat.reduceAdd,Nat.reduceLeDiff,Nat.reduceMul,Nat.reduceLT,Int.reduceEq,Int.reduceLT,Int.reduceLE]
 rintro b2 h2
 refine (c_newReader bs cb _).mono ?_
 rintro _ H' ⟨br, rfl, hR⟩
 obtain ⟨K1, hK1, rfl⟩ := rd_to hR
 have f4 : ∀ K2, (F.set b2 K2) br = none := by
  have q := hR; obtain ⟨_, _, _, _, _, q, _⟩ := q
  rw [set_none] at q
  intro K2; rw [set_none]; exact q
 have q1 := f4 ⟨1, 0, []⟩
 rw [set_none] at q1
 obtain ⟨u1, u2, hr⟩ := q1
 simp +contextual -dsimp -implicitDefEqProofs (maxSteps:=5000000) only [go_sem,reduceIte,reduceCtorEq,Nat.reduceEqDiff,Nat.reduceBEq,Nat.reduceAdd,Nat.reduceLeDiff,Nat.reduceMul,Nat.reduceLT,Int.reduceEq,Int.reduceLT,Int.reduceLE]
 refine (c_someProgram _ br 0 K1 hK1 (f4 _) (by omega)).mono ?_
 rintro _ _ ⟨t, cl, l, cl', K2, rfl, rfl, hK2, ht8, hs, hl⟩
 simp +contextual -dsimp -implicitDefEqProofs (maxSteps:=5000000) only [go_sem,reduceIte,reduceCtorEq,Nat.reduceEqDiff,Nat.reduceBEq,Nat.reduceAdd,Nat.reduceLeDiff,Nat.reduceMul,Nat.reduceLT,Int.reduceEq,Int.reduceLT,Int.reduceLE,u1,u2]
 refine retR_less (l := [aTree t cl, .vsl (l.map rLine) cl']) (H' := F) ?_ (le_s1 (le_s1 (AHeap.le_refl _) h2) hr) ⟨t, cl, l, cl', rfl, rfl, hs, ht8, hl⟩
 simp only [resA,go_sem,reduceIte,reduceCtorEq,Nat.reduceEqDiff,Nat.reduceBEq,Nat.reduceAdd,Nat.reduceLeDiff,Nat.reduceMul,Nat.reduceLT,Int.reduceEq,Int.reduceLT,Int.reduceLE,u1,u2]
end
section
open Go Go.Sim
set_option maxRecDepth 100000
set_option maxHeartbeats 4000000

theorem res_len3 {t : List Class} {p : List Line} (h : ValidP t p) : (resOf (runP t p)).log.length ≤ 34992 := by
 have := (runP_goes h).len
 rw [res_log]
 have : (rs0 : RS).log.length = 0 := rfl
 omega
theorem mk_true {t : List Class} {b : Bool} {l : List Line} (h : mkB b t l = true) : b = true ∧ ValidP t l ∧ validB t l = true ∧ mkR b t l = l := by
 unfold mkB at h
 rw [Bool.and_eq_true] at h
 refine ⟨h.1, validB_true.1 h.2, h.2, ?_⟩
 unfold mkR madeF
 rw [if_pos h.1, if_pos h.2]
theorem c_mRun (t : List Class) (cl : Bool) (p : List Line) (c1 : Bool) (H : AHeap) (hn : namesOk t) (hp : p.length ≤ 1000) (hv : validB t p = true) : ACalls Tryz.prog 10 [aTree t cl, aProg p c1] H fun r H' => (∃ c2 c3, r = aRes (resOf (runP t p)) c2 c3) ∧ H' = H := by
 have k := own_frz (c_mRunProgram t cl p c1 H hn (by omega))
 rw [if_pos hv] at k
 exact k
end
section
open Go Go.Sim
set_option maxRecDepth 100000

theorem rel_res {c : Clo} {r : En × RS} (h : RelC c r) : resOf r = resM c := by
 obtain ⟨k1, k2, k3⟩ := h
 unfold resM
 by_cases q : 0 ≤ c.cur
 ·have e3 : r.1 = ⟨2, c.cur⟩ := by rw [k1]; unfold enC; rw [if_pos q]
  rw [if_pos q, res_two (by rw [e3]), k2, k3, e3]
  rfl
 ·have e3 : r.1 = .next := by rw [k1]; unfold enC; rw [if_neg q]
  rw [if_neg q, res_else (by rw [e3]; decide), k2, e3]
  rfl
theorem clo_step {t : List Class} {s : Clo} {e : Exi} {n : Nat} (he : exitOk t e = true) (hc : CloOk t s n) (hf : FsOk t s.fs) (hd : dep s.fs s.cur ≤ n + 1) : FsOk t (stepX t s e).fs ∧ dep (stepX t s e).fs (stepX t s e).cur ≤ n + 1 + 1 := by
 unfold stepX
 split
 ·exact ⟨hf, Nat.le_succ_of_le hd⟩
 ·split
  ·split
   ·exact ⟨hf, Nat.le_succ_of_le hd⟩
   ·exact ⟨hf, Nat.le_succ_of_le hd⟩
  ·split
   ·split
    ·exact ⟨hf, by show dep s.fs (-1) ≤ _; rw [dep_neg (by decide)]; omega⟩
    ·exact ⟨hf, Nat.le_succ_of_le hd⟩
   ·rename_i h0 h1 h2
    split
    ·rename_i h3
     unfold exitOk at he
     rw [if_neg h0, if_neg h1, if_neg h2, if_pos h3, Bool.and_eq_true] at he
     refine ⟨hf.raise he.1 he.2 hc.cur, ?_⟩
     show dep (raiseF s.fs e.a e.b s.cur) s.fs.length ≤ _
     rw [dep_new hc.ho hc.cur]; omega
    ·exact ⟨hf, Nat.le_succ_of_le hd⟩
theorem clo_fold {t : List Class} : ∀ (L : List Exi) (c : Clo) (n : Nat), (∀ e ∈ L, exitOk t e = true) → CloOk t c n → FsOk t c.fs → dep c.fs c.cur ≤ n + 1 → FsOk t (L.foldl (stepX t) c).fs ∧ dep (L.foldl (stepX t) c).fs (L.foldl (stepX t) c).cur ≤ n + L.length + 1
 | [], c, n, _, _, h, h' => ⟨h, h'⟩
 | e :: L, c, n, hL, hc, h, h' => by
  rw [List.foldl_cons, List.length_cons]
  have he := hL e (List.mem_cons_self ..)
  obtain ⟨a1, a2⟩ := clo_step he hc h h'
  have := clo_fold L _ (n + 1) (fun x hx => hL x (List.mem_cons_of_mem _ hx)) (hc.step he) a1 a2
  refine ⟨this.1, ?_⟩
  have := this.2
  omega
theorem clo_start {t : List Class} {x : Sta} (hx : startOk t x = true) : FsOk t (startX x).fs ∧ dep (startX x).fs (startX x).cur ≤ 1 := by
 unfold startX
 unfold startOk at hx
 cases h : x.has
 ·rw [if_neg (by decide)]
  exact ⟨fsOk_nil t, by show dep [] (-1) ≤ 1; rw [dep_neg (by decide)]; omega⟩
 ·rw [h, if_pos rfl, Bool.and_eq_true] at hx
  rw [if_pos rfl]
  refine ⟨(fsOk_nil t).raise hx.1 hx.2 (by decide), ?_⟩
  have := dep_new heapOk_nil (c := x.cls) (d := x.code) (g := -1) (by show (-1 : Int) < ((0 : Nat) : Int); decide)
  rw [dep_neg (v := -1) (by decide)] at this
  exact Nat.le_of_eq this
theorem clo_close {t : List Class} {l : List Exi} {x : Sta} (hl : validX t l = true) (hx : startOk t x = true) : FsOk t (closeX t l x).fs ∧ dep (closeX t l x).fs (closeX t l x).cur ≤ 24 := by
 obtain ⟨ht, h8⟩ := validX_T hl
 have hall : ∀ e ∈ l.reverse, exitOk t e = true := fun e he => by
  obtain ⟨i, hi, rfl⟩ := List.mem_iff_getElem.1 (List.mem_reverse.1 he)
  have := validX_at hl hi
  rwa [List.getD_eq_getElem?_getD, List.getElem?_eq_getElem hi] at this
 obtain ⟨a1, a2⟩ := clo_start hx
 have := clo_fold l.reverse (startX x) 0 hall (CloOk.start hx) a1 a2
 refine ⟨this.1, ?_⟩
 have h := this.2
 rw [List.length_reverse] at h
 show dep (l.reverse.foldl (stepX t) (startX x)).fs _ ≤ 24
 unfold closeX
 omega
theorem st_close {t : List Class} {l : List Exi} {x : Sta} (hl : validX t l = true) (hx : startOk t x = true) :
  stOf t (resM (closeX t l x)) = if 0 ≤ (closeX t l x).cur then (⟨true, ((closeX t l x).fs.getD (closeX t l x).cur.toNat default).cls, ((closeX t l x).fs.getD (closeX t l x).cur.toNat default).code⟩, true) else (⟨false, 0, 0⟩, true) := by
 have hok := closeX_ok hl hx
 obtain ⟨hf, hd⟩ := clo_close hl hx
 have ht := (validX_T hl).1
 generalize closeX t l x = c at hok hf hd
 have hr : RelC c (enC c, { rs0 with log := c.log, fs := c.fs }) := ⟨rfl, rfl, rfl⟩
 rw [← rel_res hr]
 by_cases q : 0 ≤ c.cur
 ·have e : enC c = ⟨2, c.cur⟩ := by unfold enC; rw [if_pos q]
  rw [if_pos q, e]
  exact (st_out ht (run_out ht hf rfl q hok.cur hd) rfl).1
 ·have e : enC c = .next := by unfold enC; rw [if_neg q]
  rw [if_neg q, e]
  exact st_else ht (by rw [res_ed]; show (0 : Int) ≠ 2; decide)
theorem validX_nil {t : List Class} (ht : validT t = true) : validX t [] = true := by
 simp [validX, ht]
theorem st_start {t : List Class} {x : Sta} (ht : validT t = true) (hx : startOk t x = true) : stOf t (resM (closeX t [] x)) = (x, true) := by
 rw [st_close (validX_nil ht) hx]
 have e : closeX t [] x = startX x := rfl
 rw [e]
 unfold startX
 obtain ⟨b, c, d⟩ := x
 cases b
 ·unfold startOk at hx
  rw [if_neg (by show ¬ (false = true); decide), Bool.and_eq_true, decide_eq_true_eq, decide_eq_true_eq] at hx
  obtain ⟨h1, h2⟩ := hx
  simp only at h1 h2
  subst h1 h2
  rfl
 ·rfl
theorem stOf_ok {t : List Class} {R : Res} (h : (stOf t R).2 = true) : validT t = true ∧ startOk t (stOf t R).1 = true ∧ ((stOf t R).1.has = decide (R.ed = 2)) := by
 unfold stOf at h ⊢
 split at h
 ·rename_i ht
  refine ⟨ht, ?_⟩
  rw [if_pos ht]
  by_cases h0 : R.ed = 0
  ·rw [if_pos h0]
   exact ⟨rfl, by rw [h0]; rfl⟩
  ·rw [if_neg h0] at h ⊢
   by_cases h2 : R.ed = 2 ∧ (validH t R.heap && inR R.val 0 (R.heap.length - 1)) = true
   ·rw [if_pos h2]
    obtain ⟨e2, hv⟩ := h2
    rw [Bool.and_eq_true] at hv
    have hi := inR_len.1 hv.2
    have hc := validH_cls hv.1 R.val.toNat (by omega)
    refine ⟨?_, by rw [e2]; rfl⟩
    simp only [startOk,if_true,hasF,inR,Bool.and_eq_true,decide_eq_true_eq]
    omega
   ·rw [if_neg h2] at h; cases h
 ·cases h
end
section
open Go Go.Sim
set_option maxRecDepth 100000

noncomputable def crF (t : List Class) (p : List Line) (l : List Exi) : Res :=
 if (resOf (runP t p)).ed = 1 ∧ (resM (closeX t l (stOf t (resOf (runP t p))).1)).ed = 0 then
  ⟨(resOf (runP t p)).log ++ (resM (closeX t l (stOf t (resOf (runP t p))).1)).log, (resOf (runP t p)).ed, (resOf (runP t p)).val, (resOf (runP t p)).heap⟩
 else ⟨(resOf (runP t p)).log ++ (resM (closeX t l (stOf t (resOf (runP t p))).1)).log, (resM (closeX t l (stOf t (resOf (runP t p))).1)).ed, (resM (closeX t l (stOf t (resOf (runP t p))).1)).val, (resM (closeX t l (stOf t (resOf (runP t p))).1)).heap⟩
theorem crF_log (t : List Class) (p : List Line) (l : List Exi) : (crF t p l).log = (resOf (runP t p)).log ++ (resM (closeX t l (stOf t (resOf (runP t p))).1)).log := by
 unfold crF; split <;> rfl
theorem crF_ed (t : List Class) (p : List Line) (l : List Exi) : (crF t p l).ed = if (resOf (runP t p)).ed = 1 ∧ (resM (closeX t l (stOf t (resOf (runP t p))).1)).ed = 0 then 1 else (resM (closeX t l (stOf t (resOf (runP t p))).1)).ed := by
 unfold crF; split
 ·rename_i h; exact h.1
 ·rfl
theorem st_oks {t : List Class} {p : List Line} (hv : ValidP t p) : startOk t (stOf t (resOf (runP t p))).1 = true ∧ (stOf t (resOf (runP t p))).1.has = decide ((resOf (runP t p)).ed = 2) := by
 by_cases h2 : (runP t p).1.ed = 2
 ·obtain ⟨e1, e2⟩ := st_out hv.1 (run_valid hv h2) h2
  have h3 : (stOf t (resOf (runP t p))).2 = true := by rw [e1]
  exact (stOf_ok h3).2
 ·have e := st_else (t := t) (R := resOf (runP t p)) hv.1 (by rw [res_ed]; exact h2)
  rw [e]
  refine ⟨rfl, ?_⟩
  rw [res_ed, decide_eq_false h2]
theorem resM_ed (c : Clo) : (resM c).ed = if 0 ≤ c.cur then 2 else 0 := by
 unfold resM; split <;> rfl
theorem resM_log (c : Clo) : (resM c).log = c.log := by
 unfold resM; split <;> rfl
theorem cr_call {t : List Class} {p : List Line} (hv : ValidP t p) : (crF t p [⟨0, 9, 0⟩]).log = (resOf (runP t p)).log ++ [9] ∧ (crF t p [⟨0, 9, 0⟩]).ed = (resOf (runP t p)).ed ∧ (stOf t (crF t p [⟨0, 9, 0⟩])).1 = (stOf t (resOf (runP t p))).1 := by
 obtain ⟨h1, h2⟩ := st_oks hv
 have hed := (ed_top hv).2
 rw [← res_ed] at hed
 have ht := hv.1
 generalize hx : (stOf t (resOf (runP t p))).1 = x at h1 h2
 have hvx : validX t [⟨0, 9, 0⟩] = true := by
  simp [validX, ht, exitOk, inR]
 have e : closeX t [⟨0, 9, 0⟩] x = { startX x with log := (startX x).log ++ [9] } := rfl
 have hl : (startX x).log = [] := by unfold startX; split <;> rfl
 have hst : (stOf t (resM (closeX t [⟨0, 9, 0⟩] x))).1 = x := by
  rw [st_close hvx h1, e]
  have := st_start ht h1
  rw [st_close (validX_nil ht) h1] at this
  have e2 : closeX t [] x = startX x := rfl
  rw [e2] at this
  exact congrArg Prod.fst this
 have hc : ∀ c : Clo, crF t p [⟨0, 9, 0⟩] = crF t p [⟨0, 9, 0⟩] := fun _ => rfl
 have hlog : (crF t p [⟨0, 9, 0⟩]).log = (resOf (runP t p)).log ++ [9] := by
  rw [crF_log, hx, e, resM_log]
  show _ ++ ((startX x).log ++ [9]) = _
  rw [hl]; rfl
 have hM : (resM (closeX t [⟨0, 9, 0⟩] x)).ed = if (resOf (runP t p)).ed = 2 then 2 else 0 := by
  rw [resM_ed, e]
  show (if 0 ≤ (startX x).cur then (2 : Int) else 0) = _
  have hcur : (startX x).cur = if x.has = true then 0 else -1 := by unfold startX; split <;> rfl
  rw [hcur, h2]
  by_cases c : (resOf (runP t p)).ed = 2
  ·simp [c]
  ·simp [c]
 refine ⟨hlog, ?_, ?_⟩
 ·rw [crF_ed, hx, hM]
  rcases hed with q | q | q <;> rw [q] <;> decide
 ·have hst2 : ∀ (R R' : Res), R.ed = R'.ed → R.val = R'.val → R.heap = R'.heap → stOf t R = stOf t R' := by
   intro R R' a b c
   unfold stOf
   rw [a, b, c]
  rcases hed with q | q | q
  ·rw [← hst]
   refine congrArg Prod.fst (hst2 _ _ ?_ ?_ ?_) <;> (unfold crF; rw [hx, if_neg (by rw [q]; omega)])
  ·have e3 : (crF t p [⟨0, 9, 0⟩]).ed = (resOf (runP t p)).ed := by rw [crF_ed, hx, hM, q]; decide
   rw [← hx, st_else ht (by rw [e3, q]; decide), st_else ht (by rw [q]; decide)]
  ·rw [← hst]
   refine congrArg Prod.fst (hst2 _ _ ?_ ?_ ?_) <;> (unfold crF; rw [hx, if_neg (by rw [q]; omega)])
end
section
open Go Go.Sim
set_option maxRecDepth 100000
set_option maxHeartbeats 4000000

def StS (F H : AHeap) (bs : Nat) (t : List Class) (cl : Bool) (P : List Line) (clp : Bool) (s : RS) : Prop :=
 ∃ (xl : AV) (G : AHeap) (clf : Bool), F bs = none ∧ Grow rI 1 3 F G xl s.log ∧ G bs = none ∧ H = G.set bs ⟨4, 138, [[.vsl (t.map rClass) cl, aProg P clp, xl, .vsl (s.fs.map rFault) clf]]⟩
section
variable {F H : AHeap} {bs c : Nat} {t : List Class} {cl : Bool} {P : List Line} {clp : Bool} {s : RS} {K : ABlk}
theorem sts_in (hM : StS F H bs t cl P clp s) (hc : H c = none) : StS (F.set c K) (H.set c K) bs t cl P clp s := by
 obtain ⟨xl, G, clf, hF, hg, hb, rfl⟩ := hM
 rw [set_none] at hc
 exact ⟨xl, G.set c K, clf, by rw [set_other (Ne.symm hc.1)]; exact hF, grow_in hg hc.2.2, by rw [set_other (Ne.symm hc.1)]; exact hb, set_comm (Ne.symm hc.1)⟩
theorem sts_out (hM : StS (F.set c K) H bs t cl P clp s) (hc : F c = none) : ∃ H', H = H'.set c K ∧ StS F H' bs t cl P clp s ∧ H' c = none := by
 obtain ⟨xl, G, clf, hF, hg, hb, rfl⟩ := hM
 obtain ⟨G1, k1, rfl, k2⟩ := grow_out hg hc
 rw [set_none] at hF hb
 refine ⟨G1.set bs ⟨4, 138, [[.vsl (t.map rClass) cl, aProg P clp, xl, .vsl (s.fs.map rFault) clf]]⟩, set_comm hF.2.1, ⟨xl, G1, clf, hF.2.2, k1, hb.2.2, rfl⟩, ?_⟩
 rw [set_other hF.2.1]; exact k2
theorem sts_none (hM : StS F H bs t cl P clp s) (hc : H c = none) : F c = none := by
 obtain ⟨xl, G, clf, hF, hg, hb, rfl⟩ := hM
 rw [set_none] at hc
 exact grow_none hg hc.2.2
theorem sts_app1 {a : Int} {xl : AV} {log : List Int} {G : AHeap} {M C : ABlk} {cla : Bool} {Kt : AV → AHeap → Prop} {g : Tag ((G.set bs M).set c C, Kt)} (hg1 : Grow rI 1 3 F G xl log) (hb : G bs = none) (hcb : ¬ c = bs) (hc : G c = none) (hl : log.length < 1000000)
  (k : ∀ x' G', Grow rI 1 3 F G' x' (log ++ [a]) → G' bs = none → G' c = none → x'.row = [x'] ∧ x'.one = true → Kt x' ((G'.set bs M).set c C)) :
  appT Tryz.prog ((G.set bs M).set c C) 29 xl (.vsl [[I a]] cla) Kt g := by
 refine grow_append (m := [a]) te29 ti3 rI_len (by decide) (grow_in (grow_in hg1 hb) (by rw [set_other hcb]; exact hc)) (by simp; omega) (by simp; omega) rfl fun x' H' hg' => ?_
 have hFc : F c = none := grow_none hg1 hc
 have hFb : F bs = none := grow_none hg1 hb
 obtain ⟨G', k1, rfl, k2⟩ := grow_out hg' (by rw [set_other hcb]; exact hFc)
 obtain ⟨G2, k3, rfl, k4⟩ := grow_out k1 hFb
 rw [set_other hcb] at k2
 exact k x' G2 k3 k4 k2 (one_grow k3)
end
theorem c_sraise {t : List Class} {cl : Bool} {P : List Line} {clp : Bool} {s : RS} {F H : AHeap} {bs : Nat} (c d g : Int) (hM : StS F H bs t cl P clp s) (hl : s.fs.length ≤ 999998) (ho : heapOk s.fs) (hg : g < s.fs.length) :
  ACalls Tryz.prog 176 [.ptr bs 4 0 0, I c, I d, I g] H fun r H' => r = .agg [I 2, I s.fs.length] ∧ StS F H' bs t cl P clp (s.raise c d g) := by
 obtain ⟨xl, G, clf, hF, hg1, hb, rfl⟩ := hM
 obtain ⟨r1, r2⟩ := one_grow hg1
 refine acalls_of1 Tryz.func176 rfl (by kernel_rfl) rfl rfl (awp_sound (fz := fun _ => []) (im := fun _ => false) mixed _ _ _ _ (by kernel_rfl) ?_)
 simp +contextual -dsimp -implicitDefEqProofs (maxSteps:=5000000) only [go_sem,reduceIte,reduceCtorEq,Nat.reduceEqDiff,Nat.reduceBEq,Nat.reduceAdd,Nat.reduceLeDiff,Nat.reduceMul,Nat.reduceLT,Int.reduceEq,Int.reduceLT,Int.reduceLE]
 rintro b8 ⟨n1, n2, n8⟩
 refine (c_added s.fs clf c d _ (by omega)).mono ?_
 rintro _ H9 ⟨⟨cl1, rfl⟩, hH9⟩
 subst hH9
 simp +contextual -dsimp -implicitDefEqProofs (maxSteps:=5000000) only [go_sem,reduceIte,reduceCtorEq,Nat.reduceEqDiff,Nat.reduceBEq,Nat.reduceAdd,Nat.reduceLeDiff,Nat.reduceMul,Nat.reduceLT,Int.reduceEq,Int.reduceLT,Int.reduceLE,n1,n2,r1,r2]
 have e1 : ((s.fs ++ [(⟨c, d, -1, -1, false⟩ : Fault)]).length : Int) - 1 = s.fs.length := by simp
 rw [e1, w64 (by omega) (by omega)]
 refine (c_raised _ cl1 s.fs.length g _ (by simp; omega) (heapOk_snoc ho rfl (by simp) (by simp; omega)) (by simp) hg).mono ?_
 rintro _ H9 ⟨⟨cl2, rfl⟩, hH9⟩
 subst hH9
 rw [setCtx_raise]
 simp +contextual -dsimp -implicitDefEqProofs (maxSteps:=5000000) only [go_sem,reduceIte,reduceCtorEq,Nat.reduceEqDiff,Nat.reduceBEq,Nat.reduceAdd,Nat.reduceLeDiff,Nat.reduceMul,Nat.reduceLT,Int.reduceEq,Int.reduceLT,Int.reduceLE,n1,n2,r1,r2,e1]
 refine retR_less (l := [.agg [I 2, I s.fs.length]]) (H' := G.set bs _) ?_ (le_set (by rw [set_other n1]; exact n8)) ⟨rfl, ⟨xl, G, cl2, hF, hg1, hb, rfl⟩⟩
 simp only [resA,go_sem,reduceIte,reduceCtorEq,Nat.reduceEqDiff,Nat.reduceBEq,Nat.reduceAdd,Nat.reduceLeDiff,Nat.reduceMul,Nat.reduceLT,Int.reduceEq,Int.reduceLT,Int.reduceLE,n1,n2]
def SBlkOk (t : List Class) (cl : Bool) (P : List Line) (clp : Bool) (n : Nat) : Prop :=
 ∀ (f : Fo) (i : Nat) (d h : Int) (s : RS) (F H : AHeap) (bs : Nat) (lp : Bool), f.size < n → At P i d f → numsF t f d = true → okF f lp false = true → FsOk t s.fs → h < s.fs.length → s.log.length + cost f ≤ 900000 → s.fs.length + cost f ≤ 900000 → StS F H bs t cl P clp s →
  ACalls Tryz.prog 100 [.ptr bs 4 0 0, I i, I (i + f.size : Nat), I h] H fun r H' => r = .agg (rEn (runF t f i none h s).1) ∧ StS F H' bs t cl P clp (runF t f i none h s).2
theorem c_sbody {t : List Class} {cl : Bool} {P : List Line} {clp : Bool} {n : Nat} (ih : SBlkOk t cl P clp n) {i : Nat} {d k a b h : Int} {kids rest : Fo} {s : RS} {F H : AHeap} {bs : Nat} {lp : Bool}
  (hn : kids.size < n) (hat : At P i d (.node k a b kids rest)) (hk : numsF t kids (d + 1) = true) (hok : okF kids lp false = true) (hs : FsOk t s.fs) (hh : h < s.fs.length) (hl : s.log.length + cost kids ≤ 900000) (hf : s.fs.length + cost kids ≤ 900000) (hM : StS F H bs t cl P clp s) (hp : P.length ≤ 4398046511104) :
  ACalls Tryz.prog 189 [.ptr bs 4 0 0, I i, I h] H fun r H' => r = .agg (rEn (runF t kids (i + 1) none h s).1) ∧ StS F H' bs t cl P clp (runF t kids (i + 1) none h s).2 := by
 have hi := hat.head.1
 have hw : IntKind.i64.wrap ((i : Int) + 1) = ((i + 1 : Nat) : Int) := by rw [w64 (by omega) (by omega)]; rfl
 obtain ⟨xl, G, clf, hF, hg1, hb, rfl⟩ := id hM
 refine acalls_of1 Tryz.func189 rfl (by kernel_rfl) rfl rfl (awp_sound (fz := fun _ => []) (im := fun _ => false) mixed _ _ _ _ (by kernel_rfl) ?_)
 simp +contextual -dsimp -implicitDefEqProofs (maxSteps:=5000000) only [go_sem,reduceIte,reduceCtorEq,Nat.reduceEqDiff,Nat.reduceBEq,Nat.reduceAdd,Nat.reduceLeDiff,Nat.reduceMul,Nat.reduceLT,Int.reduceEq,Int.reduceLT,Int.reduceLE,hw]
 rintro b6 ⟨n1, n2, hn2⟩
 have hb6 : ∀ K, (G.set bs K) b6 = none := fun K => by rw [set_other n1]; exact hn2
 refine (c_blockEnd P clp i _ hi).det ?_
 rw [hat.endP]
 simp +contextual -dsimp -implicitDefEqProofs (maxSteps:=5000000) only [go_sem,reduceIte,reduceCtorEq,Nat.reduceEqDiff,Nat.reduceBEq,Nat.reduceAdd,Nat.reduceLeDiff,Nat.reduceMul,Nat.reduceLT,Int.reduceEq,Int.reduceLT,Int.reduceLE,hw,n1,n2]
 refine (ih kids (i + 1) (d + 1) h s _ _ bs lp hn hat.kids hk hok hs hh hl hf (sts_in (K := ⟨2, 140, [[I 0, I 0]]⟩) hM (hb6 _))).mono ?_
 rintro _ H3 ⟨rfl, hM3⟩
 obtain ⟨H4, rfl, hM4, hn4⟩ := sts_out hM3 (sts_none hM (hb6 _))
 simp +contextual -dsimp -implicitDefEqProofs (maxSteps:=5000000) only [go_sem,reduceIte,reduceCtorEq,Nat.reduceEqDiff,Nat.reduceBEq,Nat.reduceAdd,Nat.reduceLeDiff,Nat.reduceMul,Nat.reduceLT,Int.reduceEq,Int.reduceLT,Int.reduceLE,rEn]
 refine retR_less (l := [.agg (rEn (runF t kids (i + 1) none h s).1)]) (H' := H4) ?_ (le_set hn4) ⟨rfl, hM4⟩
 simp only [resA,go_sem,reduceIte,reduceCtorEq,Nat.reduceEqDiff,Nat.reduceBEq,Nat.reduceAdd,Nat.reduceLeDiff,Nat.reduceMul,Nat.reduceLT,Int.reduceEq,Int.reduceLT,Int.reduceLE,rEn]
theorem c_swith {t : List Class} {cl : Bool} {P : List Line} {clp : Bool} {n : Nat} (ht : validT t = true) (ih : SBlkOk t cl P clp n) {i : Nat} {d a b h : Int} {kids rest : Fo} {s : RS} {F H : AHeap} {bs : Nat} {lp : Bool}
  (hn : kids.size < n) (hat : At P i d (.node 11 a b kids rest)) (hno : numOk t 11 a b = true) (hk : numsF t kids (d + 1) = true) (hok : okF kids lp false = true) (hs : FsOk t s.fs) (hh : h < s.fs.length) (hl : s.log.length + (2 + cost kids) ≤ 900000) (hf : s.fs.length + (2 + cost kids) ≤ 900000) (hM : StS F H bs t cl P clp s) (hp : P.length ≤ 4398046511104) :
  ACalls Tryz.prog 179 [.ptr bs 4 0 0, I i, I h] H fun r H' => r = .agg (rEn (withS a b (runF t kids (i + 1) none h (s.tell (100 + a)))).1) ∧ StS F H' bs t cl P clp (withS a b (runF t kids (i + 1) none h (s.tell (100 + a)))).2 := by
 have hi := hat.head.1
 have hx := hat.head.2
 have ha := hno
 unfold numOk at ha
 rw [if_neg (by omega), if_neg (by omega), if_neg (by omega), if_pos rfl, Bool.and_eq_true] at ha
 simp only [inR,Bool.and_eq_true,decide_eq_true_eq] at ha
 have hw1 : IntKind.i64.wrap (100 + a) = 100 + a := w64 (by omega) (by omega)
 have hw2 : IntKind.i64.wrap (200 + a) = 200 + a := w64 (by omega) (by omega)
 obtain ⟨xl, G, clf, hF, hg1, hb, rfl⟩ := id hM
 refine acalls_of1 Tryz.func179 rfl (by kernel_rfl) rfl rfl (awp_sound (fz := fun r => if r = 1 then [7] else if r = 3 then [8] else []) (im := fun _ => false) mixed _ _ _ _ (by kernel_rfl) ?_)
 simp +contextual -dsimp -implicitDefEqProofs (maxSteps:=5000000) only [go_sem,reduceIte,reduceCtorEq,Nat.reduceEqDiff,Nat.reduceBEq,Nat.reduceAdd,Nat.reduceLeDiff,Nat.reduceMul,Nat.reduceLT,Int.reduceEq,Int.reduceLT,Int.reduceLE]
 rintro b6 ⟨n1, n2, hn2⟩
 have hF6 : F b6 = none := grow_none hg1 hn2
 simp +contextual -dsimp -implicitDefEqProofs (maxSteps:=5000000) only [go_sem,reduceIte,reduceCtorEq,Nat.reduceEqDiff,Nat.reduceBEq,Nat.reduceAdd,Nat.reduceLeDiff,Nat.reduceMul,Nat.reduceLT,Int.reduceEq,Int.reduceLT,Int.reduceLE,hi,hx,n1,n2]
 rintro b7 hb7
 refine draw_intro [0, 0, 0, 0, 0, 0, 0, 0, 0, 2, 0, 0, 2] AHeap.none (by kernel_rfl) none_le ?_
 simp +contextual -dsimp -implicitDefEqProofs (maxSteps:=5000000) only [go_sem,reduceIte,reduceCtorEq,Nat.reduceEqDiff,Nat.reduceBEq,Nat.reduceAdd,Nat.reduceLeDiff,Nat.reduceMul,Nat.reduceLT,Int.reduceEq,Int.reduceLT,Int.reduceLE,hi,hx,n1,n2,hw1]
 refine sts_app1 hg1 hb n1 hn2 (by omega) fun x2 G2 y1 y3 y4 y5 => ?_
 obtain ⟨r1, r2⟩ := y5
 simp +contextual -dsimp -implicitDefEqProofs (maxSteps:=5000000) only [go_sem,reduceIte,reduceCtorEq,Nat.reduceEqDiff,Nat.reduceBEq,Nat.reduceAdd,Nat.reduceLeDiff,Nat.reduceMul,Nat.reduceLT,Int.reduceEq,Int.reduceLT,Int.reduceLE,n1,n2,r1,r2]
 have hMt : StS F (G2.set bs ⟨4, 138, [[.vsl (t.map rClass) cl, aProg P clp, x2, .vsl (s.fs.map rFault) clf]]⟩) bs t cl P clp (s.tell (100 + a)) := ⟨x2, G2, clf, hF, y1, y3, rfl⟩
 have hGb6 : (G2.set bs ⟨4, 138, [[.vsl (t.map rClass) cl, aProg P clp, x2, .vsl (s.fs.map rFault) clf]]⟩) b6 = none := by rw [set_other n1]; exact y4
 have tl : (s.tell (100 + a)).log.length = s.log.length + 1 := by simp [RS.tell]
 have hgo := goes_run ht kids (i + 1) none (d + 1) h (s.tell (100 + a)) hk hs hh trivial
 have hgl := hgo.len
 refine (c_sbody ih hn hat hk hok (s := s.tell (100 + a)) hs hh (by rw [tl]; omega) (by show s.fs.length + _ ≤ _; omega) (sts_in (K := ⟨2, 140, [[I 0, I 0]]⟩) hMt hGb6) hp).mono ?_
 rintro _ H3 ⟨rfl, hM3⟩
 generalize runF t kids (i + 1) none h (s.tell (100 + a)) = r at hM3 hgo hgl ⊢
 obtain ⟨H4, rfl, hM4, hn4⟩ := sts_out hM3 hF6
 obtain ⟨xl', G3, clf', hF', hg1', hb', rfl⟩ := id hM4
 have hn5 := hn4
 rw [set_none] at hn5
 have hn6 := hn5.2.2
 simp +contextual -dsimp -implicitDefEqProofs (maxSteps:=5000000) only [go_sem,reduceIte,reduceCtorEq,Nat.reduceEqDiff,Nat.reduceBEq,Nat.reduceAdd,Nat.reduceLeDiff,Nat.reduceMul,Nat.reduceLT,Int.reduceEq,Int.reduceLT,Int.reduceLE,rEn,n1,n2,hi,hx]
 rintro b8 hb8
 refine draw_intro [0, 0, 0, 0, 0, 0, 0, 0, 0, 2, 0, 0, 2] AHeap.none (by kernel_rfl) none_le ?_
 simp +contextual -dsimp -implicitDefEqProofs (maxSteps:=5000000) only [go_sem,reduceIte,reduceCtorEq,Nat.reduceEqDiff,Nat.reduceBEq,Nat.reduceAdd,Nat.reduceLeDiff,Nat.reduceMul,Nat.reduceLT,Int.reduceEq,Int.reduceLT,Int.reduceLE,rEn,n1,n2,hi,hx,hw2]
 refine sts_app1 hg1' hb' n1 hn6 (by omega) fun x3 G4 z1 z3 z4 z5 => ?_
 obtain ⟨q1, q2⟩ := z5
 simp +contextual -dsimp -implicitDefEqProofs (maxSteps:=5000000) only [go_sem,reduceIte,reduceCtorEq,Nat.reduceEqDiff,Nat.reduceBEq,Nat.reduceAdd,Nat.reduceLeDiff,Nat.reduceMul,Nat.reduceLT,Int.reduceEq,Int.reduceLT,Int.reduceLE,n1,n2,q1,q2]
 have hMf : StS F (G4.set bs ⟨4, 138, [[.vsl (t.map rClass) cl, aProg P clp, x3, .vsl (r.2.fs.map rFault) clf']]⟩) bs t cl P clp (r.2.tell (200 + a)) := ⟨x3, G4, clf', hF', z1, z3, rfl⟩
 have hGf : (G4.set bs ⟨4, 138, [[.vsl (t.map rClass) cl, aProg P clp, x3, .vsl (r.2.fs.map rFault) clf']]⟩) b6 = none := by rw [set_other n1]; exact z4
 unfold withS
 by_cases hc : r.1.ed = 2 ∧ b = 1
 ·rw [if_pos hc]
  simp +contextual -dsimp -implicitDefEqProofs (maxSteps:=5000000) only [go_sem,reduceIte,reduceCtorEq,Nat.reduceEqDiff,Nat.reduceBEq,Nat.reduceAdd,Nat.reduceLeDiff,Nat.reduceMul,Nat.reduceLT,Int.reduceEq,Int.reduceLT,Int.reduceLE,n1,n2,q1,q2,hc.1,hc.2]
  refine retR_less (l := [.agg (rEn .next)]) (H' := G4.set bs _) ?_ (le_set hGf) ⟨rfl, hMf⟩
  simp only [resA,go_sem,reduceIte,reduceCtorEq,Nat.reduceEqDiff,Nat.reduceBEq,Nat.reduceAdd,Nat.reduceLeDiff,Nat.reduceMul,Nat.reduceLT,Int.reduceEq,Int.reduceLT,Int.reduceLE,rEn,En.next]
 ·rw [if_neg hc]
  by_cases hc1 : r.1.ed = 2
  ·have hc2 : ¬ b = 1 := fun q => hc ⟨hc1, q⟩
   simp +contextual -dsimp -implicitDefEqProofs (maxSteps:=5000000) only [go_sem,reduceIte,reduceCtorEq,Nat.reduceEqDiff,Nat.reduceBEq,Nat.reduceAdd,Nat.reduceLeDiff,Nat.reduceMul,Nat.reduceLT,Int.reduceEq,Int.reduceLT,Int.reduceLE,n1,n2,q1,q2,hc1,hc2]
   refine retR_less (l := [.agg (rEn r.1)]) (H' := G4.set bs _) ?_ (le_set hGf) ⟨rfl, hMf⟩
   simp only [resA,go_sem,reduceIte,reduceCtorEq,Nat.reduceEqDiff,Nat.reduceBEq,Nat.reduceAdd,Nat.reduceLeDiff,Nat.reduceMul,Nat.reduceLT,Int.reduceEq,Int.reduceLT,Int.reduceLE,rEn,hc1]
  ·simp +contextual -dsimp -implicitDefEqProofs (maxSteps:=5000000) only [go_sem,reduceIte,reduceCtorEq,Nat.reduceEqDiff,Nat.reduceBEq,Nat.reduceAdd,Nat.reduceLeDiff,Nat.reduceMul,Nat.reduceLT,Int.reduceEq,Int.reduceLT,Int.reduceLE,n1,n2,q1,q2,hc1]
   refine retR_less (l := [.agg (rEn r.1)]) (H' := G4.set bs _) ?_ (le_set hGf) ⟨rfl, hMf⟩
   simp only [resA,go_sem,reduceIte,reduceCtorEq,Nat.reduceEqDiff,Nat.reduceBEq,Nat.reduceAdd,Nat.reduceLeDiff,Nat.reduceMul,Nat.reduceLT,Int.reduceEq,Int.reduceLT,Int.reduceLE,rEn]
theorem c_sloop {t : List Class} {cl : Bool} {P : List Line} {clp : Bool} {n : Nat} (ht : validT t = true) (ih : SBlkOk t cl P clp n) {i : Nat} {d a b h : Int} {kids rest : Fo} {s : RS} {F H : AHeap} {bs : Nat} {lp : Bool}
  (hn : kids.size < n) (hat : At P i d (.node 12 a b kids rest)) (hno : numOk t 12 a b = true) (hk : numsF t kids (d + 1) = true) (hok : okF kids lp false = true) (hs : FsOk t s.fs) (hh : h < s.fs.length) (hl : s.log.length + (2 + a.toNat * cost kids) ≤ 900000) (hf : s.fs.length + (2 + a.toNat * cost kids) ≤ 900000) (hM : StS F H bs t cl P clp s) (hp : P.length ≤ 4398046511104) :
  ACalls Tryz.prog 180 [.ptr bs 4 0 0, I i, I h] H fun r H' => r = .agg (rEn (loopS (fun s => runF t kids (i + 1) none h s) a.toNat s).1) ∧ StS F H' bs t cl P clp (loopS (fun s => runF t kids (i + 1) none h s) a.toNat s).2 := by
 have hi := hat.head.1
 have hx := hat.head.2
 have ha := hno
 unfold numOk at ha
 rw [if_neg (by omega), if_neg (by omega), if_neg (by omega), if_neg (by omega), if_pos rfl, Bool.and_eq_true] at ha
 simp only [inR,Bool.and_eq_true,decide_eq_true_eq] at ha
 obtain ⟨xl, G, clf, hF, hg1, hb, rfl⟩ := id hM
 refine acalls_of1 Tryz.func180 rfl (by kernel_rfl) rfl rfl (awp_sound (fz := fun r => if r = 4 then [8] else []) (im := fun _ => false) mixed _ _ _ _ (by kernel_rfl) ?_)
 simp +contextual -dsimp -implicitDefEqProofs (maxSteps:=5000000) only [go_sem,reduceIte,reduceCtorEq,Nat.reduceEqDiff,Nat.reduceBEq,Nat.reduceAdd,Nat.reduceLeDiff,Nat.reduceMul,Nat.reduceLT,Int.reduceEq,Int.reduceLT,Int.reduceLE]
 rintro b6 ⟨n1, n2, hn2⟩
 have hF6 : F b6 = none := grow_none hg1 hn2
 simp +contextual -dsimp -implicitDefEqProofs (maxSteps:=5000000) only [go_sem,reduceIte,reduceCtorEq,Nat.reduceEqDiff,Nat.reduceBEq,Nat.reduceAdd,Nat.reduceLeDiff,Nat.reduceMul,Nat.reduceLT,Int.reduceEq,Int.reduceLT,Int.reduceLE,hi,hx,n1,n2]
 refine aloop mixed (fz := fun r => if r = 4 then [8] else []) (im := fun _ => false) (by kernel_rfl) (fun m tm H' => ∃ (s' : RS) (H'' : AHeap), m ≤ a.toNat ∧ H' = H''.set b6 ⟨2, 140, [[I 0, I 0]]⟩ ∧ H'' b6 = none ∧ StS F H'' bs t cl P clp s' ∧ FsOk t s'.fs ∧ s.fs.length ≤ s'.fs.length ∧ s'.fs.length ≤ s.fs.length + (a.toNat - m) * cost kids ∧ s'.log.length ≤ s.log.length + (a.toNat - m) * cost kids ∧ loopS (fun s => runF t kids (i + 1) none h s) a.toNat s = loopS (fun s => runF t kids (i + 1) none h s) m s' ∧ tm 0 = .ptr bs 4 0 0 ∧ tm 1 = I i ∧ tm 2 = I h ∧ tm 6 = .ptr b6 2 0 0 ∧ tm 7 = I m) a.toNat ⟨s, G.set bs _, Nat.le_refl _, rfl, by rw [set_other n1]; exact hn2, hM, hs, Nat.le_refl _, by omega, by omega, rfl, ?_⟩ ?_
 ·simp +contextual -dsimp -implicitDefEqProofs (maxSteps:=5000000) only [go_sem,reduceIte,reduceCtorEq,Nat.reduceEqDiff,Nat.reduceBEq,Nat.reduceAdd,Nat.reduceLeDiff,Nat.reduceMul,Nat.reduceLT,Int.reduceEq,Int.reduceLT,Int.reduceLE,n1,n2]
  have e : a = ((a.toNat : Nat) : Int) := by omega
  rw [hx]
  exact congrArg I e
 ·rintro m tm _ ⟨s', H'', hm, rfl, hb6, hM', hs', g1, g2, g3, he, t0, t1, t2, t6, t7⟩
  cases m with
  | zero =>
   have z : ¬ (0 : Int) < ((0 : Nat) : Int) := by omega
   simp +contextual -dsimp -implicitDefEqProofs (maxSteps:=5000000) only [go_sem,reduceIte,reduceCtorEq,Nat.reduceEqDiff,Nat.reduceBEq,Nat.reduceAdd,Nat.reduceLeDiff,Nat.reduceMul,Nat.reduceLT,Int.reduceEq,Int.reduceLT,Int.reduceLE,n1,n2,t0,t1,t2,t6,t7,z]
   rw [he]
   refine retR_less (l := [.agg (rEn .next)]) (H' := H'') ?_ (le_set hb6) ⟨rfl, hM'⟩
   simp only [resA,go_sem,reduceIte,reduceCtorEq,Nat.reduceEqDiff,Nat.reduceBEq,Nat.reduceAdd,Nat.reduceLeDiff,Nat.reduceMul,Nat.reduceLT,Int.reduceEq,Int.reduceLT,Int.reduceLE,rEn,En.next,t6]
  | succ m =>
   have z : (0 : Int) < ((m + 1 : Nat) : Int) := by omega
   have w1 : (a.toNat - (m + 1)) * cost kids + cost kids ≤ a.toNat * cost kids := by
    rw [← Nat.succ_mul]; exact Nat.mul_le_mul_right _ (by omega)
   have w2 : (a.toNat - m) * cost kids = (a.toNat - (m + 1)) * cost kids + cost kids := by
    rw [← Nat.succ_mul]; congr 1; omega
   simp +contextual -dsimp -implicitDefEqProofs (maxSteps:=5000000) only [go_sem,reduceIte,reduceCtorEq,Nat.reduceEqDiff,Nat.reduceBEq,Nat.reduceAdd,Nat.reduceLeDiff,Nat.reduceMul,Nat.reduceLT,Int.reduceEq,Int.reduceLT,Int.reduceLE,n1,n2,t0,t1,t2,t6,t7,z]
   have hgo := goes_run ht kids (i + 1) none (d + 1) h s' hk hs' (by omega) trivial
   have hgl := hgo.len
   refine (c_sbody ih hn hat hk hok (s := s') hs' (by omega) (by omega) (by omega) (sts_in (K := ⟨2, 140, [[I 0, I 0]]⟩) hM' hb6) hp).mono ?_
   rintro _ H3 ⟨rfl, hM3⟩
   simp only [loopS] at he
   generalize runF t kids (i + 1) none h s' = r at hM3 hgo hgl he ⊢
   obtain ⟨H4, rfl, hM4, hn4⟩ := sts_out hM3 hF6
   by_cases c3 : r.1.ed = 3
   ·rw [if_neg (by omega), if_pos c3] at he
    simp +contextual -dsimp -implicitDefEqProofs (maxSteps:=5000000) only [go_sem,reduceIte,reduceCtorEq,Nat.reduceEqDiff,Nat.reduceBEq,Nat.reduceAdd,Nat.reduceLeDiff,Nat.reduceMul,Nat.reduceLT,Int.reduceEq,Int.reduceLT,Int.reduceLE,rEn,n1,n2,t0,t1,t2,t6,t7,c3]
    rintro b9 hb9
    rw [he]
    refine retR_less (l := [.agg (rEn .next)]) (H' := H4) ?_ (le_set hn4) ⟨rfl, hM4⟩
    simp only [resA,go_sem,reduceIte,reduceCtorEq,Nat.reduceEqDiff,Nat.reduceBEq,Nat.reduceAdd,Nat.reduceLeDiff,Nat.reduceMul,Nat.reduceLT,Int.reduceEq,Int.reduceLT,Int.reduceLE,rEn,En.next,t6]
   by_cases c1 : r.1.ed = 1
   ·rw [if_pos (.inl c1)] at he
    simp +contextual -dsimp -implicitDefEqProofs (maxSteps:=5000000) only [go_sem,reduceIte,reduceCtorEq,Nat.reduceEqDiff,Nat.reduceBEq,Nat.reduceAdd,Nat.reduceLeDiff,Nat.reduceMul,Nat.reduceLT,Int.reduceEq,Int.reduceLT,Int.reduceLE,rEn,n1,n2,t0,t1,t2,t6,t7,c1]
    rintro b9 hb9
    rw [he]
    refine retR_less (l := [.agg (rEn r.1)]) (H' := H4) ?_ (le_set hn4) ⟨rfl, hM4⟩
    simp only [resA,go_sem,reduceIte,reduceCtorEq,Nat.reduceEqDiff,Nat.reduceBEq,Nat.reduceAdd,Nat.reduceLeDiff,Nat.reduceMul,Nat.reduceLT,Int.reduceEq,Int.reduceLT,Int.reduceLE,rEn,c1,t6]
   by_cases c2 : r.1.ed = 2
   ·rw [if_pos (.inr c2)] at he
    simp +contextual -dsimp -implicitDefEqProofs (maxSteps:=5000000) only [go_sem,reduceIte,reduceCtorEq,Nat.reduceEqDiff,Nat.reduceBEq,Nat.reduceAdd,Nat.reduceLeDiff,Nat.reduceMul,Nat.reduceLT,Int.reduceEq,Int.reduceLT,Int.reduceLE,rEn,n1,n2,t0,t1,t2,t6,t7,c2]
    rintro b9 hb9
    rw [he]
    refine retR_less (l := [.agg (rEn r.1)]) (H' := H4) ?_ (le_set hn4) ⟨rfl, hM4⟩
    simp only [resA,go_sem,reduceIte,reduceCtorEq,Nat.reduceEqDiff,Nat.reduceBEq,Nat.reduceAdd,Nat.reduceLeDiff,Nat.reduceMul,Nat.reduceLT,Int.reduceEq,Int.reduceLT,Int.reduceLE,rEn,c2,t6]
   rw [if_neg (fun q => q.elim c1 c2), if_neg c3] at he
   simp +contextual -dsimp -implicitDefEqProofs (maxSteps:=5000000) only [go_sem,reduceIte,reduceCtorEq,Nat.reduceEqDiff,Nat.reduceBEq,Nat.reduceAdd,Nat.reduceLeDiff,Nat.reduceMul,Nat.reduceLT,Int.reduceEq,Int.reduceLT,Int.reduceLE,rEn,n1,n2,t0,t1,t2,t6,t7,c1,c2,c3]
   rintro b9 hb9
   exact ⟨m, by omega, r.2, H4, by omega, rfl, hn4, hM4, hgo.ok, by omega, by omega, by omega, he, I_wrap (by omega) (by omega) (by omega)⟩
end
section
open Go Go.Sim
set_option maxRecDepth 100000
set_option maxHeartbeats 4000000

structure ChainAt (t : List Class) (p : List Line) (d : Int) (lp : Bool) (f : Fo) (q : Nat) (k : Int) (ks : Fo) : Prop where
 at_ : ∃ a b re, At p q d (.node k a b ks re)
 small : ks.size < f.size
 nums : numsF t ks (d + 1) = true
 ok : okF ks lp false = true
 cost : cost ks ≤ Go.Proofs.YtjpfgafdjlkblaaGreat.cost f
theorem chainAt_up {t : List Class} {p : List Line} {d : Int} {lp : Bool} {k' a b : Int} {kids rest : Fo} {q : Nat} {k : Int} {ks : Fo} (hk : k' ≠ 12) (h : ChainAt t p d lp rest q k ks) : ChainAt t p d lp (.node k' a b kids rest) q k ks :=
 ⟨h.at_, by have := h.small; simp only [Fo.size]; omega,h.nums,h.ok,by have := h.cost; rw [cost_node_le hk]; omega⟩
theorem chainAt_here {t : List Class} {p : List Line} {d : Int} {lp : Bool} {k a b : Int} {kids rest : Fo} {i : Nat} (hk : followsK k = true) (hat : At p i d (.node k a b kids rest)) (hn : numsF t (.node k a b kids rest) d = true) (hok : okF (.node k a b kids rest) lp true = true) :
  ChainAt t p d lp (.node k a b kids rest) i k kids := by
 obtain ⟨n1, n2, n3, n4, n5⟩ := numsF_node hn
 have hk' := hk
 simp only [followsK,inR,Bool.and_eq_true,decide_eq_true_eq] at hk'
 simp only [okF,hk,if_true,Bool.true_and,Bool.and_eq_true] at hok
 exact ⟨⟨a, b, rest, hat⟩, by simp only [Fo.size]; omega,n4,hok.1,by rw [cost_node_le (by omega)]; omega⟩
theorem okF_rest {k a b : Int} {kids rest : Fo} {lp : Bool} (hk : followsK k = true) (hok : okF (.node k a b kids rest) lp true = true) : okF rest lp true = true := by
 simp only [okF,hk,if_true,Bool.true_and,Bool.and_eq_true] at hok
 exact hok.2
theorem elseF_at {t : List Class} {p : List Line} {d : Int} {lp : Bool} : ∀ (f : Fo) (i q : Nat) (ks : Fo), At p i d f → numsF t f d = true → okF f lp true = true → elseF f i = some (q, ks) → ChainAt t p d lp f q 9 ks ∧ ∀ q' ks', lastB f i = some (q', 10, ks') → cost ks + cost ks' ≤ cost f
 | .nil, i, q, ks, _, _, _, h => by cases h
 | .node k a b kids rest, i, q, ks, hat, hn, hok, h => by
  simp only [elseF] at h
  split at h
  ·rename_i hk
   have hk' := hk
   simp only [followsK,inR,Bool.and_eq_true,decide_eq_true_eq] at hk'
   obtain ⟨n1, n2, n3, n4, n5⟩ := numsF_node hn
   have hc := cost_node_le (k := k) (a := a) (b := b) (kids := kids) (rest := rest) (by omega)
   split at h
   ·rename_i k9
    subst k9
    simp only [Option.some.injEq,Prod.mk.injEq] at h
    obtain ⟨rfl, rfl⟩ := h
    refine ⟨chainAt_here hk hat hn hok, fun q' ks' hl => ?_⟩
    simp only [lastB,hk,if_true] at hl
    cases hr : lastB rest (i + 1 + kids.size) with
    | none => rw [hr] at hl; simp at hl
    | some x =>
     rw [hr] at hl
     simp only [Option.some.injEq] at hl
     have := lastB_cost rest _ hr
     rw [hl] at this
     simp only at this
     omega
   ·obtain ⟨h1, h2⟩ := elseF_at rest _ q ks hat.rest n5 (okF_rest hk hok) h
    refine ⟨chainAt_up (by omega) h1, fun q' ks' hl => ?_⟩
    have hcc := h1.cost
    simp only [lastB,hk,if_true] at hl
    cases hr : lastB rest (i + 1 + kids.size) with
    | none =>
     rw [hr] at hl
     simp only [Option.some.injEq,Prod.mk.injEq] at hl
     obtain ⟨_, _, rfl⟩ := hl
     omega
    | some x =>
     rw [hr] at hl
     have := h2 q' ks' (by rw [hr]; exact hl)
     omega
  ·cases h
where
 lastB_cost {x : Nat × Int × Fo} : ∀ (f : Fo) (i : Nat), lastB f i = some x → Go.Proofs.YtjpfgafdjlkblaaGreat.cost x.2.2 ≤ Go.Proofs.YtjpfgafdjlkblaaGreat.cost f
  | .nil, i, h => by cases h
  | .node k a b kids rest, i, h => by
   simp only [lastB] at h
   split at h
   ·rename_i hk
    have hk' := hk
    simp only [followsK,inR,Bool.and_eq_true,decide_eq_true_eq] at hk'
    have hc := cost_node_le (k := k) (a := a) (b := b) (kids := kids) (rest := rest) (by omega)
    cases hr : lastB rest (i + 1 + kids.size) with
    | none =>
     rw [hr] at h
     simp only [Option.some.injEq] at h
     subst h
     show cost kids ≤ _
     omega
    | some y =>
     rw [hr] at h
     simp only [Option.some.injEq] at h
     subst h
     have := lastB_cost rest _ hr
     omega
   ·cases h
theorem catchF_at {t : List Class} {p : List Line} {d : Int} {lp : Bool} {c : Int} : ∀ (f : Fo) (i q : Nat) (ks : Fo), At p i d f → numsF t f d = true → okF f lp true = true → catchF t c f i = some (q, ks) → ChainAt t p d lp f q 8 ks ∧ ∀ q' ks', lastB f i = some (q', 10, ks') → cost ks + cost ks' ≤ cost f
 | .nil, i, q, ks, _, _, _, h => by cases h
 | .node k a b kids rest, i, q, ks, hat, hn, hok, h => by
  simp only [catchF] at h
  split at h
  ·rename_i hk
   have hk' := hk
   simp only [followsK,inR,Bool.and_eq_true,decide_eq_true_eq] at hk'
   obtain ⟨n1, n2, n3, n4, n5⟩ := numsF_node hn
   have hc := cost_node_le (k := k) (a := a) (b := b) (kids := kids) (rest := rest) (by omega)
   split at h
   ·rename_i k8
    obtain ⟨k8, _⟩ := k8
    subst k8
    simp only [Option.some.injEq,Prod.mk.injEq] at h
    obtain ⟨rfl, rfl⟩ := h
    refine ⟨chainAt_here hk hat hn hok, fun q' ks' hl => ?_⟩
    simp only [lastB,hk,if_true] at hl
    cases hr : lastB rest (i + 1 + kids.size) with
    | none => rw [hr] at hl; simp at hl
    | some x =>
     rw [hr] at hl
     simp only [Option.some.injEq] at hl
     have := elseF_at.lastB_cost rest _ hr
     rw [hl] at this
     simp only at this
     omega
   ·obtain ⟨h1, h2⟩ := catchF_at rest _ q ks hat.rest n5 (okF_rest hk hok) h
    refine ⟨chainAt_up (by omega) h1, fun q' ks' hl => ?_⟩
    have hcc := h1.cost
    simp only [lastB,hk,if_true] at hl
    cases hr : lastB rest (i + 1 + kids.size) with
    | none =>
     rw [hr] at hl
     simp only [Option.some.injEq,Prod.mk.injEq] at hl
     obtain ⟨_, _, rfl⟩ := hl
     omega
    | some x =>
     rw [hr] at hl
     have := h2 q' ks' (by rw [hr]; exact hl)
     omega
  ·cases h
theorem lastB_in {t : List Class} {p : List Line} {d : Int} {lp : Bool} : ∀ (f : Fo) (i q : Nat) (k : Int) (ks : Fo), At p i d f → numsF t f d = true → okF f lp true = true → lastB f i = some (q, k, ks) → ChainAt t p d lp f q k ks ∧ followsK k = true
 | .nil, i, q, k, ks, _, _, _, h => by cases h
 | .node k' a b kids rest, i, q, k, ks, hat, hn, hok, h => by
  simp only [lastB] at h
  split at h
  ·rename_i hk
   have hk' := hk
   simp only [followsK,inR,Bool.and_eq_true,decide_eq_true_eq] at hk'
   obtain ⟨n1, n2, n3, n4, n5⟩ := numsF_node hn
   cases hr : lastB rest (i + 1 + kids.size) with
   | none =>
    rw [hr] at h
    simp only [Option.some.injEq,Prod.mk.injEq] at h
    obtain ⟨rfl, rfl, rfl⟩ := h
    exact ⟨chainAt_here hk hat hn hok, hk⟩
   | some x =>
    rw [hr] at h
    obtain ⟨h1, h2⟩ := lastB_in rest _ q k ks hat.rest n5 (okF_rest hk hok) (by rw [hr]; exact h)
    exact ⟨chainAt_up (by omega) h1, h2⟩
  ·cases h
end
section
open Go Go.Sim
set_option maxRecDepth 100000
set_option maxHeartbeats 4000000

theorem toI_cons_at (i x : Nat) (l : List Nat) : (i :: l).getD (x + 1) default = l.getD x default := by simp [List.getD_eq_getElem?_getD]
theorem c_caught {t : List Class} {cl : Bool} {P : List Line} {clp : Bool} (ht : validT t = true) {i j : Nat} {d v : Int} {rest : Fo} {s : RS} {F H : AHeap} {bs : Nat} (cl2 : Bool)
  (hat : At P j d rest) (hs : FsOk t s.fs) (h0 : 0 ≤ v) (h1 : v < s.fs.length) (hM : StS F H bs t cl P clp s) (hp : P.length ≤ 4398046511104) :
  ACalls Tryz.prog 191 [.ptr bs 4 0 0, .vsl ((toI (i :: chainN rest j)).map rI) cl2, I v] H fun r H' => r = I (match catchF t (clsOf s v) rest j with | some (q, _) => (q : Int) | none => -1) ∧ H' = H := by
 have hch := chain_len rest j
 have hrl := hat.len
 have hv : v.toNat < s.fs.length := by omega
 have hcl := hasF_spec (hs.cls v.toNat hv).1
 obtain ⟨xl, G, clf, hF, hg1, hb, rfl⟩ := id hM
 refine acalls_of1 Tryz.func191 rfl (by kernel_rfl) rfl rfl (awp_sound (fz := fun r => if r = 4 then [8] else []) (im := fun _ => false) mixed _ _ _ _ (by kernel_rfl) ?_)
 simp +contextual -dsimp -implicitDefEqProofs (maxSteps:=5000000) only [go_sem,reduceIte,reduceCtorEq,Nat.reduceEqDiff,Nat.reduceBEq,Nat.reduceAdd,Nat.reduceLeDiff,Nat.reduceMul,Nat.reduceLT,Int.reduceEq,Int.reduceLT,Int.reduceLE]
 refine aloop mixed (fz := fun r => if r = 4 then [8] else []) (im := fun _ => false) (by kernel_rfl) (fun m tm H' => ∃ (g : Fo) (q x : Nat), m = g.size ∧ At P q d g ∧ g.size ≤ rest.size ∧ (chainN rest j).drop x = chainN g q ∧ x ≤ (chainN rest j).length ∧ H' = G.set bs ⟨4, 138, [[.vsl (t.map rClass) cl, aProg P clp, xl, .vsl (s.fs.map rFault) clf]]⟩ ∧ catchF t (clsOf s v) rest j = catchF t (clsOf s v) g q ∧ tm 0 = .ptr bs 4 0 0 ∧ tm 1 = .vsl ((toI (i :: chainN rest j)).map rI) cl2 ∧ tm 2 = I v ∧ tm 7 = I (x + 1 : Nat)) rest.size ⟨rest, j, 0, rfl, hat, Nat.le_refl _, rfl, Nat.zero_le _, rfl, rfl, ?_⟩ ?_
 ·simp +contextual -dsimp -implicitDefEqProofs (maxSteps:=5000000) only [go_sem,reduceIte,reduceCtorEq,Nat.reduceEqDiff,Nat.reduceBEq,Nat.reduceAdd,Nat.reduceLeDiff,Nat.reduceMul,Nat.reduceLT,Int.reduceEq,Int.reduceLT,Int.reduceLE]
  rfl
 ·rintro m tm _ ⟨g, q, x, rfl, hgat, hgs, hdx, hxl, rfl, he, t0, t1, t2, t7⟩
  cases hcq : chainN g q with
  | nil =>
   rw [hcq] at hdx
   have hx := drop_nil hdx
   have hx' : ¬ x + 1 < (chainN rest j).length + 1 := by omega
   have hno : catchF t (clsOf s v) g q = none := by
    cases g with
    | nil => rfl
    | node k2 a2 b2 ks re =>
     simp only [chainN] at hcq
     split at hcq
     ·cases hcq
     ·rename_i hk2
      simp only [catchF]; rw [if_neg hk2]
   rw [he, hno]
   simp +contextual -dsimp -implicitDefEqProofs (maxSteps:=5000000) only [go_sem,reduceIte,reduceCtorEq,Nat.reduceEqDiff,Nat.reduceBEq,Nat.reduceAdd,Nat.reduceLeDiff,Nat.reduceMul,Nat.reduceLT,Int.reduceEq,Int.reduceLT,Int.reduceLE,t0,t1,t2,t7,toI_len,List.length_cons,hx']
   refine retR_less (l := [I (-1)]) (H' := G.set bs _) ?_ (AHeap.le_refl _) ⟨rfl, rfl⟩
   simp only [resA,go_sem,reduceIte,reduceCtorEq,Nat.reduceEqDiff,Nat.reduceBEq,Nat.reduceAdd,Nat.reduceLeDiff,Nat.reduceMul,Nat.reduceLT,Int.reduceEq,Int.reduceLT,Int.reduceLE]
  | cons q' tl =>
   cases g with
   | nil => simp [chainN] at hcq
   | node k2 a2 b2 ks re =>
    have hk2 : followsK k2 = true := by
     simp only [chainN] at hcq
     split at hcq
     ·assumption
     ·cases hcq
    have hdx' : (chainN rest j).drop x = q :: chainN re (q + 1 + ks.size) := by
     rw [hdx]; simp only [chainN]; rw [if_pos hk2]
    obtain ⟨hx1, hx2, hx3⟩ := drop_cons hdx'
    have hx' : x + 1 < (chainN rest j).length + 1 := by omega
    have hh2 := hgat.head
    have hef : catchF t (clsOf s v) (.node k2 a2 b2 ks re) q = if k2 = 8 ∧ isF t (clsOf s v) a2 = true then some (q, ks) else catchF t (clsOf s v) re (q + 1 + ks.size) := by
     simp only [catchF]; rw [if_pos hk2]
    have hsz : (Fo.node k2 a2 b2 ks re).size = 1 + ks.size + re.size := rfl
    have szl : ∀ k : Int, re.size < (Fo.node k a2 b2 ks re).size := fun k => by simp only [Fo.size]; omega
    simp +contextual -dsimp -implicitDefEqProofs (maxSteps:=5000000) only [go_sem,reduceIte,reduceCtorEq,Nat.reduceEqDiff,Nat.reduceBEq,Nat.reduceAdd,Nat.reduceLeDiff,Nat.reduceMul,Nat.reduceLT,Int.reduceEq,Int.reduceLT,Int.reduceLE,t0,t1,t2,t7,toI_len,toI_at,toI_cons_at,List.length_cons,hx',hx2]
    refine draw_intro [0, 0, 0, 1, 0, 0, 0, 1, 0, 1, 3, 2] _ (by kernel_rfl) (AHeap.le_refl _) ?_
    simp +contextual -dsimp -implicitDefEqProofs (maxSteps:=5000000) only [go_sem,reduceIte,reduceCtorEq,Nat.reduceEqDiff,Nat.reduceBEq,Nat.reduceAdd,Nat.reduceLeDiff,Nat.reduceMul,Nat.reduceLT,Int.reduceEq,Int.reduceLT,Int.reduceLE,t0,t1,t2,t7,toI_len,toI_at,toI_cons_at,List.length_cons,hx',hx2,hh2.1,hh2.2]
    rintro b8 hb8
    refine ⟨le_set (by rw [set_other hb8.1]; exact hb8.2.2), ?_⟩
    refine draw_intro [0, 0, 0, 0, 0, 0, 0, 0, 0, 0, 0, 0, 0, 0, 0, 0, 0, 0, 0, 2, 0] _ (by kernel_rfl) (AHeap.le_refl _) ?_
    by_cases k8 : k2 = 8
    ·simp +contextual -dsimp -implicitDefEqProofs (maxSteps:=5000000) only [go_sem,reduceIte,reduceCtorEq,Nat.reduceEqDiff,Nat.reduceBEq,Nat.reduceAdd,Nat.reduceLeDiff,Nat.reduceMul,Nat.reduceLT,Int.reduceEq,Int.reduceLT,Int.reduceLE,t0,t1,t2,t7,toI_len,toI_at,toI_cons_at,List.length_cons,hx',hx2,hh2.1,hh2.2,k8,h0,h1,hv]
     refine (c_isA t cl _ a2 _ ht hcl.2).det ?_
     simp +contextual -dsimp -implicitDefEqProofs (maxSteps:=5000000) only [go_sem,reduceIte,reduceCtorEq,Nat.reduceEqDiff,Nat.reduceBEq,Nat.reduceAdd,Nat.reduceLeDiff,Nat.reduceMul,Nat.reduceLT,Int.reduceEq,Int.reduceLT,Int.reduceLE,t0,t1,t2,t7,toI_len,toI_at,toI_cons_at,List.length_cons,hx',hx2,hh2.1,hh2.2,k8]
     refine ⟨fun hq => ?_, fun hq => ?_⟩
     ·rw [if_pos ⟨k8, hq⟩] at hef
      rw [he, hef]
      refine retR_less (l := [I q]) (H' := G.set bs _) ?_ (AHeap.le_refl _) ⟨rfl, rfl⟩
      simp only [resA,go_sem,reduceIte,reduceCtorEq,Nat.reduceEqDiff,Nat.reduceBEq,Nat.reduceAdd,Nat.reduceLeDiff,Nat.reduceMul,Nat.reduceLT,Int.reduceEq,Int.reduceLT,Int.reduceLE]
     ·rw [if_neg (fun z => by have := z.2; unfold isF clsOf at this; rw [hq] at this; cases this)] at hef
      exact ⟨re.size, szl 8, re, q + 1 + ks.size, x + 1, rfl, hgat.rest, by omega, hx3, hx1, by rw [he]; exact hef, I_wrap (by omega) (by omega) (by omega)⟩
    ·rw [if_neg (fun z => k8 z.1)] at hef
     simp +contextual -dsimp -implicitDefEqProofs (maxSteps:=5000000) only [go_sem,reduceIte,reduceCtorEq,Nat.reduceEqDiff,Nat.reduceBEq,Nat.reduceAdd,Nat.reduceLeDiff,Nat.reduceMul,Nat.reduceLT,Int.reduceEq,Int.reduceLT,Int.reduceLE,t0,t1,t2,t7,toI_len,toI_at,toI_cons_at,List.length_cons,hx',hx2,hh2.1,hh2.2,k8]
     exact ⟨re.size, szl k2, re, q + 1 + ks.size, x + 1, rfl, hgat.rest, by omega, hx3, hx1, by rw [he]; exact hef, I_wrap (by omega) (by omega) (by omega)⟩
theorem c_sfinally {t : List Class} {cl : Bool} {P : List Line} {clp : Bool} {n : Nat} (ht : validT t = true) (ih : SBlkOk t cl P clp n) {i j : Nat} {d a b h : Int} {kids rest : Fo} {s : RS} {F H : AHeap} {bs : Nat} {lp : Bool} (cl2 : Bool) (e : En)
  (hn : rest.size < n) (hhead : At P i d (.node 7 a b kids rest)) (hj : j = i + 1 + kids.size) (hr : numsF t rest d = true) (hok : okF rest lp true = true) (hs : FsOk t s.fs) (hh : h < s.fs.length) (hev : e.ed = 2 → 0 ≤ e.val ∧ e.val < s.fs.length)
  (hl : ∀ q ks, lastB rest j = some (q, 10, ks) → s.log.length + cost ks ≤ 900000 ∧ s.fs.length + cost ks ≤ 900000) (hM : StS F H bs t cl P clp s) (hp : P.length ≤ 4398046511104) :
  ACalls Tryz.prog 190 [.ptr bs 4 0 0, .vsl ((toI (i :: chainN rest j)).map rI) cl2, .agg (rEn e), I h] H fun r H' => r = .agg (rEn (finR t rest j e h s).1) ∧ StS F H' bs t cl P clp (finR t rest j e h s).2 := by
 subst hj
 have hat := hhead.rest
 have hgl := getD_last i (chainN rest (i + 1 + kids.size))
 have hlp := lastB_pos rest (i + 1 + kids.size) i
 have hcl := chain_len rest (i + 1 + kids.size)
 have hrl := hat.len
 have hwl : IntKind.i64.wrap (((chainN rest (i + 1 + kids.size)).length + 1 : Nat) - 1) = ((chainN rest (i + 1 + kids.size)).length : Int) := by
  rw [w64 (by omega) (by omega)]; omega
 have hlt1 : ((chainN rest (i + 1 + kids.size)).length : Int) < (((chainN rest (i + 1 + kids.size)).length + 1 : Nat) : Int) := by omega
 have hlt2 : (chainN rest (i + 1 + kids.size)).length < (chainN rest (i + 1 + kids.size)).length + 1 := by omega
 obtain ⟨xl, G, clf, hF, hg1, hb, rfl⟩ := id hM
 refine acalls_of1 Tryz.func190 rfl (by kernel_rfl) rfl rfl (awp_sound (fz := fun r => if r = 6 then [10] else []) (im := fun s => s == 6) mixed _ _ _ _ (by kernel_rfl) ?_)
 simp +contextual -dsimp -implicitDefEqProofs (maxSteps:=5000000) only [go_sem,reduceIte,reduceCtorEq,Nat.reduceEqDiff,Nat.reduceBEq,Nat.reduceAdd,Nat.reduceLeDiff,Nat.reduceMul,Nat.reduceLT,Int.reduceEq,Int.reduceLT,Int.reduceLE,toI_len,toI_at,List.length_cons,hwl,hgl,hlt1,hlt2,rEn]
 rintro b8 ⟨n1, n2, hn2⟩
 have hF8 : F b8 = none := grow_none hg1 hn2
 have hb8 : ∀ K, (G.set bs K) b8 = none := fun K => by rw [set_other n1]; exact hn2
 cases hL : lastB rest (i + 1 + kids.size) with
 | none =>
  have ef : finR t rest (i + 1 + kids.size) e h s = (e, s) := by unfold finR; rw [hL]
  rw [ef]
  rw [hL] at hlp
  simp only at hlp
  rw [hlp]
  simp +contextual -dsimp -implicitDefEqProofs (maxSteps:=5000000) only [go_sem,reduceIte,reduceCtorEq,Nat.reduceEqDiff,Nat.reduceBEq,Nat.reduceAdd,Nat.reduceLeDiff,Nat.reduceMul,Nat.reduceLT,Int.reduceEq,Int.reduceLT,Int.reduceLE,hhead.head.1,hhead.head.2,n1,n2]
  refine retR_less (l := [.agg (rEn e)]) (H' := G.set bs _) ?_ (le_set (hb8 _)) ⟨rfl, hM⟩
  simp only [resA,go_sem,reduceIte,reduceCtorEq,Nat.reduceEqDiff,Nat.reduceBEq,Nat.reduceAdd,Nat.reduceLeDiff,Nat.reduceMul,Nat.reduceLT,Int.reduceEq,Int.reduceLT,Int.reduceLE,rEn]
 | some y =>
  obtain ⟨q, k, ks⟩ := y
  rw [hL] at hlp
  simp only at hlp
  rw [hlp]
  obtain ⟨⟨⟨a2, b2, re2, hq⟩, c2, c3, c4, c5⟩, c6⟩ := lastB_in (t := t) (lp := lp) rest _ q k ks hat hr hok hL
  by_cases k10 : k = 10
  ·subst k10
   obtain ⟨l1, l2⟩ := hl q ks hL
   have hgF : ∀ g : Int, g < s.fs.length → Goes t (cost ks) s (runF t ks (q + 1) none g s).1 (runF t ks (q + 1) none g s).2 := fun g hg => goes_run ht ks (q + 1) none (d + 1) g s c3 hs hg trivial
   have body : ∀ g : Int, g < s.fs.length → ACalls Tryz.prog 189 [.ptr bs 4 0 0, I q, I g] ((G.set bs ⟨4, 138, [[.vsl (t.map rClass) cl, aProg P clp, xl, .vsl (s.fs.map rFault) clf]]⟩).set b8 ⟨2, 140, [[I 0, I 0]]⟩) fun r H' => r = .agg (rEn (runF t ks (q + 1) none g s).1) ∧ StS (F.set b8 ⟨2, 140, [[I 0, I 0]]⟩) H' bs t cl P clp (runF t ks (q + 1) none g s).2 :=
    fun g hg => c_sbody ih (by omega) hq c3 c4 hs hg l1 l2 (sts_in hM (hb8 _)) hp
   by_cases e2 : e.ed = 2
   ·have ef : finR t rest (i + 1 + kids.size) e h s = (fun l : En × RS => (if l.1.ed = 0 then e else l.1, l.2)) (runF t ks (q + 1) none e.val s) := by
     unfold finR; rw [hL]; simp only [if_true,e2]
    rw [ef]
    have hgl := (hgF e.val (hev e2).2).len
    simp +contextual -dsimp -implicitDefEqProofs (maxSteps:=5000000) only [go_sem,reduceIte,reduceCtorEq,Nat.reduceEqDiff,Nat.reduceBEq,Nat.reduceAdd,Nat.reduceLeDiff,Nat.reduceMul,Nat.reduceLT,Int.reduceEq,Int.reduceLT,Int.reduceLE,hq.head.1,hq.head.2,n1,n2,e2]
    refine (body e.val (hev e2).2).mono ?_
    rintro _ H3 ⟨rfl, hM3⟩
    generalize runF t ks (q + 1) none e.val s = r at hM3 ⊢
    obtain ⟨H4, rfl, hM4, w4⟩ := sts_out hM3 hF8
    by_cases c0 : r.1.ed = 0
    ·simp +contextual -dsimp -implicitDefEqProofs (maxSteps:=5000000) only [go_sem,reduceIte,reduceCtorEq,Nat.reduceEqDiff,Nat.reduceBEq,Nat.reduceAdd,Nat.reduceLeDiff,Nat.reduceMul,Nat.reduceLT,Int.reduceEq,Int.reduceLT,Int.reduceLE,rEn,n1,n2,c0,e2]
     rintro b10 hb10
     refine retR_less (l := [.agg (rEn e)]) (H' := H4) ?_ (le_set w4) ⟨by show AV.agg [I e.ed, I e.val] = _; rw [e2], hM4⟩
     simp only [resA,go_sem,reduceIte,reduceCtorEq,Nat.reduceEqDiff,Nat.reduceBEq,Nat.reduceAdd,Nat.reduceLeDiff,Nat.reduceMul,Nat.reduceLT,Int.reduceEq,Int.reduceLT,Int.reduceLE,rEn,e2]
    ·simp +contextual -dsimp -implicitDefEqProofs (maxSteps:=5000000) only [go_sem,reduceIte,reduceCtorEq,Nat.reduceEqDiff,Nat.reduceBEq,Nat.reduceAdd,Nat.reduceLeDiff,Nat.reduceMul,Nat.reduceLT,Int.reduceEq,Int.reduceLT,Int.reduceLE,rEn,n1,n2,c0,e2]
     rintro b10 hb10
     refine retR_less (l := [.agg (rEn r.1)]) (H' := H4) ?_ (le_set w4) ⟨rfl, hM4⟩
     simp only [resA,go_sem,reduceIte,reduceCtorEq,Nat.reduceEqDiff,Nat.reduceBEq,Nat.reduceAdd,Nat.reduceLeDiff,Nat.reduceMul,Nat.reduceLT,Int.reduceEq,Int.reduceLT,Int.reduceLE,rEn]
   ·have ef : finR t rest (i + 1 + kids.size) e h s = (fun l : En × RS => (if l.1.ed = 0 then e else l.1, l.2)) (runF t ks (q + 1) none h s) := by
     unfold finR; rw [hL]; simp only [if_true,e2,if_false]
    rw [ef]
    have hgl := (hgF h hh).len
    simp +contextual -dsimp -implicitDefEqProofs (maxSteps:=5000000) only [go_sem,reduceIte,reduceCtorEq,Nat.reduceEqDiff,Nat.reduceBEq,Nat.reduceAdd,Nat.reduceLeDiff,Nat.reduceMul,Nat.reduceLT,Int.reduceEq,Int.reduceLT,Int.reduceLE,hq.head.1,hq.head.2,n1,n2,e2]
    refine (body h hh).mono ?_
    rintro _ H3 ⟨rfl, hM3⟩
    generalize runF t ks (q + 1) none h s = r at hM3 ⊢
    obtain ⟨H4, rfl, hM4, w4⟩ := sts_out hM3 hF8
    by_cases c0 : r.1.ed = 0
    ·simp +contextual -dsimp -implicitDefEqProofs (maxSteps:=5000000) only [go_sem,reduceIte,reduceCtorEq,Nat.reduceEqDiff,Nat.reduceBEq,Nat.reduceAdd,Nat.reduceLeDiff,Nat.reduceMul,Nat.reduceLT,Int.reduceEq,Int.reduceLT,Int.reduceLE,rEn,n1,n2,c0,e2]
     rintro b10 hb10
     refine retR_less (l := [.agg (rEn e)]) (H' := H4) ?_ (le_set w4) ⟨rfl, hM4⟩
     simp only [resA,go_sem,reduceIte,reduceCtorEq,Nat.reduceEqDiff,Nat.reduceBEq,Nat.reduceAdd,Nat.reduceLeDiff,Nat.reduceMul,Nat.reduceLT,Int.reduceEq,Int.reduceLT,Int.reduceLE,rEn]
    ·simp +contextual -dsimp -implicitDefEqProofs (maxSteps:=5000000) only [go_sem,reduceIte,reduceCtorEq,Nat.reduceEqDiff,Nat.reduceBEq,Nat.reduceAdd,Nat.reduceLeDiff,Nat.reduceMul,Nat.reduceLT,Int.reduceEq,Int.reduceLT,Int.reduceLE,rEn,n1,n2,c0,e2]
     rintro b10 hb10
     refine retR_less (l := [.agg (rEn r.1)]) (H' := H4) ?_ (le_set w4) ⟨rfl, hM4⟩
     simp only [resA,go_sem,reduceIte,reduceCtorEq,Nat.reduceEqDiff,Nat.reduceBEq,Nat.reduceAdd,Nat.reduceLeDiff,Nat.reduceMul,Nat.reduceLT,Int.reduceEq,Int.reduceLT,Int.reduceLE,rEn]
  ·have ef : finR t rest (i + 1 + kids.size) e h s = (e, s) := by unfold finR; rw [hL]; simp only [k10,if_false]
   rw [ef]
   simp +contextual -dsimp -implicitDefEqProofs (maxSteps:=5000000) only [go_sem,reduceIte,reduceCtorEq,Nat.reduceEqDiff,Nat.reduceBEq,Nat.reduceAdd,Nat.reduceLeDiff,Nat.reduceMul,Nat.reduceLT,Int.reduceEq,Int.reduceLT,Int.reduceLE,hq.head.1,hq.head.2,n1,n2,k10]
   refine retR_less (l := [.agg (rEn e)]) (H' := G.set bs _) ?_ (le_set (hb8 _)) ⟨rfl, hM⟩
   simp only [resA,go_sem,reduceIte,reduceCtorEq,Nat.reduceEqDiff,Nat.reduceBEq,Nat.reduceAdd,Nat.reduceLeDiff,Nat.reduceMul,Nat.reduceLT,Int.reduceEq,Int.reduceLT,Int.reduceLE,rEn]
end
section
open Go Go.Sim
set_option maxRecDepth 100000
set_option maxHeartbeats 4000000

theorem en_ed (a b : Int) : (En.mk a b).ed = a := rfl
theorem en_val (a b : Int) : (En.mk a b).val = b := rfl
theorem goes_mid {t : List Class} {P : List Line} {lp : Bool} (ht : validT t = true) {f : Fo} {i : Nat} {e : En} {d h : Int} {s : RS} (hat : At P i d f) (hn : numsF t f d = true) (hok : okF f lp true = true) (hs : FsOk t s.fs) (hh : h < s.fs.length) (he : e.ed = 2 → 0 ≤ e.val ∧ e.val < s.fs.length) :
  ∃ c, Goes t c s (midR t f i e h s).1 (midR t f i e h s).2 ∧ c ≤ cost f ∧ ∀ q ks, lastB f i = some (q, 10, ks) → c + cost ks ≤ cost f := by
 have l0 : ∀ q ks, lastB f i = some (q, 10, ks) → 0 + cost ks ≤ cost f := fun q ks hl => by have := elseF_at.lastB_cost f i hl; simp only at this; omega
 unfold midR
 split
 ·cases hE : elseF f i with
  | none => exact ⟨0, goes_self hs he, by omega, l0⟩
  | some y =>
   obtain ⟨q, ks⟩ := y
   obtain ⟨c1, c2⟩ := elseF_at f i q ks hat hn hok hE
   exact ⟨cost ks, goes_run ht ks (q + 1) none (d + 1) h s c1.nums hs hh trivial, c1.cost, c2⟩
 ·split
  ·rename_i e2
   cases hE : catchF t (clsOf s e.val) f i with
   | none => exact ⟨0, goes_self hs he, by omega, l0⟩
   | some y =>
    obtain ⟨q, ks⟩ := y
    obtain ⟨c1, c2⟩ := catchF_at f i q ks hat hn hok hE
    exact ⟨cost ks, goes_run ht ks (q + 1) none (d + 1) e.val s c1.nums hs (he e2).2 trivial, c1.cost, c2⟩
  ·exact ⟨0, goes_self hs he, by omega, l0⟩
theorem c_stry {t : List Class} {cl : Bool} {P : List Line} {clp : Bool} {n : Nat} (ht : validT t = true) (ih : SBlkOk t cl P clp n) {i : Nat} {d a b h : Int} {kids rest : Fo} {s : RS} {F H : AHeap} {bs : Nat} {lp : Bool}
  (hn : kids.size + rest.size < n) (hat : At P i d (.node 7 a b kids rest)) (hk : numsF t kids (d + 1) = true) (hr : numsF t rest d = true) (hok : okF kids lp false = true) (hokr : okF rest lp true = true) (hto : tryG 7 (headsK rest) = true) (hs : FsOk t s.fs) (hh : h < s.fs.length)
  (hl : s.log.length + (cost kids + cost rest) ≤ 900000) (hf : s.fs.length + (cost kids + cost rest) ≤ 900000) (hM : StS F H bs t cl P clp s) (hp : P.length ≤ 4398046511104) :
  ACalls Tryz.prog 178 [.ptr bs 4 0 0, I i, I h] H fun r H' =>
   r = .agg (rEn (chainR t rest (i + 1 + kids.size) (runF t kids (i + 1) none h s).1 (runF t kids (i + 1) none h s).1 h (runF t kids (i + 1) none h s).2).1) ∧
   StS F H' bs t cl P clp (chainR t rest (i + 1 + kids.size) (runF t kids (i + 1) none h s).1 (runF t kids (i + 1) none h s).1 h (runF t kids (i + 1) none h s).2).2 := by
 have hi := hat.head.1
 obtain ⟨xl, G, clf, hF, hg1, hb, rfl⟩ := id hM
 refine acalls_of1 Tryz.func178 rfl (by kernel_rfl) rfl rfl (awp_sound (fz := fun _ => []) (im := fun _ => false) mixed _ _ _ _ (by kernel_rfl) ?_)
 simp +contextual -dsimp -implicitDefEqProofs (maxSteps:=5000000) only [go_sem,reduceIte,reduceCtorEq,Nat.reduceEqDiff,Nat.reduceBEq,Nat.reduceAdd,Nat.reduceLeDiff,Nat.reduceMul,Nat.reduceLT,Int.reduceEq,Int.reduceLT,Int.reduceLE]
 rintro b6 ⟨n1, n2, hn2⟩
 have hF6 : F b6 = none := grow_none hg1 hn2
 refine acalls_frz (c_chainOf P clp i _ hi hp) fun cl2 => ?_
 rw [chainP_at hat]
 simp +contextual -dsimp -implicitDefEqProofs (maxSteps:=5000000) only [go_sem,reduceIte,reduceCtorEq,Nat.reduceEqDiff,Nat.reduceBEq,Nat.reduceAdd,Nat.reduceLeDiff,Nat.reduceMul,Nat.reduceLT,Int.reduceEq,Int.reduceLT,Int.reduceLE,n1,n2]
 have hgo := goes_run ht kids (i + 1) none (d + 1) h s hk hs hh trivial
 have hgl := hgo.len
 refine (c_sbody ih (by omega) hat hk hok hs hh (by omega) (by omega) (sts_in (K := ⟨2, 140, [[I 0, I 0]]⟩) hM (show (G.set bs _) b6 = none by rw [set_other n1]; exact hn2)) hp).mono ?_
 rintro _ H3 ⟨rfl, hM3⟩
 generalize runF t kids (i + 1) none h s = r at hM3 hgo hgl ⊢
 obtain ⟨⟨ed, v⟩, s0⟩ := r
 dsimp only at hM3 hgo hgl ⊢
 obtain ⟨H4, rfl, hM4, hn4⟩ := sts_out hM3 hF6
 rw [chain_spec rest _ ⟨ed, v⟩ h s0 7 hto]
 obtain ⟨cm, hmg, hmc, hml⟩ := goes_mid ht (e := ⟨ed, v⟩) (h := h) hat.rest hr hokr hgo.ok (by omega) hgo.val
 have hmgl := hmg.len
 simp +contextual -dsimp -implicitDefEqProofs (maxSteps:=5000000) only [go_sem,reduceIte,reduceCtorEq,Nat.reduceEqDiff,Nat.reduceBEq,Nat.reduceAdd,Nat.reduceLeDiff,Nat.reduceMul,Nat.reduceLT,Int.reduceEq,Int.reduceLT,Int.reduceLE,rEn]
 rintro b8 ⟨d1, d2, m8⟩
 have hF8 : F b8 = none := sts_none hM4 m8
 have hrat := hat.rest
 have hcl := chain_len rest (i + 1 + kids.size)
 have hrl := hrat.len
 have e7 : numsF t (.node 7 a b kids rest) d = true → True := fun _ => trivial
 have fin : ∀ (e : En) (s' : RS) (H9 : AHeap), FsOk t s'.fs → s.fs.length ≤ s'.fs.length → (e.ed = 2 → 0 ≤ e.val ∧ e.val < s'.fs.length) → (∀ q ks, lastB rest (i + 1 + kids.size) = some (q, 10, ks) → s'.log.length + cost ks ≤ 900000 ∧ s'.fs.length + cost ks ≤ 900000) → StS F H9 bs t cl P clp s' → H9 b6 = none → H9 b8 = none →
   ACalls Tryz.prog 190 [.ptr bs 4 0 0, .vsl ((toI (i :: chainN rest (i + 1 + kids.size))).map rI) cl2, .agg (rEn e), I h] ((H9.set b6 ⟨2, 140, [[I 0, I 0]]⟩).set b8 ⟨2, 140, [rEn e]⟩) fun x H' => x = .agg (rEn (finR t rest (i + 1 + kids.size) e h s').1) ∧ ∃ H5, H' = (H5.set b6 ⟨2, 140, [[I 0, I 0]]⟩).set b8 ⟨2, 140, [rEn e]⟩ ∧ StS F H5 bs t cl P clp (finR t rest (i + 1 + kids.size) e h s').2 ∧ H5 b6 = none ∧ H5 b8 = none := by
  intro e s' H9 q1 q2 q3 q4 q5 q6 q7
  refine (c_sfinally ht ih cl2 e (by omega) hat rfl hr hokr q1 (by omega) q3 q4 (sts_in (K := ⟨2, 140, [rEn e]⟩) (sts_in (K := ⟨2, 140, [[I 0, I 0]]⟩) q5 q6) (by rw [set_other d1]; exact q7)) hp).mono ?_
  rintro _ H3 ⟨rfl, hM3⟩
  obtain ⟨H5, rfl, w1, w2⟩ := sts_out hM3 (by rw [set_other d1]; exact hF8)
  obtain ⟨H6, rfl, w3, w4⟩ := sts_out w1 hF6
  rw [set_other d1] at w2
  exact ⟨rfl, H6, rfl, w3, w4, w2⟩
 have body : ∀ (e : En) (q : Nat) (k : Int) (ks : Fo) (g : Int), ChainAt t P d lp rest q k ks → g < s0.fs.length →
   ACalls Tryz.prog 189 [.ptr bs 4 0 0, I q, I g] ((H4.set b6 ⟨2, 140, [[I 0, I 0]]⟩).set b8 ⟨2, 140, [rEn e]⟩) fun x H' => x = .agg (rEn (runF t ks (q + 1) none g s0).1) ∧ ∃ H5, H' = (H5.set b6 ⟨2, 140, [[I 0, I 0]]⟩).set b8 ⟨2, 140, [rEn e]⟩ ∧ StS F H5 bs t cl P clp (runF t ks (q + 1) none g s0).2 ∧ H5 b6 = none ∧ H5 b8 = none := by
  intro e q k ks g hc hg
  obtain ⟨⟨a2, b2, re2, hq⟩, c2, c3, c4, c5⟩ := hc
  refine (c_sbody ih (by omega) hq c3 c4 hgo.ok hg (by omega) (by omega) (sts_in (K := ⟨2, 140, [rEn e]⟩) (sts_in (K := ⟨2, 140, [[I 0, I 0]]⟩) hM4 hn4) (by rw [set_other d1]; exact m8)) hp).mono ?_
  rintro _ H3 ⟨rfl, hM3⟩
  obtain ⟨H5, rfl, w1, w2⟩ := sts_out hM3 (by rw [set_other d1]; exact hF8)
  obtain ⟨H6, rfl, w3, w4⟩ := sts_out w1 hF6
  rw [set_other d1] at w2
  exact ⟨rfl, H6, rfl, w3, w4, w2⟩
 obtain ⟨xl4, G4, clf4, hFb4, hg4, hb4, rfl⟩ := id hM4
 have hn4' := hn4
 have m8' := m8
 rw [set_none] at hn4' m8'
 obtain ⟨z1, z2, z3⟩ := hn4'
 obtain ⟨z4, z5, z6⟩ := m8'
 refine aloop mixed (fz := fun _ => []) (im := fun _ => false) (by kernel_rfl) (fun m tm H' => ∃ (g : Fo) (q x : Nat), m = g.size ∧ At P q d g ∧ g.size ≤ rest.size ∧ (chainN rest (i + 1 + kids.size)).drop x = chainN g q ∧ x ≤ (chainN rest (i + 1 + kids.size)).length ∧ H' = ((G4.set bs ⟨4, 138, [[.vsl (t.map rClass) cl, aProg P clp, xl4, .vsl (s0.fs.map rFault) clf4]]⟩).set b6 ⟨2, 140, [[I 0, I 0]]⟩).set b8 ⟨2, 140, [rEn ⟨ed, v⟩]⟩ ∧ (ed = 0 → elseF rest (i + 1 + kids.size) = elseF g q) ∧ tm 0 = .ptr bs 4 0 0 ∧ tm 1 = I i ∧ tm 2 = I h ∧ tm 6 = .ptr b6 2 0 0 ∧ tm 7 = .vsl ((toI (i :: chainN rest (i + 1 + kids.size))).map rI) cl2 ∧ tm 8 = .ptr b8 2 0 0 ∧ tm 9 = I (x + 1 : Nat)) rest.size ⟨rest, i + 1 + kids.size, 0, rfl, hrat, Nat.le_refl _, rfl, Nat.zero_le _, rfl, fun _ => rfl, ?_⟩ ?_
 ·simp +contextual -dsimp -implicitDefEqProofs (maxSteps:=5000000) only [go_sem,reduceIte,reduceCtorEq,Nat.reduceEqDiff,Nat.reduceBEq,Nat.reduceAdd,Nat.reduceLeDiff,Nat.reduceMul,Nat.reduceLT,Int.reduceEq,Int.reduceLT,Int.reduceLE,rEn]
  rfl
 ·rintro m tm _ ⟨g, q, x, rfl, hgat, hgs, hdx, hxl, rfl, he, t0, t1, t2, t6, t7, t8, t9⟩
  cases hcq : chainN g q with
  | nil =>
   rw [hcq] at hdx
   have hx := drop_nil hdx
   have hx' : ¬ x + 1 < (chainN rest (i + 1 + kids.size)).length + 1 := by omega
   have hno : elseF g q = none := by
    cases g with
    | nil => rfl
    | node k2 a2 b2 ks re =>
     simp only [chainN] at hcq
     split at hcq
     ·cases hcq
     ·rename_i hk2
      simp only [elseF]; rw [if_neg hk2]
   have bnd0 : ∀ q ks, lastB rest (i + 1 + kids.size) = some (q, 10, ks) → s0.log.length + cost ks ≤ 900000 ∧ s0.fs.length + cost ks ≤ 900000 := fun q ks hq => by have := hml q ks hq; omega
   by_cases e2 : ed = 2
   ·subst e2
    have ev := hgo.val rfl
    dsimp only at ev
    have hMc := sts_in (K := ⟨2, 140, [rEn ⟨2, v⟩]⟩) (sts_in (K := ⟨2, 140, [[I 0, I 0]]⟩) hM4 hn4) (show (AHeap.set _ b6 _) b8 = none by rw [set_other d1]; exact m8)
    simp +contextual -dsimp -implicitDefEqProofs (maxSteps:=5000000) only [go_sem,reduceIte,reduceCtorEq,Nat.reduceEqDiff,Nat.reduceBEq,Nat.reduceAdd,Nat.reduceLeDiff,Nat.reduceMul,Nat.reduceLT,Int.reduceEq,Int.reduceLT,Int.reduceLE,rEn,t0,t1,t2,t6,t7,t8,t9,z1,z2,z4,z5,d1,d2,en_ed,en_val,toI_len,List.length_cons,hx']
    refine (c_caught ht cl2 hrat hgo.ok ev.1 ev.2 hMc hp).mono ?_
    rintro _ Hx ⟨rfl, hHx⟩
    subst hHx
    cases hC : catchF t (clsOf s0 v) rest (i + 1 + kids.size) with
    | none =>
     have em : midR t rest (i + 1 + kids.size) ⟨2, v⟩ h s0 = (⟨2, v⟩, s0) := by
      unfold midR; dsimp only; rw [if_neg (by decide), if_pos rfl, hC]
     rw [em]
     have zz : ¬ (0 : Int) ≤ -1 := by omega
     simp +contextual -dsimp -implicitDefEqProofs (maxSteps:=5000000) only [go_sem,reduceIte,reduceCtorEq,Nat.reduceEqDiff,Nat.reduceBEq,Nat.reduceAdd,Nat.reduceLeDiff,Nat.reduceMul,Nat.reduceLT,Int.reduceEq,Int.reduceLT,Int.reduceLE,rEn,t0,t1,t2,t6,t7,t8,t9,z1,z2,z4,z5,d1,d2,en_ed,en_val,zz]
     refine (fin ⟨2, v⟩ s0 _ hgo.ok hgl.1 hgo.val bnd0 hM4 hn4 m8).mono ?_
     rintro _ H' ⟨rfl, H5, rfl, w1, w2, w3⟩
     simp +contextual -dsimp -implicitDefEqProofs (maxSteps:=5000000) only [go_sem,reduceIte,reduceCtorEq,Nat.reduceEqDiff,Nat.reduceBEq,Nat.reduceAdd,Nat.reduceLeDiff,Nat.reduceMul,Nat.reduceLT,Int.reduceEq,Int.reduceLT,Int.reduceLE,rEn,t0,t1,t2,t6,t7,t8,t9,z1,z2,z4,z5,d1,d2,en_ed,en_val]
     refine retR_less (l := [.agg (rEn (finR t rest (i + 1 + kids.size) ⟨2, v⟩ h s0).1)]) (H' := H5) ?_ (le_s1 (le_s1 (AHeap.le_refl _) w2) w3) ⟨rfl, w1⟩
     simp only [resA,go_sem,reduceIte,reduceCtorEq,Nat.reduceEqDiff,Nat.reduceBEq,Nat.reduceAdd,Nat.reduceLeDiff,Nat.reduceMul,Nat.reduceLT,Int.reduceEq,Int.reduceLT,Int.reduceLE,rEn,d1,d2,t6]
    | some y =>
     obtain ⟨q8, ks8⟩ := y
     obtain ⟨y1, y2⟩ := catchF_at (p := P) (lp := lp) rest _ q8 ks8 hrat hr hokr hC
     have em : midR t rest (i + 1 + kids.size) ⟨2, v⟩ h s0 = runF t ks8 (q8 + 1) none v s0 := by
      unfold midR; dsimp only; rw [if_neg (by decide), if_pos rfl, hC]
     rw [em] at hmg hmgl ⊢
     have zz : (0 : Int) ≤ (q8 : Int) := by omega
     simp +contextual -dsimp -implicitDefEqProofs (maxSteps:=5000000) only [go_sem,reduceIte,reduceCtorEq,Nat.reduceEqDiff,Nat.reduceBEq,Nat.reduceAdd,Nat.reduceLeDiff,Nat.reduceMul,Nat.reduceLT,Int.reduceEq,Int.reduceLT,Int.reduceLE,rEn,t0,t1,t2,t6,t7,t8,t9,z1,z2,z4,z5,d1,d2,en_ed,en_val,zz]
     refine (body ⟨2, v⟩ q8 8 ks8 v y1 ev.2).mono ?_
     rintro _ Hy ⟨rfl, H6, rfl, g1, g2, g3⟩
     generalize runF t ks8 (q8 + 1) none v s0 = r8 at hmg hmgl g1 ⊢
     simp +contextual -dsimp -implicitDefEqProofs (maxSteps:=5000000) only [go_sem,reduceIte,reduceCtorEq,Nat.reduceEqDiff,Nat.reduceBEq,Nat.reduceAdd,Nat.reduceLeDiff,Nat.reduceMul,Nat.reduceLT,Int.reduceEq,Int.reduceLT,Int.reduceLE,rEn,t0,t1,t2,t6,t7,t8,t9,z1,z2,z4,z5,d1,d2,en_ed,en_val]
     refine (fin r8.1 r8.2 H6 hmg.ok (by omega) hmg.val (fun q ks hq => by have := hml q ks hq; omega) g1 g2 g3).mono ?_
     rintro _ H' ⟨rfl, H5, rfl, w1, w2, w3⟩
     simp +contextual -dsimp -implicitDefEqProofs (maxSteps:=5000000) only [go_sem,reduceIte,reduceCtorEq,Nat.reduceEqDiff,Nat.reduceBEq,Nat.reduceAdd,Nat.reduceLeDiff,Nat.reduceMul,Nat.reduceLT,Int.reduceEq,Int.reduceLT,Int.reduceLE,rEn,t0,t1,t2,t6,t7,t8,t9,z1,z2,z4,z5,d1,d2,en_ed,en_val]
     refine retR_less (l := [.agg (rEn (finR t rest (i + 1 + kids.size) r8.1 h r8.2).1)]) (H' := H5) ?_ (le_s1 (le_s1 (AHeap.le_refl _) w2) w3) ⟨rfl, w1⟩
     simp only [resA,go_sem,reduceIte,reduceCtorEq,Nat.reduceEqDiff,Nat.reduceBEq,Nat.reduceAdd,Nat.reduceLeDiff,Nat.reduceMul,Nat.reduceLT,Int.reduceEq,Int.reduceLT,Int.reduceLE,rEn,d1,d2,t6]
   ·have em : midR t rest (i + 1 + kids.size) ⟨ed, v⟩ h s0 = (⟨ed, v⟩, s0) := by
     unfold midR
     dsimp only
     by_cases e0 : ed = 0
     ·rw [if_pos e0, he e0, hno]
     ·rw [if_neg e0, if_neg e2]
    rw [em]
    simp +contextual -dsimp -implicitDefEqProofs (maxSteps:=5000000) only [go_sem,reduceIte,reduceCtorEq,Nat.reduceEqDiff,Nat.reduceBEq,Nat.reduceAdd,Nat.reduceLeDiff,Nat.reduceMul,Nat.reduceLT,Int.reduceEq,Int.reduceLT,Int.reduceLE,rEn,t0,t1,t2,t6,t7,t8,t9,z1,z2,z4,z5,d1,d2,en_ed,en_val,toI_len,List.length_cons,hx',e2]
    refine (fin ⟨ed, v⟩ s0 _ hgo.ok hgl.1 hgo.val bnd0 hM4 hn4 m8).mono ?_
    rintro _ H' ⟨rfl, H5, rfl, w1, w2, w3⟩
    simp +contextual -dsimp -implicitDefEqProofs (maxSteps:=5000000) only [go_sem,reduceIte,reduceCtorEq,Nat.reduceEqDiff,Nat.reduceBEq,Nat.reduceAdd,Nat.reduceLeDiff,Nat.reduceMul,Nat.reduceLT,Int.reduceEq,Int.reduceLT,Int.reduceLE,rEn,t0,t1,t2,t6,t7,t8,t9,z1,z2,z4,z5,d1,d2,en_ed,en_val]
    refine retR_less (l := [.agg (rEn (finR t rest (i + 1 + kids.size) ⟨ed, v⟩ h s0).1)]) (H' := H5) ?_ (le_s1 (le_s1 (AHeap.le_refl _) w2) w3) ⟨rfl, w1⟩
    simp only [resA,go_sem,reduceIte,reduceCtorEq,Nat.reduceEqDiff,Nat.reduceBEq,Nat.reduceAdd,Nat.reduceLeDiff,Nat.reduceMul,Nat.reduceLT,Int.reduceEq,Int.reduceLT,Int.reduceLE,rEn,d1,d2,t6]
  | cons q' tl =>
   cases g with
   | nil => simp [chainN] at hcq
   | node k2 a2 b2 ks re =>
    have hk2 : followsK k2 = true := by
     simp only [chainN] at hcq
     split at hcq
     ·assumption
     ·cases hcq
    have hdx' : (chainN rest (i + 1 + kids.size)).drop x = q :: chainN re (q + 1 + ks.size) := by
     rw [hdx]; simp only [chainN]; rw [if_pos hk2]
    obtain ⟨hx1, hx2, hx3⟩ := drop_cons hdx'
    have hx' : x + 1 < (chainN rest (i + 1 + kids.size)).length + 1 := by omega
    have hh2 := hgat.head
    have szl : ∀ k : Int, re.size < (Fo.node k a2 b2 ks re).size := fun k => by simp only [Fo.size]; omega
    have hsz : (Fo.node k2 a2 b2 ks re).size = 1 + ks.size + re.size := rfl
    have hef : elseF (.node k2 a2 b2 ks re) q = if k2 = 9 then some (q, ks) else elseF re (q + 1 + ks.size) := by
     simp only [elseF]; rw [if_pos hk2]
    simp +contextual -dsimp -implicitDefEqProofs (maxSteps:=5000000) only [go_sem,reduceIte,reduceCtorEq,Nat.reduceEqDiff,Nat.reduceBEq,Nat.reduceAdd,Nat.reduceLeDiff,Nat.reduceMul,Nat.reduceLT,Int.reduceEq,Int.reduceLT,Int.reduceLE,rEn,t0,t1,t2,t6,t7,t8,t9,z1,z2,z4,z5,d1,d2,en_ed,en_val,toI_len,toI_at,toI_cons_at,List.length_cons,hx',hx2,hh2.1,hh2.2]
    refine draw_intro [0, 0, 0, 0, 0, 0, 0, 0, 0, 0, 0, 0, 0, 0, 0, 0, 0] _ (by kernel_rfl) (AHeap.le_refl _) ?_
    by_cases k9 : k2 = 9
    ·by_cases e0 : ed = 0
     ·subst e0
      rw [if_pos k9] at hef
      have hE := he rfl
      rw [hef] at hE
      obtain ⟨y1, y2⟩ := elseF_at (p := P) (lp := lp) rest _ q ks hrat hr hokr hE
      have em : midR t rest (i + 1 + kids.size) ⟨0, v⟩ h s0 = runF t ks (q + 1) none h s0 := by
       unfold midR; rw [if_pos rfl, hE]
      rw [em] at hmg hmgl ⊢
      simp +contextual -dsimp -implicitDefEqProofs (maxSteps:=5000000) only [go_sem,reduceIte,reduceCtorEq,Nat.reduceEqDiff,Nat.reduceBEq,Nat.reduceAdd,Nat.reduceLeDiff,Nat.reduceMul,Nat.reduceLT,Int.reduceEq,Int.reduceLT,Int.reduceLE,rEn,t0,t1,t2,t6,t7,t8,t9,z1,z2,z4,z5,d1,d2,en_ed,en_val,toI_len,toI_at,toI_cons_at,List.length_cons,hx',hx2,hh2.1,hh2.2,k9]
      refine (body ⟨0, v⟩ q 9 ks h y1 (by omega)).mono ?_
      rintro _ Hy ⟨rfl, H6, rfl, g1, g2, g3⟩
      generalize runF t ks (q + 1) none h s0 = r8 at hmg hmgl g1 ⊢
      simp +contextual -dsimp -implicitDefEqProofs (maxSteps:=5000000) only [go_sem,reduceIte,reduceCtorEq,Nat.reduceEqDiff,Nat.reduceBEq,Nat.reduceAdd,Nat.reduceLeDiff,Nat.reduceMul,Nat.reduceLT,Int.reduceEq,Int.reduceLT,Int.reduceLE,rEn,t0,t1,t2,t6,t7,t8,t9,z1,z2,z4,z5,d1,d2,en_ed,en_val]
      refine (fin r8.1 r8.2 H6 hmg.ok (by omega) hmg.val (fun q ks hq => by have := hml q ks hq; omega) g1 g2 g3).mono ?_
      rintro _ H' ⟨rfl, H5, rfl, w1, w2, w3⟩
      simp +contextual -dsimp -implicitDefEqProofs (maxSteps:=5000000) only [go_sem,reduceIte,reduceCtorEq,Nat.reduceEqDiff,Nat.reduceBEq,Nat.reduceAdd,Nat.reduceLeDiff,Nat.reduceMul,Nat.reduceLT,Int.reduceEq,Int.reduceLT,Int.reduceLE,rEn,t0,t1,t2,t6,t7,t8,t9,z1,z2,z4,z5,d1,d2,en_ed,en_val]
      refine retR_less (l := [.agg (rEn (finR t rest (i + 1 + kids.size) r8.1 h r8.2).1)]) (H' := H5) ?_ (le_s1 (le_s1 (AHeap.le_refl _) w2) w3) ⟨rfl, w1⟩
      simp only [resA,go_sem,reduceIte,reduceCtorEq,Nat.reduceEqDiff,Nat.reduceBEq,Nat.reduceAdd,Nat.reduceLeDiff,Nat.reduceMul,Nat.reduceLT,Int.reduceEq,Int.reduceLT,Int.reduceLE,rEn,d1,d2,t6]
     ·simp +contextual -dsimp -implicitDefEqProofs (maxSteps:=5000000) only [go_sem,reduceIte,reduceCtorEq,Nat.reduceEqDiff,Nat.reduceBEq,Nat.reduceAdd,Nat.reduceLeDiff,Nat.reduceMul,Nat.reduceLT,Int.reduceEq,Int.reduceLT,Int.reduceLE,rEn,t0,t1,t2,t6,t7,t8,t9,z1,z2,z4,z5,d1,d2,en_ed,en_val,toI_len,toI_at,toI_cons_at,List.length_cons,hx',hx2,hh2.1,hh2.2,k9,e0]
      exact ⟨re.size, szl 9, re, q + 1 + ks.size, x + 1, rfl, hgat.rest, by omega, hx3, hx1, I_wrap (by omega) (by omega) (by omega)⟩
    ·rw [if_neg k9] at hef
     simp +contextual -dsimp -implicitDefEqProofs (maxSteps:=5000000) only [go_sem,reduceIte,reduceCtorEq,Nat.reduceEqDiff,Nat.reduceBEq,Nat.reduceAdd,Nat.reduceLeDiff,Nat.reduceMul,Nat.reduceLT,Int.reduceEq,Int.reduceLT,Int.reduceLE,rEn,t0,t1,t2,t6,t7,t8,t9,z1,z2,z4,z5,d1,d2,en_ed,en_val,toI_len,toI_at,toI_cons_at,List.length_cons,hx',hx2,hh2.1,hh2.2,k9]
     exact ⟨re.size, szl k2, re, q + 1 + ks.size, x + 1, rfl, hgat.rest, by omega, hx3, hx1, fun e0 => by rw [he e0]; exact hef, I_wrap (by omega) (by omega) (by omega)⟩
end
section
open Go Go.Sim
set_option maxRecDepth 100000
set_option maxHeartbeats 4000000

theorem c_snextLine {P : List Line} {clp : Bool} {i : Nat} {d k a b : Int} {kids rest : Fo} (H : AHeap) (hat : At P i d (.node k a b kids rest)) (hp : P.length ≤ 4398046511104) :
  ACalls Tryz.prog 149 [aProg P clp, I i] H fun r H' => r = I (if k = 7 then skipN rest (i + 1 + kids.size) else i + 1 + kids.size : Nat) ∧ H' = H := by
 have hi := hat.head
 have hcl := chain_len rest (i + 1 + kids.size)
 have hrl := hat.rest.len
 by_cases k7 : k = 7
 ·subst k7
  rw [if_pos rfl]
  have hce := chain_end rest (i + 1 + kids.size) i hat.rest hat.endP
  have hgl := getD_last i (chainN rest (i + 1 + kids.size))
  have hmem := chainP_mem hi.1 ((i :: chainN rest (i + 1 + kids.size)).getLastD 0) (by
   rw [chainP_at hat, ← hgl, List.getD_eq_getElem?_getD, List.getElem?_eq_getElem (by simp)]
   exact List.getElem_mem _)
  have hwl : IntKind.i64.wrap (((chainN rest (i + 1 + kids.size)).length + 1 : Nat) - 1) = ((chainN rest (i + 1 + kids.size)).length : Int) := by
   rw [w64 (by omega) (by omega)]; omega
  have hlt1 : ((chainN rest (i + 1 + kids.size)).length : Int) < (((chainN rest (i + 1 + kids.size)).length + 1 : Nat) : Int) := by omega
  have hlt2 : (chainN rest (i + 1 + kids.size)).length < (chainN rest (i + 1 + kids.size)).length + 1 := by omega
  refine acalls_of0 Tryz.func149 rfl (by kernel_rfl) rfl rfl (awp_sound (fz := fun _ => []) (im := fun _ => false) mixed _ _ _ _ (by kernel_rfl) ?_)
  simp +contextual -dsimp -implicitDefEqProofs (maxSteps:=5000000) only [go_sem,reduceIte,reduceCtorEq,Nat.reduceEqDiff,Nat.reduceBEq,Nat.reduceAdd,Nat.reduceLeDiff,Nat.reduceMul,Nat.reduceLT,Int.reduceEq,Int.reduceLT,Int.reduceLE,hi.1,hi.2]
  refine acalls_frz (c_chainOf P clp i _ hi.1 hp) fun cl2 => ?_
  rw [chainP_at hat]
  simp +contextual -dsimp -implicitDefEqProofs (maxSteps:=5000000) only [go_sem,reduceIte,reduceCtorEq,Nat.reduceEqDiff,Nat.reduceBEq,Nat.reduceAdd,Nat.reduceLeDiff,Nat.reduceMul,Nat.reduceLT,Int.reduceEq,Int.reduceLT,Int.reduceLE,toI_len,toI_at,List.length_cons,hwl,hgl,hlt1,hlt2]
  refine (c_blockEnd P clp _ _ hmem).det ?_
  rw [hce]
  simp +contextual -dsimp -implicitDefEqProofs (maxSteps:=5000000) only [go_sem,reduceIte,reduceCtorEq,Nat.reduceEqDiff,Nat.reduceBEq,Nat.reduceAdd,Nat.reduceLeDiff,Nat.reduceMul,Nat.reduceLT,Int.reduceEq,Int.reduceLT,Int.reduceLE]
 ·rw [if_neg k7]
  refine acalls_of0 Tryz.func149 rfl (by kernel_rfl) rfl rfl (awp_sound (fz := fun _ => []) (im := fun _ => false) mixed _ _ _ _ (by kernel_rfl) ?_)
  simp +contextual -dsimp -implicitDefEqProofs (maxSteps:=5000000) only [go_sem,reduceIte,reduceCtorEq,Nat.reduceEqDiff,Nat.reduceBEq,Nat.reduceAdd,Nat.reduceLeDiff,Nat.reduceMul,Nat.reduceLT,Int.reduceEq,Int.reduceLT,Int.reduceLE,hi.1,hi.2,k7]
  refine (c_blockEnd P clp i _ hi.1).det ?_
  rw [hat.endP]
  simp +contextual -dsimp -implicitDefEqProofs (maxSteps:=5000000) only [go_sem,reduceIte,reduceCtorEq,Nat.reduceEqDiff,Nat.reduceBEq,Nat.reduceAdd,Nat.reduceLeDiff,Nat.reduceMul,Nat.reduceLT,Int.reduceEq,Int.reduceLT,Int.reduceLE]
theorem c_sagain {t : List Class} {cl : Bool} {P : List Line} {clp : Bool} {s : RS} {F H : AHeap} {bs : Nat} (g : Int) (hM : StS F H bs t cl P clp s) (hl : s.fs.length ≤ 999998) (ho : heapOk s.fs) :
  ACalls Tryz.prog 177 [.ptr bs 4 0 0, I g] H fun r H' => r = .agg (rEn (lineS 3 0 0 g s).1) ∧ StS F H' bs t cl P clp (lineS 3 0 0 g s).2 := by
 have e1 : lineS 3 0 0 g s = if g < 0 then (⟨2, s.fs.length⟩, s.raise 0 0 (-1)) else (⟨2, g⟩, s) := by
  unfold lineS; rw [if_neg (by decide), if_neg (by decide), if_pos rfl]
 rw [e1]
 refine acalls_of1 Tryz.func177 rfl (by kernel_rfl) rfl rfl (awp_sound (fz := fun _ => []) (im := fun _ => false) mixed _ _ _ _ (by kernel_rfl) ?_)
 simp +contextual -dsimp -implicitDefEqProofs (maxSteps:=5000000) only [go_sem,reduceIte,reduceCtorEq,Nat.reduceEqDiff,Nat.reduceBEq,Nat.reduceAdd,Nat.reduceLeDiff,Nat.reduceMul,Nat.reduceLT,Int.reduceEq,Int.reduceLT,Int.reduceLE]
 rintro b4 hb4
 have hF4 := sts_none hM hb4
 by_cases h0 : 0 ≤ g
 ·rw [if_neg (by omega)]
  simp +contextual -dsimp -implicitDefEqProofs (maxSteps:=5000000) only [go_sem,reduceIte,reduceCtorEq,Nat.reduceEqDiff,Nat.reduceBEq,Nat.reduceAdd,Nat.reduceLeDiff,Nat.reduceMul,Nat.reduceLT,Int.reduceEq,Int.reduceLT,Int.reduceLE,h0]
  refine retR_less (l := [.agg (rEn ⟨2, g⟩)]) (H' := H) ?_ (le_set hb4) ⟨rfl, hM⟩
  simp only [resA,go_sem,reduceIte,reduceCtorEq,Nat.reduceEqDiff,Nat.reduceBEq,Nat.reduceAdd,Nat.reduceLeDiff,Nat.reduceMul,Nat.reduceLT,Int.reduceEq,Int.reduceLT,Int.reduceLE,rEn]
 ·rw [if_pos (by omega)]
  simp +contextual -dsimp -implicitDefEqProofs (maxSteps:=5000000) only [go_sem,reduceIte,reduceCtorEq,Nat.reduceEqDiff,Nat.reduceBEq,Nat.reduceAdd,Nat.reduceLeDiff,Nat.reduceMul,Nat.reduceLT,Int.reduceEq,Int.reduceLT,Int.reduceLE,h0]
  refine (c_sraise 0 0 (-1) (sts_in (K := ⟨2, 140, [[I 0, I 0]]⟩) hM hb4) hl ho (by omega)).mono ?_
  rintro _ H9 ⟨rfl, hM9⟩
  obtain ⟨H10, rfl, w1, w2⟩ := sts_out hM9 hF4
  simp +contextual -dsimp -implicitDefEqProofs (maxSteps:=5000000) only [go_sem,reduceIte,reduceCtorEq,Nat.reduceEqDiff,Nat.reduceBEq,Nat.reduceAdd,Nat.reduceLeDiff,Nat.reduceMul,Nat.reduceLT,Int.reduceEq,Int.reduceLT,Int.reduceLE]
  refine retR_less (l := [.agg (rEn ⟨2, s.fs.length⟩)]) (H' := H10) ?_ (le_set w2) ⟨rfl, w1⟩
  simp only [resA,go_sem,reduceIte,reduceCtorEq,Nat.reduceEqDiff,Nat.reduceBEq,Nat.reduceAdd,Nat.reduceLeDiff,Nat.reduceMul,Nat.reduceLT,Int.reduceEq,Int.reduceLT,Int.reduceLE,rEn]
theorem c_sline {t : List Class} {cl : Bool} {P : List Line} {clp : Bool} {n : Nat} (ht : validT t = true) (ih : SBlkOk t cl P clp n) {i : Nat} {d k a b h : Int} {kids rest : Fo} {s : RS} {F H : AHeap} {bs : Nat} {lp : Bool}
  (k7 : k ≠ 7) (hn : kids.size < n) (hat : At P i d (.node k a b kids rest)) (hno : numOk t k a b = true) (hk : numsF t kids (d + 1) = true) (ho11 : k = 11 → okF kids lp false = true) (ho12 : k = 12 → okF kids true false = true) (hs : FsOk t s.fs) (hh : h < s.fs.length)
  (hl : s.log.length + (2 + (if k = 12 then a.toNat * cost kids else cost kids)) ≤ 900000) (hf : s.fs.length + (2 + (if k = 12 then a.toNat * cost kids else cost kids)) ≤ 900000) (hM : StS F H bs t cl P clp s) (hp : P.length ≤ 4398046511104) :
  ACalls Tryz.prog 150 [.ptr bs 4 0 0, I i, I h] H fun r H' => r = .agg (rEn (lineR k a b i h (fun s => runF t kids (i + 1) none h s) s).1) ∧ StS F H' bs t cl P clp (lineR k a b i h (fun s => runF t kids (i + 1) none h s) s).2 := by
 have hi := hat.head.1
 have hx := hat.head.2
 obtain ⟨xl, G, clf, hF, hg1, hb, rfl⟩ := id hM
 have hfl : s.fs.length ≤ 999998 := by omega
 refine acalls_of1 Tryz.func150 rfl (by kernel_rfl) rfl rfl (awp_sound (fz := fun r => if r = 1 then [7] else []) (im := fun _ => false) mixed _ _ _ _ (by kernel_rfl) ?_)
 simp +contextual -dsimp -implicitDefEqProofs (maxSteps:=5000000) only [go_sem,reduceIte,reduceCtorEq,Nat.reduceEqDiff,Nat.reduceBEq,Nat.reduceAdd,Nat.reduceLeDiff,Nat.reduceMul,Nat.reduceLT,Int.reduceEq,Int.reduceLT,Int.reduceLE,hi,hx]
 rintro b6 ⟨n1, n2, hn2⟩
 have hF6 : F b6 = none := grow_none hg1 hn2
 have nb6 : ∀ K, (G.set bs K) b6 = none := fun K => by rw [set_other n1]; exact hn2
 rintro b7 hb7
 have hMin := sts_in (K := ⟨2, 140, [[I 0, I 0]]⟩) hM (nb6 _)
 have e0 : k ≠ 11 → k ≠ 12 → lineR k a b i h (fun s => runF t kids (i + 1) none h s) s = lineS k a b h (s.jump k i) := fun q1 q2 => by unfold lineR; rw [if_neg q1, if_neg q2]
 have sj : (s.jump k i).log = s.log ∧ (s.jump k i).fs = s.fs := by unfold RS.jump; split <;> exact ⟨rfl, rfl⟩
 have stJ : ∀ (H : AHeap) (s1 s2 : RS), s1.log = s2.log → s1.fs = s2.fs → StS F H bs t cl P clp s1 → StS F H bs t cl P clp s2 := by
  rintro H s1 s2 e1 e2 ⟨xl, G, clf, w1, w2, w3, w4⟩
  rw [e1] at w2
  rw [e2] at w4
  exact ⟨xl, G, clf, w1, w2, w3, w4⟩
 by_cases k1 : k = 1
 ·have e : lineR k a b i h (fun s => runF t kids (i + 1) none h s) s = (.next, (s.jump k i).tell a) := by
   rw [e0 (by omega) (by omega)]; unfold lineS; rw [if_pos k1]
  rw [e]
  simp +contextual -dsimp -implicitDefEqProofs (maxSteps:=5000000) only [go_sem,reduceIte,reduceCtorEq,Nat.reduceEqDiff,Nat.reduceBEq,Nat.reduceAdd,Nat.reduceLeDiff,Nat.reduceMul,Nat.reduceLT,Int.reduceEq,Int.reduceLT,Int.reduceLE,hi,hx,n1,n2,k1]
  refine draw_intro [0, 0, 0, 0, 0, 0, 0, 0, 2, 0, 0, 2] AHeap.none (by kernel_rfl) none_le ?_
  simp +contextual -dsimp -implicitDefEqProofs (maxSteps:=5000000) only [go_sem,reduceIte,reduceCtorEq,Nat.reduceEqDiff,Nat.reduceBEq,Nat.reduceAdd,Nat.reduceLeDiff,Nat.reduceMul,Nat.reduceLT,Int.reduceEq,Int.reduceLT,Int.reduceLE,hi,hx,n1,n2,k1]
  refine sts_app1 hg1 hb n1 hn2 (by omega) fun x2 G2 y1 y3 y4 y5 => ?_
  obtain ⟨r1, r2⟩ := y5
  simp +contextual -dsimp -implicitDefEqProofs (maxSteps:=5000000) only [go_sem,reduceIte,reduceCtorEq,Nat.reduceEqDiff,Nat.reduceBEq,Nat.reduceAdd,Nat.reduceLeDiff,Nat.reduceMul,Nat.reduceLT,Int.reduceEq,Int.reduceLT,Int.reduceLE,n1,n2,r1,r2]
  have hMt : StS F (G2.set bs ⟨4, 138, [[.vsl (t.map rClass) cl, aProg P clp, x2, .vsl (s.fs.map rFault) clf]]⟩) bs t cl P clp (s.tell a) := ⟨x2, G2, clf, hF, y1, y3, rfl⟩
  refine retR_less (l := [.agg (rEn .next)]) (H' := G2.set bs _) ?_ (le_set (by rw [set_other n1]; exact y4)) ⟨rfl, stJ _ (s.tell a) _ ?_ ?_ hMt⟩
  ·simp only [resA,go_sem,reduceIte,reduceCtorEq,Nat.reduceEqDiff,Nat.reduceBEq,Nat.reduceAdd,Nat.reduceLeDiff,Nat.reduceMul,Nat.reduceLT,Int.reduceEq,Int.reduceLT,Int.reduceLE,rEn,En.next]
  ·show s.log ++ [a] = (s.jump k i).log ++ [a]
   rw [sj.1]
  ·show s.fs = (s.jump k i).fs
   rw [sj.2]
 by_cases k2 : k = 2
 ·have e : lineR k a b i h (fun s => runF t kids (i + 1) none h s) s = (⟨2, s.fs.length⟩, (s.jump k i).raise a b h) := by
   rw [e0 (by omega) (by omega)]; unfold lineS; rw [if_neg k1, if_pos k2, sj.2]
  rw [e]
  simp +contextual -dsimp -implicitDefEqProofs (maxSteps:=5000000) only [go_sem,reduceIte,reduceCtorEq,Nat.reduceEqDiff,Nat.reduceBEq,Nat.reduceAdd,Nat.reduceLeDiff,Nat.reduceMul,Nat.reduceLT,Int.reduceEq,Int.reduceLT,Int.reduceLE,hi,hx,n1,n2,k2]
  refine (c_sraise a b h hMin hfl hs.ho hh).mono ?_
  rintro _ H9 ⟨rfl, hM9⟩
  obtain ⟨H10, rfl, w1, w2⟩ := sts_out hM9 hF6
  simp +contextual -dsimp -implicitDefEqProofs (maxSteps:=5000000) only [go_sem,reduceIte,reduceCtorEq,Nat.reduceEqDiff,Nat.reduceBEq,Nat.reduceAdd,Nat.reduceLeDiff,Nat.reduceMul,Nat.reduceLT,Int.reduceEq,Int.reduceLT,Int.reduceLE,n1,n2]
  refine retR_less (l := [.agg (rEn ⟨2, s.fs.length⟩)]) (H' := H10) ?_ (le_set w2) ⟨rfl, stJ _ (s.raise a b h) _ ?_ ?_ w1⟩
  ·simp only [resA,go_sem,reduceIte,reduceCtorEq,Nat.reduceEqDiff,Nat.reduceBEq,Nat.reduceAdd,Nat.reduceLeDiff,Nat.reduceMul,Nat.reduceLT,Int.reduceEq,Int.reduceLT,Int.reduceLE,rEn]
  ·show s.log = (s.jump k i).log
   rw [sj.1]
  ·show raiseF s.fs a b h = raiseF (s.jump k i).fs a b h
   rw [sj.2]
 by_cases k3 : k = 3
 ·have e : lineR k a b i h (fun s => runF t kids (i + 1) none h s) s = lineS 3 0 0 h (s.jump k i) := by
   rw [e0 (by omega) (by omega)]
   generalize s.jump k i = s1
   rw [k3]
   simp [lineS]
  rw [e]
  have hMj := stJ _ s (s.jump k i) sj.1.symm sj.2.symm hM
  have key := c_sagain h (sts_in (K := ⟨2, 140, [[I 0, I 0]]⟩) hMj (nb6 _)) (by rw [sj.2]; exact hfl) (by rw [sj.2]; exact hs.ho)
  generalize lineS 3 0 0 h (s.jump k i) = r at key ⊢
  simp +contextual -dsimp -implicitDefEqProofs (maxSteps:=5000000) only [go_sem,reduceIte,reduceCtorEq,Nat.reduceEqDiff,Nat.reduceBEq,Nat.reduceAdd,Nat.reduceLeDiff,Nat.reduceMul,Nat.reduceLT,Int.reduceEq,Int.reduceLT,Int.reduceLE,hi,hx,n1,n2,k3]
  refine key.mono ?_
  rintro _ H9 ⟨rfl, hM9⟩
  obtain ⟨H10, rfl, w1, w2⟩ := sts_out hM9 hF6
  simp +contextual -dsimp -implicitDefEqProofs (maxSteps:=5000000) only [go_sem,reduceIte,reduceCtorEq,Nat.reduceEqDiff,Nat.reduceBEq,Nat.reduceAdd,Nat.reduceLeDiff,Nat.reduceMul,Nat.reduceLT,Int.reduceEq,Int.reduceLT,Int.reduceLE,n1,n2,rEn]
  refine retR_less (l := [.agg (rEn r.1)]) (H' := H10) ?_ (le_set w2) ⟨rfl, w1⟩
  simp only [resA,go_sem,reduceIte,reduceCtorEq,Nat.reduceEqDiff,Nat.reduceBEq,Nat.reduceAdd,Nat.reduceLeDiff,Nat.reduceMul,Nat.reduceLT,Int.reduceEq,Int.reduceLT,Int.reduceLE,rEn]
 by_cases k4 : k = 4
 ·subst k4
  have e : lineR 4 a b i h (fun s => runF t kids (i + 1) none h s) s = (⟨1, a⟩, s.jump 4 i) := by
   rw [e0 (by omega) (by omega)]; unfold lineS; rw [if_neg k1, if_neg k2, if_neg k3, if_pos rfl]
  have hMj := stJ _ s (s.jump 4 i) sj.1.symm sj.2.symm hM
  rw [e]
  simp +contextual -dsimp -implicitDefEqProofs (maxSteps:=5000000) only [go_sem,reduceIte,reduceCtorEq,Nat.reduceEqDiff,Nat.reduceBEq,Nat.reduceAdd,Nat.reduceLeDiff,Nat.reduceMul,Nat.reduceLT,Int.reduceEq,Int.reduceLT,Int.reduceLE,hi,hx,n1,n2]
  refine retR_less (l := [.agg (rEn ⟨1, a⟩)]) (H' := G.set bs _) ?_ (le_set (nb6 _)) ⟨rfl, hMj⟩
  simp only [resA,go_sem,reduceIte,reduceCtorEq,Nat.reduceEqDiff,Nat.reduceBEq,Nat.reduceAdd,Nat.reduceLeDiff,Nat.reduceMul,Nat.reduceLT,Int.reduceEq,Int.reduceLT,Int.reduceLE,rEn]
 by_cases k5 : k = 5
 ·subst k5
  have e : lineR 5 a b i h (fun s => runF t kids (i + 1) none h s) s = (⟨3, 0⟩, s.jump 5 i) := by
   rw [e0 (by omega) (by omega)]; unfold lineS; rw [if_neg k1, if_neg k2, if_neg k3, if_neg k4, if_pos rfl]
  have hMj := stJ _ s (s.jump 5 i) sj.1.symm sj.2.symm hM
  rw [e]
  simp +contextual -dsimp -implicitDefEqProofs (maxSteps:=5000000) only [go_sem,reduceIte,reduceCtorEq,Nat.reduceEqDiff,Nat.reduceBEq,Nat.reduceAdd,Nat.reduceLeDiff,Nat.reduceMul,Nat.reduceLT,Int.reduceEq,Int.reduceLT,Int.reduceLE,hi,hx,n1,n2]
  refine retR_less (l := [.agg (rEn ⟨3, 0⟩)]) (H' := G.set bs _) ?_ (le_set (nb6 _)) ⟨rfl, hMj⟩
  simp only [resA,go_sem,reduceIte,reduceCtorEq,Nat.reduceEqDiff,Nat.reduceBEq,Nat.reduceAdd,Nat.reduceLeDiff,Nat.reduceMul,Nat.reduceLT,Int.reduceEq,Int.reduceLT,Int.reduceLE,rEn]
 by_cases k6 : k = 6
 ·subst k6
  have e : lineR 6 a b i h (fun s => runF t kids (i + 1) none h s) s = (⟨4, 0⟩, s.jump 6 i) := by
   rw [e0 (by omega) (by omega)]; unfold lineS; rw [if_neg k1, if_neg k2, if_neg k3, if_neg k4, if_neg k5, if_pos rfl]
  have hMj := stJ _ s (s.jump 6 i) sj.1.symm sj.2.symm hM
  rw [e]
  simp +contextual -dsimp -implicitDefEqProofs (maxSteps:=5000000) only [go_sem,reduceIte,reduceCtorEq,Nat.reduceEqDiff,Nat.reduceBEq,Nat.reduceAdd,Nat.reduceLeDiff,Nat.reduceMul,Nat.reduceLT,Int.reduceEq,Int.reduceLT,Int.reduceLE,hi,hx,n1,n2]
  refine retR_less (l := [.agg (rEn ⟨4, 0⟩)]) (H' := G.set bs _) ?_ (le_set (nb6 _)) ⟨rfl, hMj⟩
  simp only [resA,go_sem,reduceIte,reduceCtorEq,Nat.reduceEqDiff,Nat.reduceBEq,Nat.reduceAdd,Nat.reduceLeDiff,Nat.reduceMul,Nat.reduceLT,Int.reduceEq,Int.reduceLT,Int.reduceLE,rEn]
 by_cases k11 : k = 11
 ·subst k11
  have e : lineR 11 a b i h (fun s => runF t kids (i + 1) none h s) s = withS a b (runF t kids (i + 1) none h (s.tell (100 + a))) := by unfold lineR; rw [if_pos rfl]
  rw [e]
  rw [if_neg (by decide)] at hl hf
  have key := c_swith ht ih hn hat hno hk (ho11 rfl) hs hh hl hf hMin hp
  generalize withS a b (runF t kids (i + 1) none h (s.tell (100 + a))) = r at key ⊢
  simp +contextual -dsimp -implicitDefEqProofs (maxSteps:=5000000) only [go_sem,reduceIte,reduceCtorEq,Nat.reduceEqDiff,Nat.reduceBEq,Nat.reduceAdd,Nat.reduceLeDiff,Nat.reduceMul,Nat.reduceLT,Int.reduceEq,Int.reduceLT,Int.reduceLE,hi,hx,n1,n2]
  refine key.mono ?_
  rintro _ H9 ⟨rfl, hM9⟩
  obtain ⟨H10, rfl, w1, w2⟩ := sts_out hM9 hF6
  simp +contextual -dsimp -implicitDefEqProofs (maxSteps:=5000000) only [go_sem,reduceIte,reduceCtorEq,Nat.reduceEqDiff,Nat.reduceBEq,Nat.reduceAdd,Nat.reduceLeDiff,Nat.reduceMul,Nat.reduceLT,Int.reduceEq,Int.reduceLT,Int.reduceLE,n1,n2,rEn]
  refine retR_less (l := [.agg (rEn r.1)]) (H' := H10) ?_ (le_set w2) ⟨rfl, w1⟩
  simp only [resA,go_sem,reduceIte,reduceCtorEq,Nat.reduceEqDiff,Nat.reduceBEq,Nat.reduceAdd,Nat.reduceLeDiff,Nat.reduceMul,Nat.reduceLT,Int.reduceEq,Int.reduceLT,Int.reduceLE,rEn]
 by_cases k12 : k = 12
 ·subst k12
  have e : lineR 12 a b i h (fun s => runF t kids (i + 1) none h s) s = loopS (fun s => runF t kids (i + 1) none h s) a.toNat s := by unfold lineR; rw [if_neg (by decide), if_pos rfl]
  rw [e]
  rw [if_pos rfl] at hl hf
  have key := c_sloop ht ih hn hat hno hk (ho12 rfl) hs hh hl hf hMin hp
  generalize loopS (fun s => runF t kids (i + 1) none h s) a.toNat s = r at key ⊢
  simp +contextual -dsimp -implicitDefEqProofs (maxSteps:=5000000) only [go_sem,reduceIte,reduceCtorEq,Nat.reduceEqDiff,Nat.reduceBEq,Nat.reduceAdd,Nat.reduceLeDiff,Nat.reduceMul,Nat.reduceLT,Int.reduceEq,Int.reduceLT,Int.reduceLE,hi,hx,n1,n2]
  refine key.mono ?_
  rintro _ H9 ⟨rfl, hM9⟩
  obtain ⟨H10, rfl, w1, w2⟩ := sts_out hM9 hF6
  simp +contextual -dsimp -implicitDefEqProofs (maxSteps:=5000000) only [go_sem,reduceIte,reduceCtorEq,Nat.reduceEqDiff,Nat.reduceBEq,Nat.reduceAdd,Nat.reduceLeDiff,Nat.reduceMul,Nat.reduceLT,Int.reduceEq,Int.reduceLT,Int.reduceLE,n1,n2,rEn]
  refine retR_less (l := [.agg (rEn r.1)]) (H' := H10) ?_ (le_set w2) ⟨rfl, w1⟩
  simp only [resA,go_sem,reduceIte,reduceCtorEq,Nat.reduceEqDiff,Nat.reduceBEq,Nat.reduceAdd,Nat.reduceLeDiff,Nat.reduceMul,Nat.reduceLT,Int.reduceEq,Int.reduceLT,Int.reduceLE,rEn]
 have e : lineR k a b i h (fun s => runF t kids (i + 1) none h s) s = (.next, s.jump k i) := by
  rw [e0 k11 k12]; unfold lineS; rw [if_neg k1, if_neg k2, if_neg k3, if_neg k4, if_neg k5, if_neg k6]
 have hMj := stJ _ s (s.jump k i) sj.1.symm sj.2.symm hM
 rw [e]
 simp +contextual -dsimp -implicitDefEqProofs (maxSteps:=5000000) only [go_sem,reduceIte,reduceCtorEq,Nat.reduceEqDiff,Nat.reduceBEq,Nat.reduceAdd,Nat.reduceLeDiff,Nat.reduceMul,Nat.reduceLT,Int.reduceEq,Int.reduceLT,Int.reduceLE,hi,hx,n1,n2,k1,k2,k3,k4,k5,k6,k7,k11,k12]
 refine retR_less (l := [.agg (rEn .next)]) (H' := G.set bs _) ?_ (le_set (nb6 _)) ⟨rfl, hMj⟩
 simp only [resA,go_sem,reduceIte,reduceCtorEq,Nat.reduceEqDiff,Nat.reduceBEq,Nat.reduceAdd,Nat.reduceLeDiff,Nat.reduceMul,Nat.reduceLT,Int.reduceEq,Int.reduceLT,Int.reduceLE,rEn,En.next]
end
section
open Go Go.Sim
set_option maxRecDepth 100000
set_option maxHeartbeats 4000000

theorem c_slineTry {t : List Class} {cl : Bool} {P : List Line} {clp : Bool} {n : Nat} (ht : validT t = true) (ih : SBlkOk t cl P clp n) {i : Nat} {d a b h : Int} {kids rest : Fo} {s : RS} {F H : AHeap} {bs : Nat} {lp : Bool}
  (hn : kids.size + rest.size < n) (hat : At P i d (.node 7 a b kids rest)) (hk : numsF t kids (d + 1) = true) (hr : numsF t rest d = true) (hok : okF kids lp false = true) (hokr : okF rest lp true = true) (hto : tryG 7 (headsK rest) = true) (hs : FsOk t s.fs) (hh : h < s.fs.length)
  (hl : s.log.length + (cost kids + cost rest) ≤ 900000) (hf : s.fs.length + (cost kids + cost rest) ≤ 900000) (hM : StS F H bs t cl P clp s) (hp : P.length ≤ 4398046511104) :
  ACalls Tryz.prog 150 [.ptr bs 4 0 0, I i, I h] H fun r H' =>
   r = .agg (rEn (chainR t rest (i + 1 + kids.size) (runF t kids (i + 1) none h s).1 (runF t kids (i + 1) none h s).1 h (runF t kids (i + 1) none h s).2).1) ∧
   StS F H' bs t cl P clp (chainR t rest (i + 1 + kids.size) (runF t kids (i + 1) none h s).1 (runF t kids (i + 1) none h s).1 h (runF t kids (i + 1) none h s).2).2 := by
 have hi := hat.head.1
 have hx := hat.head.2
 obtain ⟨xl, G, clf, hF, hg1, hb, rfl⟩ := id hM
 refine acalls_of1 Tryz.func150 rfl (by kernel_rfl) rfl rfl (awp_sound (fz := fun r => if r = 1 then [7] else []) (im := fun _ => false) mixed _ _ _ _ (by kernel_rfl) ?_)
 simp +contextual -dsimp -implicitDefEqProofs (maxSteps:=5000000) only [go_sem,reduceIte,reduceCtorEq,Nat.reduceEqDiff,Nat.reduceBEq,Nat.reduceAdd,Nat.reduceLeDiff,Nat.reduceMul,Nat.reduceLT,Int.reduceEq,Int.reduceLT,Int.reduceLE,hi,hx]
 rintro b6 ⟨n1, n2, hn2⟩
 have hF6 : F b6 = none := grow_none hg1 hn2
 have nb6 : ∀ K, (G.set bs K) b6 = none := fun K => by rw [set_other n1]; exact hn2
 rintro b7 hb7
 have key := c_stry ht ih hn hat hk hr hok hokr hto hs hh hl hf (sts_in (K := ⟨2, 140, [[I 0, I 0]]⟩) hM (nb6 _)) hp
 generalize chainR t rest (i + 1 + kids.size) (runF t kids (i + 1) none h s).1 (runF t kids (i + 1) none h s).1 h (runF t kids (i + 1) none h s).2 = r at key ⊢
 refine key.mono ?_
 rintro _ H9 ⟨rfl, hM9⟩
 obtain ⟨H10, rfl, w1, w2⟩ := sts_out hM9 hF6
 simp +contextual -dsimp -implicitDefEqProofs (maxSteps:=5000000) only [go_sem,reduceIte,reduceCtorEq,Nat.reduceEqDiff,Nat.reduceBEq,Nat.reduceAdd,Nat.reduceLeDiff,Nat.reduceMul,Nat.reduceLT,Int.reduceEq,Int.reduceLT,Int.reduceLE,n1,n2,rEn]
 refine retR_less (l := [.agg (rEn r.1)]) (H' := H10) ?_ (le_set w2) ⟨rfl, w1⟩
 simp only [resA,go_sem,reduceIte,reduceCtorEq,Nat.reduceEqDiff,Nat.reduceBEq,Nat.reduceAdd,Nat.reduceLeDiff,Nat.reduceMul,Nat.reduceLT,Int.reduceEq,Int.reduceLT,Int.reduceLE,rEn]
theorem okF_skip {lp : Bool} : ∀ f : Fo, okF f lp true = true → okF (skipF f) lp false = true
 | .nil, _ => rfl
 | .node k a b kids rest, h => by
  simp only [skipF]
  by_cases hk : followsK k = true
  ·rw [if_pos hk]; exact okF_skip rest (okF_rest hk h)
  ·rw [if_neg hk]
   have : okF (.node k a b kids rest) lp true = okF (.node k a b kids rest) lp false := by
    have hk' : followsK k = false := by simpa using hk
    simp only [okF,hk']; rfl
   rw [← this]; exact h
theorem c_sblkStep {t : List Class} {cl : Bool} {P : List Line} {clp : Bool} {n : Nat} (ht : validT t = true) (hp : P.length ≤ 4398046511104) (ih : SBlkOk t cl P clp n) : SBlkOk t cl P clp (n + 1) := by
 intro f i d h s F H bs lp hfn hat hnf hok hs hh hl hf hM
 have hfl := hat.len
 refine acalls_of1 Tryz.func100 rfl (by kernel_rfl) rfl rfl (awp_sound (fz := fun r => if r = 4 then [10] else []) (im := fun _ => false) mixed _ _ _ _ (by kernel_rfl) ?_)
 simp +contextual -dsimp -implicitDefEqProofs (maxSteps:=5000000) only [go_sem,reduceIte,reduceCtorEq,Nat.reduceEqDiff,Nat.reduceBEq,Nat.reduceAdd,Nat.reduceLeDiff,Nat.reduceMul,Nat.reduceLT,Int.reduceEq,Int.reduceLT,Int.reduceLE]
 intro b8 hb8
 have hF8 := sts_none hM hb8
 refine aloop mixed (fz := fun r => if r = 4 then [10] else []) (im := fun _ => false) (by kernel_rfl) (fun m tm H' => ∃ (g : Fo) (q : Nat) (s' : RS) (H'' : AHeap), m = g.size ∧ At P q d g ∧ numsF t g d = true ∧ okF g lp false = true ∧ g.size ≤ f.size ∧ q + g.size = i + f.size ∧ FsOk t s'.fs ∧ s.fs.length ≤ s'.fs.length ∧ s'.log.length + cost g ≤ 900000 ∧ s'.fs.length + cost g ≤ 900000 ∧ runF t f i none h s = runF t g q none h s' ∧ H' = H''.set b8 ⟨2, 140, [[I 0, I 0]]⟩ ∧ H'' b8 = none ∧ StS F H'' bs t cl P clp s' ∧ tm 0 = .ptr bs 4 0 0 ∧ tm 2 = I (i + f.size : Nat) ∧ tm 3 = I h ∧ tm 8 = .ptr b8 2 0 0 ∧ tm 9 = I q) f.size ⟨f, i, s, H, rfl, hat, hnf, hok, Nat.le_refl _, rfl, hs, Nat.le_refl _, hl, hf, rfl, rfl, hb8, hM, ?_⟩ ?_
 ·simp +contextual -dsimp -implicitDefEqProofs (maxSteps:=5000000) only [go_sem,reduceIte,reduceCtorEq,Nat.reduceEqDiff,Nat.reduceBEq,Nat.reduceAdd,Nat.reduceLeDiff,Nat.reduceMul,Nat.reduceLT,Int.reduceEq,Int.reduceLT,Int.reduceLE]
 ·rintro m tm _ ⟨g, q, s', H'', rfl, hgat, hgn, hgo2, hgs, hgq, hs', hsl, bl, bf, he, rfl, h8, hM', t0, t2, t3, t8, t9⟩
  cases g with
  | nil =>
   have z : ¬ q < i + f.size := by simp only [Fo.size] at hgq; omega
   rw [he]
   simp +contextual -dsimp -implicitDefEqProofs (maxSteps:=5000000) only [go_sem,reduceIte,reduceCtorEq,Nat.reduceEqDiff,Nat.reduceBEq,Nat.reduceAdd,Nat.reduceLeDiff,Nat.reduceMul,Nat.reduceLT,Int.reduceEq,Int.reduceLT,Int.reduceLE,t0,t2,t3,t8,t9,z]
   refine retR_less (l := [.agg (rEn .next)]) (H' := H'') ?_ (le_set h8) ⟨rfl, hM'⟩
   simp only [resA,go_sem,reduceIte,reduceCtorEq,Nat.reduceEqDiff,Nat.reduceBEq,Nat.reduceAdd,Nat.reduceLeDiff,Nat.reduceMul,Nat.reduceLT,Int.reduceEq,Int.reduceLT,Int.reduceLE,rEn,En.next,t8]
  | node k a b kids rest =>
   have hsz : (Fo.node k a b kids rest).size = 1 + kids.size + rest.size := rfl
   have z : q < i + f.size := by omega
   have hq := hgat.head
   obtain ⟨n1, n2, n3, n4, n5⟩ := numsF_node hgn
   have hMin := sts_in (K := ⟨2, 140, [[I 0, I 0]]⟩) hM' h8
   have adv : ∀ (SZ : Nat) (g' : Fo) (q' : Nat) (s'' : RS) (H3 : AHeap), g'.size < SZ → g'.size ≤ rest.size → At P q' d g' → numsF t g' d = true → okF g' lp false = true → q' + g'.size = i + f.size → runF t (.node k a b kids rest) q none h s' = runF t g' q' none h s'' → FsOk t s''.fs → s.fs.length ≤ s''.fs.length → s''.log.length + cost g' ≤ 900000 → s''.fs.length + cost g' ≤ 900000 → H3 b8 = none → StS F H3 bs t cl P clp s'' →
     ∃ m', m' < SZ ∧ ∃ (g : Fo) (q : Nat) (s' : RS) (H'' : AHeap), m' = g.size ∧ At P q d g ∧ numsF t g d = true ∧ okF g lp false = true ∧ g.size ≤ f.size ∧ q + g.size = i + f.size ∧ FsOk t s'.fs ∧ s.fs.length ≤ s'.fs.length ∧ s'.log.length + cost g ≤ 900000 ∧ s'.fs.length + cost g ≤ 900000 ∧ runF t f i none h s = runF t g q none h s' ∧ H3.set b8 ⟨2, 140, [[I 0, I 0]]⟩ = H''.set b8 ⟨2, 140, [[I 0, I 0]]⟩ ∧ H'' b8 = none ∧ StS F H'' bs t cl P clp s' ∧ I q' = I q :=
    fun SZ g' q' s'' H3 w1 w0 w2 w3 w3b w4 w5 w6 w7 w8 w9 w10 w11 => ⟨g'.size, w1, g', q', s'', H3, rfl, w2, w3, w3b, by omega, w4, w6, w7, w8, w9, by rw [he]; exact w5, rfl, w10, w11, rfl⟩
   have nx := fun H => c_snextLine (clp := clp) H hgat hp
   by_cases k7 : k = 7
   ·subst k7
    have hc : cost (.node 7 a b kids rest) = 2 + cost kids + cost rest := cost_node_le (by omega)
    obtain ⟨_, o1, o2, o3⟩ | ⟨_, ⟨_, o1, o2, o3⟩ | ⟨o0, _⟩⟩ := okF_node hgo2
    ·cases o1
    ·have hto : tryG 7 (headsK rest) = true := by
      unfold tryOkF at o1
      rw [Bool.and_eq_true] at o1
      exact o1.1
     have hgo0 := goes_run ht kids (q + 1) none (d + 1) h s' n4 hs' (by omega) trivial
     have hgl0 := hgo0.len
     have hss := skipN_add rest (q + 1 + kids.size)
     have hsf := skipF_size rest
     have key := c_slineTry (h := h) ht ih (by omega) hgat n4 n5 o2 o3 hto hs' (by omega) (by omega) (by omega) hMin hp
     have hrun := runF_try (t := t) (a := a) (b := b) (kids := kids) (rest := rest) (i := q) (h := h) (s := s')
     simp only [runF_some] at hrun
     generalize runF t kids (q + 1) none h s' = r0 at key hgo0 hgl0 hrun
     obtain ⟨c, hc1, hgo⟩ := goes_chain ht rest (q + 1 + kids.size) r0.1 r0.1 d h r0.2 n5 hgo0.ok (by omega) ⟨hgo0.val, hgo0.val⟩
     have hgl := hgo.len
     generalize chainR t rest (q + 1 + kids.size) r0.1 r0.1 h r0.2 = r at key hgo hgl hrun
     simp +contextual -dsimp -implicitDefEqProofs (maxSteps:=5000000) only [go_sem,reduceIte,reduceCtorEq,Nat.reduceEqDiff,Nat.reduceBEq,Nat.reduceAdd,Nat.reduceLeDiff,Nat.reduceMul,Nat.reduceLT,Int.reduceEq,Int.reduceLT,Int.reduceLE,t0,t2,t3,t8,t9,z]
     refine key.mono ?_
     rintro _ H3 ⟨rfl, hM3⟩
     obtain ⟨H4, rfl, w1, w2⟩ := sts_out hM3 hF8
     obtain ⟨xl4, G4, clf4, hFb4, hg4, hb4, rfl⟩ := id w1
     have w2' := w2
     rw [set_none] at w2'
     obtain ⟨z1, z2, z3⟩ := w2'
     by_cases c0 : r.1.ed = 0
     ·simp only [c0,if_true] at hrun
      simp +contextual -dsimp -implicitDefEqProofs (maxSteps:=5000000) only [go_sem,reduceIte,reduceCtorEq,Nat.reduceEqDiff,Nat.reduceBEq,Nat.reduceAdd,Nat.reduceLeDiff,Nat.reduceMul,Nat.reduceLT,Int.reduceEq,Int.reduceLT,Int.reduceLE,rEn,t0,t2,t3,t8,t9,z,z1,z2,c0]
      rintro b10 hb10
      refine (nx _).det ?_
      rw [if_pos rfl]
      simp +contextual -dsimp -implicitDefEqProofs (maxSteps:=5000000) only [go_sem,reduceIte,reduceCtorEq,Nat.reduceEqDiff,Nat.reduceBEq,Nat.reduceAdd,Nat.reduceLeDiff,Nat.reduceMul,Nat.reduceLT,Int.reduceEq,Int.reduceLT,Int.reduceLE,t0,t2,t3,t8,t9,z1,z2]
      exact adv _ (skipF rest) (skipN rest (q + 1 + kids.size)) r.2 _ (by simp only [Fo.size]; omega) hsf hgat.rest.skip (numsF_skip rest n5) (okF_skip rest o3) (by omega) hrun hgo.ok (by omega) (by omega) (by omega) w2 w1
     ·simp only [c0,if_false] at hrun
      simp +contextual -dsimp -implicitDefEqProofs (maxSteps:=5000000) only [go_sem,reduceIte,reduceCtorEq,Nat.reduceEqDiff,Nat.reduceBEq,Nat.reduceAdd,Nat.reduceLeDiff,Nat.reduceMul,Nat.reduceLT,Int.reduceEq,Int.reduceLT,Int.reduceLE,rEn,t0,t2,t3,t8,t9,z,z1,z2,c0]
      rintro b10 hb10
      rw [he, hrun]
      refine retR_less (l := [.agg (rEn r.1)]) (H' := G4.set bs _) ?_ (le_set w2) ⟨rfl, w1⟩
      simp only [resA,go_sem,reduceIte,reduceCtorEq,Nat.reduceEqDiff,Nat.reduceBEq,Nat.reduceAdd,Nat.reduceLeDiff,Nat.reduceMul,Nat.reduceLT,Int.reduceEq,Int.reduceLT,Int.reduceLE,rEn,t8]
    ·exact absurd rfl o0
   ·obtain ⟨_, o1, o2, o3⟩ | ⟨_, ⟨o0, _⟩ | ⟨_, o1, o2, o3, _⟩⟩ := okF_node hgo2
    ·cases o1
    ·exact absurd o0 k7
    ·have hgo := goes_lineR (h := h) (i := q) (body := fun s => runF t kids (q + 1) none h s) (n := cost kids) ht hs' n1 (by omega) (fun s2 hs2 hl2 => goes_run ht kids (q + 1) none (d + 1) h s2 n4 hs2 (by omega) trivial)
     have hgl := hgo.len
     have hrun := runF_line (t := t) (a := a) (b := b) (kids := kids) (rest := rest) (i := q) (h := h) (s := s') k7
     have hcn : cost (.node k a b kids rest) = 2 + (if k = 12 then a.toNat * cost kids else cost kids) + cost rest := rfl
     have key := c_sline (h := h) (lp := lp) ht ih k7 (by omega) hgat n1 n4 o2 o3 hs' (by omega) (by omega) (by omega) hMin hp
     generalize lineR k a b q h (fun s => runF t kids (q + 1) none h s) s' = r at key hgo hgl hrun
     simp +contextual -dsimp -implicitDefEqProofs (maxSteps:=5000000) only [go_sem,reduceIte,reduceCtorEq,Nat.reduceEqDiff,Nat.reduceBEq,Nat.reduceAdd,Nat.reduceLeDiff,Nat.reduceMul,Nat.reduceLT,Int.reduceEq,Int.reduceLT,Int.reduceLE,t0,t2,t3,t8,t9,z]
     refine key.mono ?_
     rintro _ H3 ⟨rfl, hM3⟩
     obtain ⟨H4, rfl, w1, w2⟩ := sts_out hM3 hF8
     obtain ⟨xl4, G4, clf4, hFb4, hg4, hb4, rfl⟩ := id w1
     have w2' := w2
     rw [set_none] at w2'
     obtain ⟨z1, z2, z3⟩ := w2'
     by_cases c0 : r.1.ed = 0
     ·simp only [c0,if_true] at hrun
      simp +contextual -dsimp -implicitDefEqProofs (maxSteps:=5000000) only [go_sem,reduceIte,reduceCtorEq,Nat.reduceEqDiff,Nat.reduceBEq,Nat.reduceAdd,Nat.reduceLeDiff,Nat.reduceMul,Nat.reduceLT,Int.reduceEq,Int.reduceLT,Int.reduceLE,rEn,t0,t2,t3,t8,t9,z,z1,z2,c0]
      rintro b10 hb10
      refine (nx _).det ?_
      rw [if_neg k7]
      simp +contextual -dsimp -implicitDefEqProofs (maxSteps:=5000000) only [go_sem,reduceIte,reduceCtorEq,Nat.reduceEqDiff,Nat.reduceBEq,Nat.reduceAdd,Nat.reduceLeDiff,Nat.reduceMul,Nat.reduceLT,Int.reduceEq,Int.reduceLT,Int.reduceLE,t0,t2,t3,t8,t9,z1,z2]
      exact adv _ rest (q + 1 + kids.size) r.2 _ (by simp only [Fo.size]; omega) (Nat.le_refl _) hgat.rest n5 o1 (by omega) hrun hgo.ok (by omega) (by omega) (by omega) w2 w1
     ·simp only [c0,if_false] at hrun
      simp +contextual -dsimp -implicitDefEqProofs (maxSteps:=5000000) only [go_sem,reduceIte,reduceCtorEq,Nat.reduceEqDiff,Nat.reduceBEq,Nat.reduceAdd,Nat.reduceLeDiff,Nat.reduceMul,Nat.reduceLT,Int.reduceEq,Int.reduceLT,Int.reduceLE,rEn,t0,t2,t3,t8,t9,z,z1,z2,c0]
      rintro b10 hb10
      rw [he, hrun]
      refine retR_less (l := [.agg (rEn r.1)]) (H' := G4.set bs _) ?_ (le_set w2) ⟨rfl, w1⟩
      simp only [resA,go_sem,reduceIte,reduceCtorEq,Nat.reduceEqDiff,Nat.reduceBEq,Nat.reduceAdd,Nat.reduceLeDiff,Nat.reduceMul,Nat.reduceLT,Int.reduceEq,Int.reduceLT,Int.reduceLE,rEn,t8]
theorem c_sblkAll {t : List Class} {cl : Bool} {P : List Line} {clp : Bool} (ht : validT t = true) (hp : P.length ≤ 4398046511104) : ∀ n, SBlkOk t cl P clp n
 | 0 => fun f i d h s F H bs lp hn => by omega
 | n + 1 => c_sblkStep ht hp (c_sblkAll ht hp n)
end
section
open Go Go.Sim
set_option maxRecDepth 100000
set_option maxHeartbeats 4000000

theorem rel_opn {O : Nat → Prop} {w : World} {es : List (List AV)} {cl : Bool} {v : Value} (h : Rel O w (.vsl es cl) v) : Rel O w (.vsl es false) v := by
 cases h with
 | vnil => exact .vnil false
 | vsl es cl b o sz cap g h1 h2 h3 h4 h5 h6 h7 h8 h9 => exact .vsl es false b o sz cap g h1 h2 (fun q => by cases q) h4 h5 h6 h7 h8 h9
theorem rel_one {O : Nat → Prop} {w : World} {es : List (List AV)} {cl : Bool} {v : Value} (h : Rel O w (.agg [.vsl es cl]) v) : Rel O w (.agg [.vsl es false]) v := by
 cases h with
 | agg _ vs e1 e2 e3 =>
  refine .agg _ vs (by simpa using e1) e2 fun i c u hc hu => ?_
  cases i with
  | zero => simp at hc; subst hc; exact rel_opn (e3 0 _ u rfl hu)
  | succ i => simp at hc
theorem acalls_opn {P : Program} {f : FuncId} {args : List AV} {H : AHeap} {es : List (List AV)} {x : AV} (h : ACalls P f args H fun r H' => (∃ cl, r = .tup [.agg [.vsl es cl], x]) ∧ H' = H) : ACalls P f args H fun r H' => r = .tup [.agg [.vsl es false], x] ∧ H' = H := by
 refine ⟨h.1, fun w vs hh hv => (h.2 w vs hh hv).mono ?_⟩
 rintro e w' ⟨v, r, H', rfl, ⟨⟨cl, rfl⟩, rfl⟩, h1, h2⟩
 refine ⟨v, _, _, rfl, ⟨rfl, rfl⟩, ?_, h2⟩
 cases h1 with
 | tup _ vs e1 e3 =>
  refine .tup _ vs (by simpa using e1) fun i c u hc hu => ?_
  cases i with
  | zero => simp at hc; subst hc; exact rel_one (e3 0 _ u rfl hu)
  | succ i => exact e3 (i + 1) c u (by simpa using hc) hu
def resSp (r : En × RS) : Res :=
 if r.1.ed = 2 then ⟨r.2.log, 2, idxF (fun x => decide (r.1.val = x)) (sortedF (dchF r.2.fs r.1.val)), isoL r.2.fs (sortedF (dchF r.2.fs r.1.val))⟩ else ⟨r.2.log, r.1.ed, r.1.val, []⟩
theorem c_srun (t : List Class) (cl : Bool) (p : List Line) (cl' : Bool) (H : AHeap) (hp : p.length ≤ 4398046511104) (hv : ValidP t p) :
  ACalls Tryz.prog 52 [aTree t cl, aProg p cl'] H fun r H' => ∃ xl c2, r = .agg [xl, I (resSp (runP t p)).ed, I (resSp (runP t p)).val, .vsl ((resSp (runP t p)).heap.map rFault) c2] ∧ Grow rI 1 3 H H' xl (resSp (runP t p)).log := by
 obtain ⟨h1, h2, h3, h4, h5, h6⟩ := validP_forest hv
 have hgo := runP_goes hv
 have hgl := hgo.len
 have hat := at_top h2
 have hcs := cost_small h3 h6
 have hlen : ((0 + (forestP p).size : Nat) : Int) = (p.length : Int) := by omega
 refine acalls_of1 Tryz.func52 rfl (by kernel_rfl) rfl rfl (awp_sound (fz := fun r => if r = 2 then [6] else if r = 5 then [8] else []) (im := fun s => s == 2 || s == 12) mixed _ _ _ _ (by kernel_rfl) ?_)
 simp +contextual -dsimp -implicitDefEqProofs (maxSteps:=5000000) only [go_sem,reduceIte,reduceCtorEq,Nat.reduceEqDiff,Nat.reduceBEq,Nat.reduceAdd,Nat.reduceLeDiff,Nat.reduceMul,Nat.reduceLT,Int.reduceEq,Int.reduceLT,Int.reduceLE]
 rintro b4 hb4 bs ⟨n1, n2, hbs⟩
 have hM : StS (H.set b4 ⟨4, 34, [[.vsl [] true, I 0, I 0, .vsl [] true]]⟩) ((H.set b4 ⟨4, 34, [[.vsl [] true, I 0, I 0, .vsl [] true]]⟩).set bs ⟨4, 138, [[.vsl (t.map rClass) cl, aProg p cl', .vsl [] true, .vsl [] true]]⟩) bs t cl p cl' rs0 :=
  ⟨.vsl [] true, _, true, by rw [set_other n1]; exact hbs, grow_nil, by rw [set_other n1]; exact hbs, rfl⟩
 have key := c_sblkAll (cl := cl) (P := p) (clp := cl') h1 hp ((forestP p).size + 1) (forestP p) 0 0 (-1) rs0 _ _ bs false (by omega) hat h3 h4 (fsOk_nil t) (by show (-1 : Int) < 0; omega) (by show 0 + _ ≤ _; omega) (by show 0 + _ ≤ _; omega) hM
 rw [hlen, show ((0 : Nat) : Int) = 0 from rfl] at key
 have er : runF t (forestP p) 0 none (-1) rs0 = runP t p := rfl
 rw [er] at key
 generalize runP t p = r at key hgo hgl ⊢
 refine key.mono ?_
 rintro _ H2 ⟨rfl, hM2⟩
 obtain ⟨xl, G, clf, hF2, hg2, hb2, rfl⟩ := id hM2
 obtain ⟨G2, hg3, rfl, w4⟩ := grow_out hg2 hb4
 rw [set_none] at hb2
 obtain ⟨z1, z2, z3⟩ := hb2
 obtain ⟨q1, q2⟩ := one_grow hg3
 simp +contextual -dsimp -implicitDefEqProofs (maxSteps:=5000000) only [go_sem,reduceIte,reduceCtorEq,Nat.reduceEqDiff,Nat.reduceBEq,Nat.reduceAdd,Nat.reduceLeDiff,Nat.reduceMul,Nat.reduceLT,Int.reduceEq,Int.reduceLT,Int.reduceLE,rEn,z1,z2,q1,q2]
 rintro b6 hb6
 refine draw_intro [0, 0, 0, 1, 0, 1, 0, 1, 0, 3, 2] _ (by kernel_rfl) (AHeap.le_refl _) ?_
 simp +contextual -dsimp -implicitDefEqProofs (maxSteps:=5000000) only [go_sem,reduceIte,reduceCtorEq,Nat.reduceEqDiff,Nat.reduceBEq,Nat.reduceAdd,Nat.reduceLeDiff,Nat.reduceMul,Nat.reduceLT,Int.reduceEq,Int.reduceLT,Int.reduceLE,rEn,z1,z2,q1,q2]
 rintro b7 ⟨d1, d2, d3, d4, m7⟩
 have hle : ∀ K K7, AHeap.le ((G2.set b4 K).set bs ⟨4, 138, [[.vsl (t.map rClass) cl, aProg p cl', xl, .vsl (r.2.fs.map rFault) clf]]⟩) (((G2.set b4 K).set bs ⟨4, 138, [[.vsl (t.map rClass) cl, aProg p cl', xl, .vsl (r.2.fs.map rFault) clf]]⟩).set b7 K7) := fun K K7 => le_set (by rw [set_other d1, set_other d3]; exact m7)
 refine ⟨hle _ _, ?_⟩
 have hle2 : ∀ K S K7, AHeap.le G2 (((G2.set b4 K).set bs S).set b7 K7) := fun K S K7 => AHeap.le_trans (AHeap.le_trans (le_set w4) (le_set (by rw [set_other n1]; exact z3))) (le_set (by rw [set_other d1, set_other d3]; exact m7))
 refine ⟨fun e2 => ?_, fun e2 => ?_⟩
 ·have fin : ∀ H', ACalls Tryz.prog 101 [aHeap r.2.fs clf, I r.1.val] H' fun r0 H'' => r0 = .tup [.agg [.vsl ((isoL r.2.fs (sortedF (dchF r.2.fs r.1.val))).map rFault) false], I (idxF (fun x => decide (r.1.val = x)) (sortedF (dchF r.2.fs r.1.val)))] ∧ H'' = H' := fun H' => acalls_opn (c_isolated r.2.fs clf r.1.val _ (by have : (rs0 : RS).fs.length = 0 := rfl; omega) hgo.ok.ho (hgo.val e2).2 (dch_ok hgo.ok.ho (hgo.val e2).2) (dch_len (hgo.val e2).2 (by have : (rs0 : RS).fs.length = 0 := rfl; omega)))
  refine draw_introQ [6] [0, 0, 0, 1, 0, 1, 4, 0, 0, 0, 3, 2, 0] (fun _ => .tup [.agg [.vsl ((isoL r.2.fs (sortedF (dchF r.2.fs r.1.val))).map rFault) false], I (idxF (fun x => decide (r.1.val = x)) (sortedF (dchF r.2.fs r.1.val)))]) _ (by kernel_rfl) (AHeap.le_refl _) ?_
  simp +contextual -dsimp -implicitDefEqProofs (maxSteps:=5000000) only [go_sem,reduceIte,reduceCtorEq,Nat.reduceEqDiff,Nat.reduceBEq,Nat.reduceAdd,Nat.reduceLeDiff,Nat.reduceMul,Nat.reduceLT,Int.reduceEq,Int.reduceLT,Int.reduceLE,rEn,z1,z2,q1,q2,d1,d2,d3,d4]
  refine ⟨fun H' _ => fin H', ?_⟩
  rintro b8 ⟨f1, f2, f3, f4, f5, f6, m8⟩
  refine ⟨le_set (by rw [set_other f1, set_other f3, set_other f5]; exact m8), ?_⟩
  have hr : resSp r = ⟨r.2.log, 2, idxF (fun x => decide (r.1.val = x)) (sortedF (dchF r.2.fs r.1.val)), isoL r.2.fs (sortedF (dchF r.2.fs r.1.val))⟩ := by unfold resSp; rw [if_pos e2]
  refine retR_less (l := [.agg [xl, I (resSp r).ed, I (resSp r).val, .vsl ((resSp r).heap.map rFault) false]]) (H' := G2) ?_ (hle2 _ _ _) ⟨xl, false, rfl, ?_⟩
  ·rw [hr]
   simp only [resA,go_sem,reduceIte,reduceCtorEq,Nat.reduceEqDiff,Nat.reduceBEq,Nat.reduceAdd,Nat.reduceLeDiff,Nat.reduceMul,Nat.reduceLT,Int.reduceEq,Int.reduceLT,Int.reduceLE,rEn,n1,n2,d1,d2,d3,d4,e2]
  ·rw [hr]; exact hg3
 ·refine retR_less (l := [.agg [xl, I (resSp r).ed, I (resSp r).val, .vsl ((resSp r).heap.map rFault) true]]) (H' := G2) ?_ (hle2 _ _ _) ⟨xl, true, rfl, ?_⟩
  ·have hr : resSp r = ⟨r.2.log, r.1.ed, r.1.val, []⟩ := by unfold resSp; rw [if_neg e2]
   rw [hr]
   simp only [resA,go_sem,reduceIte,reduceCtorEq,Nat.reduceEqDiff,Nat.reduceBEq,Nat.reduceAdd,Nat.reduceLeDiff,Nat.reduceMul,Nat.reduceLT,Int.reduceEq,Int.reduceLT,Int.reduceLE,rEn,n1,n2,d1,d2,d3,d4]
   try rfl
  ·have hr : resSp r = ⟨r.2.log, r.1.ed, r.1.val, []⟩ := by unfold resSp; rw [if_neg e2]
   rw [hr]; exact hg3
end
section
open Go Go.Sim
set_option maxRecDepth 100000
set_option maxHeartbeats 4000000

theorem top_same {t : List Class} {p : List Line} (h : ValidP t p) : resSp (runP t p) = resOf (runP t p) := by
 have hgo := runP_goes h
 unfold resSp resOf
 split
 ·rename_i e2
  rw [sort_same hgo.ok.ho (hgo.val e2).1 (hgo.val e2).2]
 ·rfl
theorem c_sRunProgram (t : List Class) (cl : Bool) (p : List Line) (cl' : Bool) (H : AHeap) (hn : namesOk t) (hp : p.length ≤ 4398046511104) :
  ACalls Tryz.prog 12 [aTree t cl, aProg p cl'] H fun r H' => (∃ c1 c2, r = aRes (if validB t p = true then resOf (runP t p) else res0) c1 c2) ∧ H' = H := by
 refine acalls_of1 Tryz.func12 rfl (by kernel_rfl) rfl rfl (awp_sound (fz := fun _ => []) (im := fun s => s == 2) mixed _ _ _ _ (by kernel_rfl) ?_)
 simp +contextual -dsimp -implicitDefEqProofs (maxSteps:=5000000) only [go_sem,reduceIte,reduceCtorEq,Nat.reduceEqDiff,Nat.reduceBEq,Nat.reduceAdd,Nat.reduceLeDiff,Nat.reduceMul,Nat.reduceLT,Int.reduceEq,Int.reduceLT,Int.reduceLE]
 intro b6 hb6
 refine (c_svalidProgram t cl p cl' _ hn hp).det ?_
 cases hv : validB t p
 ·simp +contextual -dsimp -implicitDefEqProofs (maxSteps:=5000000) only [go_sem,reduceIte,reduceCtorEq,Nat.reduceEqDiff,Nat.reduceBEq,Nat.reduceAdd,Nat.reduceLeDiff,Nat.reduceMul,Nat.reduceLT,Int.reduceEq,Int.reduceLT,Int.reduceLE]
  refine retR_less (l := [.agg [.vsl [] true, I 0, I 0, .vsl [] true]]) (H' := H) ?_ (le_set hb6) ⟨⟨true, true, rfl⟩, rfl⟩
  simp only [resA,go_sem,reduceIte,reduceCtorEq,Nat.reduceEqDiff,Nat.reduceBEq,Nat.reduceAdd,Nat.reduceLeDiff,Nat.reduceMul,Nat.reduceLT,Int.reduceEq,Int.reduceLT,Int.reduceLE]
 ·simp +contextual -dsimp -implicitDefEqProofs (maxSteps:=5000000) only [go_sem,reduceIte,reduceCtorEq,Nat.reduceEqDiff,Nat.reduceBEq,Nat.reduceAdd,Nat.reduceLeDiff,Nat.reduceMul,Nat.reduceLT,Int.reduceEq,Int.reduceLT,Int.reduceLE]
  have hval := validB_true.1 hv
  have key : ∀ H, ACalls Tryz.prog 52 [aTree t cl, aProg p cl'] H fun r H' => (∃ c1 c2, r = aRes (resOf (runP t p)) c1 c2) ∧ H' = H := fun H => by
   refine acalls_fz (c_srun t cl p cl' H hp hval) ?_
   rintro _ H' ⟨xl, c2, rfl, hg⟩
   obtain ⟨c1, hz⟩ := grow_fz hg
   rw [top_same hval] at hz ⊢
   exact ⟨_, H, grow_le hg, fz_agg (.cons hz (.refl _)), ⟨c1, c2, rfl⟩, rfl⟩
  refine (key _).mono ?_
  rintro _ _ ⟨⟨c1, c2, rfl⟩, rfl⟩
  simp +contextual -dsimp -implicitDefEqProofs (maxSteps:=5000000) only [go_sem,reduceIte,reduceCtorEq,Nat.reduceEqDiff,Nat.reduceBEq,Nat.reduceAdd,Nat.reduceLeDiff,Nat.reduceMul,Nat.reduceLT,Int.reduceEq,Int.reduceLT,Int.reduceLE]
  refine retR_less (l := [aRes (resOf (runP t p)) c1 c2]) (H' := H) ?_ (le_set hb6) ⟨⟨c1, c2, rfl⟩, rfl⟩
  simp only [resA,go_sem,reduceIte,reduceCtorEq,Nat.reduceEqDiff,Nat.reduceBEq,Nat.reduceAdd,Nat.reduceLeDiff,Nat.reduceMul,Nat.reduceLT,Int.reduceEq,Int.reduceLT,Int.reduceLE]
end
section
open Go Go.Sim
set_option maxRecDepth 100000

theorem none_at {b : Nat} {k : ABlk} (h : AHeap.none b = some k) : False := by cases h
section
variable {α β : Type} {f : α → List AV} {g : β → List AV} {sz sz' : Nat} {ty ty' : TypeId} {H0 H1 H2 : AHeap} {x y r : AV} {l : List α} {m : List β} {R : Res}
theorem froz_le {a a' : AV} (h : Froz H0 a a') (hle : AHeap.le H0 H1) : Froz H1 a a' := by
 induction h with
 | same a => exact .same a
 | sl h1 h2 h3 => exact .sl (hle _ _ h1) h2 h3
 | ptr h1 h2 => exact .ptr (hle _ _ h1) h2
 | agg h1 _ ih => exact .agg h1 ih
end
end
section
open Go Go.Sim
set_option maxRecDepth 100000
set_option maxHeartbeats 4000000

def OwnH (F H : AHeap) (r : AV) (R : Res) : Prop := ∃ c1 xh, r = .agg [.vsl (R.log.map rI) c1, I R.ed, I R.val, xh] ∧ Grow rFault 5 103 F H xh R.heap
theorem own_frzl {P : Program} {f : FuncId} {args : List AV} {H : AHeap} {R : Res} (h : ACalls P f args H fun r H' => OwnRes H H' r R) : ACalls P f args H fun r H' => OwnH H H' r R := by
 refine acalls_fz h ?_
 rintro _ H' ⟨xl, xh, G1, rfl, h2, h3⟩
 obtain ⟨G2, k1, k2⟩ := grow_swap h2 h3
 obtain ⟨c1, z1⟩ := grow_fz k2
 exact ⟨_, G2, grow_le k2, fz_agg (.cons z1 (.cons (.same _) (.cons (.same _) (.cons (.same _) .nil)))), ⟨c1, xh, rfl, k1⟩⟩
theorem ownH_froz {F H : AHeap} {c1 : Bool} {xh : AV} {R : Res} (h : Grow rFault 5 103 F H xh R.heap) : ∃ c2, Froz H (.agg [.vsl (R.log.map rI) c1, I R.ed, I R.val, xh]) (aRes R c1 c2) := by
 obtain ⟨c2, z2⟩ := grow_froz h
 refine ⟨c2, .agg rfl fun i c c' hc hc' => ?_⟩
 match i with
 | 0 => simp at hc hc'; subst hc hc'; exact .same _
 | 1 => simp at hc hc'; subst hc hc'; exact .same _
 | 2 => simp at hc hc'; subst hc hc'; exact .same _
 | 3 => simp at hc hc'; subst hc hc'; exact z2
 | i + 4 => simp at hc
noncomputable def crR (t : List Class) (p : List Line) (l : List Exi) : Res := if (validB t p && validX t l) = true then crF t p l else res0
theorem nov_start (x : Sta) (b : Bool) : NoV (.tup [.agg (rStart x), B b]) := by
 refine .tup _ fun c hc => ?_
 simp only [List.mem_cons,List.not_mem_nil,or_false] at hc
 rcases hc with rfl | rfl
 ·refine .agg _ fun c hc => ?_
  simp only [rStart,List.mem_cons,List.not_mem_nil,or_false] at hc
  rcases hc with rfl | rfl | rfl <;> exact .lit _
 ·exact .lit _
def joinR (R1 R2 : Res) : Res := if R1.ed = 1 ∧ R2.ed = 0 then ⟨R1.log ++ R2.log, R1.ed, R1.val, R1.heap⟩ else ⟨R1.log ++ R2.log, R2.ed, R2.val, R2.heap⟩
theorem crR_of {t : List Class} {p : List Line} {l : List Exi} (hv : validB t p = true) (hx : validX t l = true) : crR t p l = joinR (resOf (runP t p)) (resM (closeX t l (stOf t (resOf (runP t p))).1)) := by
 unfold crR; rw [hv, hx]; rfl
theorem close_log1 {t : List Class} {l : List Exi} {x : Sta} (hx : validX t l = true) (hs : startOk t x = true) : (resM (closeX t l x)).log.length ≤ 8 := by
 have h1 := closeX_ok hx hs
 have h2 := (validX_T hx).2
 have h3 := h1.log
 rw [resM_log]; omega
theorem close_heap1 {t : List Class} {l : List Exi} {x : Sta} (hl : validX t l = true) (hx : startOk t x = true) : (resM (closeX t l x)).heap.length ≤ 24 := by
 have hok := closeX_ok hl hx
 obtain ⟨hf, hd⟩ := clo_close hl hx
 have ht := (validX_T hl).1
 generalize closeX t l x = c at hok hf hd
 have hr : RelC c (enC c, { rs0 with log := c.log, fs := c.fs }) := ⟨rfl, rfl, rfl⟩
 rw [← rel_res hr]
 by_cases q : 0 ≤ c.cur
 ·have e : enC c = ⟨2, c.cur⟩ := by unfold enC; rw [if_pos q]
  rw [e]
  exact (validH_all (run_out (r := (⟨2, c.cur⟩, { rs0 with log := c.log, fs := c.fs })) ht hf rfl q hok.cur hd).valid).2.2.2
 ·have e : enC c = .next := by unfold enC; rw [if_neg q]
  rw [e, res_else (by show (0 : Int) ≠ 2; decide)]
  exact Nat.zero_le _
theorem c_mCloseRun (t : List Class) (cl : Bool) (p : List Line) (cp : Bool) (l : List Exi) (cx : Bool) (H : AHeap) (hn : namesOk t) (hp : p.length ≤ 4398046511104) :
  ACalls Tryz.prog 15 [aTree t cl, aProg p cp, .vsl (l.map rExit) cx] H fun r H' => OwnRes H H' r (crR t p l) := by
 refine acalls_of1 Tryz.func15 rfl (by kernel_rfl) rfl rfl (awp_sound (fz := fun r => if r = 3 then [7] else if r = 4 then [8] else []) (im := fun s => s == 3 || s == 39) mixed _ _ _ _ (by kernel_rfl) ?_)
 simp +contextual -dsimp -implicitDefEqProofs (maxSteps:=5000000) only [go_sem,reduceIte,reduceCtorEq,Nat.reduceEqDiff,Nat.reduceBEq,Nat.reduceAdd,Nat.reduceLeDiff,Nat.reduceMul,Nat.reduceLT,Int.reduceEq,Int.reduceLT,Int.reduceLE]
 intro b6 hb6
 refine (c_ValidProgram t cl p cp _ hn hp).det ?_
 cases hv : validB t p
 ·simp +contextual -dsimp -implicitDefEqProofs (maxSteps:=5000000) only [go_sem,reduceIte,reduceCtorEq,Nat.reduceEqDiff,Nat.reduceBEq,Nat.reduceAdd,Nat.reduceLeDiff,Nat.reduceMul,Nat.reduceLT,Int.reduceEq,Int.reduceLT,Int.reduceLE]
  refine retR_less (l := [.agg [.vsl [] true, I 0, I 0, .vsl [] true]]) (H' := H) ?_ (le_set hb6) ?_
  ·simp only [resA,go_sem,reduceIte,reduceCtorEq,Nat.reduceEqDiff,Nat.reduceBEq,Nat.reduceAdd,Nat.reduceLeDiff,Nat.reduceMul,Nat.reduceLT,Int.reduceEq,Int.reduceLT,Int.reduceLE]
  ·unfold crR
   rw [hv]
   exact own0 H
 ·simp +contextual -dsimp -implicitDefEqProofs (maxSteps:=5000000) only [go_sem,reduceIte,reduceCtorEq,Nat.reduceEqDiff,Nat.reduceBEq,Nat.reduceAdd,Nat.reduceLeDiff,Nat.reduceMul,Nat.reduceLT,Int.reduceEq,Int.reduceLT,Int.reduceLE]
  refine (c_ValidExits t cl l cx _ hn).det ?_
  cases hx : validX t l
  ·simp +contextual -dsimp -implicitDefEqProofs (maxSteps:=5000000) only [go_sem,reduceIte,reduceCtorEq,Nat.reduceEqDiff,Nat.reduceBEq,Nat.reduceAdd,Nat.reduceLeDiff,Nat.reduceMul,Nat.reduceLT,Int.reduceEq,Int.reduceLT,Int.reduceLE]
   refine retR_less (l := [.agg [.vsl [] true, I 0, I 0, .vsl [] true]]) (H' := H) ?_ (le_set hb6) ?_
   ·simp only [resA,go_sem,reduceIte,reduceCtorEq,Nat.reduceEqDiff,Nat.reduceBEq,Nat.reduceAdd,Nat.reduceLeDiff,Nat.reduceMul,Nat.reduceLT,Int.reduceEq,Int.reduceLT,Int.reduceLE]
   ·unfold crR
    rw [hv, hx]
    exact own0 H
  ·have hval := validB_true.1 hv
   have hst := (st_oks hval).1
   have hsm := heap_small hval
   have hl1 := res_len3 hval
   have hl2 := close_log1 hx hst
   have k1 : ∀ HH, ACalls Tryz.prog 10 [aTree t cl, aProg p cp] HH fun r H' => OwnH HH H' r (resOf (runP t p)) := fun HH => by
    have := own_frzl (c_mRunProgram t cl p cp HH hn hp)
    rw [if_pos hv] at this
    exact this
   have k2 := fun (c1 c2 : Bool) HH => c_mStartOf t cl (resOf (runP t p)) c1 c2 HH hn hsm
   have k3 := fun HH => own_frzl (c_mcloseExits t cl l cx (stOf t (resOf (runP t p))).1 HH hx hst)
   rw [crR_of hv hx]
   generalize resM (closeX t l (stOf t (resOf (runP t p))).1) = R2 at k3 hl2
   generalize stOf t (resOf (runP t p)) = st at k2 k3
   generalize resOf (runP t p) = R1 at k1 k2 hl1
   generalize hRR : joinR R1 R2 = RR
   unfold joinR at hRR
   simp +contextual -dsimp -implicitDefEqProofs (maxSteps:=5000000) only [go_sem,reduceIte,reduceCtorEq,Nat.reduceEqDiff,Nat.reduceBEq,Nat.reduceAdd,Nat.reduceLeDiff,Nat.reduceMul,Nat.reduceLT,Int.reduceEq,Int.reduceLT,Int.reduceLE]
   refine (k1 _).mono ?_
   rintro _ H1 ⟨c1, xh1, rfl, hg1⟩
   obtain ⟨G1, ga1, rfl, n6⟩ := grow_out hg1 hb6
   obtain ⟨o1, o2⟩ := one_grow ga1
   obtain ⟨c2, z2⟩ := ownH_froz (c1 := c1) (R := R1) ga1
   simp +contextual -dsimp -implicitDefEqProofs (maxSteps:=5000000) only [go_sem,reduceIte,reduceCtorEq,Nat.reduceEqDiff,Nat.reduceBEq,Nat.reduceAdd,Nat.reduceLeDiff,Nat.reduceMul,Nat.reduceLT,Int.reduceEq,Int.reduceLT,Int.reduceLE,o1,o2]
   rintro b7 hb7
   refine acalls_borrowX [aTree t cl, aRes R1 c1 c2] (.cons (.same _) (.cons (froz_le z2 (le_set n6)) .nil)) (k2 c1 c2 _) ?_
   rintro _ _ ⟨rfl, rfl⟩
   refine ⟨nov_start _ _, fun b kb h => (none_at h).elim, fun _ => ?_⟩
   rw [un_none]
   simp +contextual -dsimp -implicitDefEqProofs (maxSteps:=5000000) only [go_sem,reduceIte,reduceCtorEq,Nat.reduceEqDiff,Nat.reduceBEq,Nat.reduceAdd,Nat.reduceLeDiff,Nat.reduceMul,Nat.reduceLT,Int.reduceEq,Int.reduceLT,Int.reduceLE,o1,o2]
   rintro b8 hb8
   refine (k3 _).mono ?_
   rintro _ H3 ⟨c3, xh3, rfl, hg3⟩
   obtain ⟨G3, ga3, rfl, n63⟩ := grow_out hg3 n6
   obtain ⟨o3, o4⟩ := one_grow ga3
   simp +contextual -dsimp -implicitDefEqProofs (maxSteps:=5000000) only [go_sem,reduceIte,reduceCtorEq,Nat.reduceEqDiff,Nat.reduceBEq,Nat.reduceAdd,Nat.reduceLeDiff,Nat.reduceMul,Nat.reduceLT,Int.reduceEq,Int.reduceLT,Int.reduceLE,o1,o2,o3,o4]
   rintro b10 ⟨p1, p2, hb10⟩
   have hb10' : ∀ K, (G3.set b6 K) b10 = none := fun K => by rw [set_other p1]; exact hb10
   refine (c_ConcatI [(R1.log, c1), (R2.log, c3)] true _ (by simp [segsI]; omega)).mono ?_
   intro x Hx hgx
   simp +contextual -dsimp -implicitDefEqProofs (maxSteps:=5000000) only [go_sem,reduceIte,reduceCtorEq,Nat.reduceEqDiff,Nat.reduceBEq,Nat.reduceAdd,Nat.reduceLeDiff,Nat.reduceMul,Nat.reduceLT,Int.reduceEq,Int.reduceLT,Int.reduceLE,o1,o2,o3,o4,p1,p2]
   refine (c_ClipG _ _ _ _ hgx).mono ?_
   intro x2 Hx2 hgx2
   have hseg : segsI [(R1.log, c1), (R2.log, c3)] = R1.log ++ R2.log := by simp [segsI]
   rw [hseg] at hgx2
   obtain ⟨A1, hA, rfl, m10⟩ := grow_out hgx2 (hb10' _)
   obtain ⟨A2, hB, rfl, m6⟩ := grow_out hA n63
   obtain ⟨o5, o6⟩ := one_grow hB
   have m10' : A2 b10 = none := by rw [set_other p1] at m10; exact m10
   have fin : ∀ (B : AHeap) K6 K10, AHeap.le B A2 → AHeap.le B ((A2.set b6 K6).set b10 K10) := fun B K6 K10 h => AHeap.le_trans h (le_s1 (le_set m6) m10')
   have keep1 : ∃ B, OwnRes H B (.agg [x2, I R1.ed, I R1.val, xh1]) ⟨R1.log ++ R2.log, R1.ed, R1.val, R1.heap⟩ ∧ AHeap.le B A2 := by
    obtain ⟨B1, q1, q2⟩ := grow_swap ga3 hB
    obtain ⟨B2, q3, q4⟩ := grow_swap ga1 q1
    exact ⟨B1, ⟨x2, xh1, B2, rfl, q3, q4⟩, grow_le q2⟩
   have keep2 : ∃ B, OwnRes H B (.agg [x2, I R2.ed, I R2.val, xh3]) ⟨R1.log ++ R2.log, R2.ed, R2.val, R2.heap⟩ ∧ AHeap.le B A2 := by
    obtain ⟨B1, q1, q2⟩ := grow_swap ga1 ga3
    obtain ⟨B2, q3, q4⟩ := grow_swap q2 hB
    obtain ⟨B3, q5, q6⟩ := grow_swap q1 q3
    exact ⟨B2, ⟨x2, xh3, B3, rfl, q5, q6⟩, grow_le q4⟩
   by_cases e1 : R1.ed = 1
   ·by_cases e2 : R2.ed = 0
    ·obtain ⟨B, hown, hle⟩ := keep1
     simp +contextual -dsimp -implicitDefEqProofs (maxSteps:=5000000) only [go_sem,reduceIte,reduceCtorEq,Nat.reduceEqDiff,Nat.reduceBEq,Nat.reduceAdd,Nat.reduceLeDiff,Nat.reduceMul,Nat.reduceLT,Int.reduceEq,Int.reduceLT,Int.reduceLE,o1,o2,o3,o4,o5,o6,p1,p2,e1,e2]
     refine draw_intro [0, 0, 0, 1, 0, 1, 0, 3, 0, 3, 0, 2] AHeap.none (by kernel_rfl) none_le ?_
     simp +contextual -dsimp -implicitDefEqProofs (maxSteps:=5000000) only [go_sem,reduceIte,reduceCtorEq,Nat.reduceEqDiff,Nat.reduceBEq,Nat.reduceAdd,Nat.reduceLeDiff,Nat.reduceMul,Nat.reduceLT,Int.reduceEq,Int.reduceLT,Int.reduceLE,o1,o2,o3,o4,o5,o6,p1,p2,e1,e2]
     refine retR_less (l := [.agg [x2, I R1.ed, I R1.val, xh1]]) (H' := B) ?_ (fin B _ _ hle) ?_
     ·simp only [resA,go_sem,reduceIte,reduceCtorEq,Nat.reduceEqDiff,Nat.reduceBEq,Nat.reduceAdd,Nat.reduceLeDiff,Nat.reduceMul,Nat.reduceLT,Int.reduceEq,Int.reduceLT,Int.reduceLE,o1,o2,o3,o4,o5,o6,p1,p2,e1,e2]
     ·rw [← hRR, if_pos ⟨e1, e2⟩]; exact hown
    ·obtain ⟨B, hown, hle⟩ := keep2
     simp +contextual -dsimp -implicitDefEqProofs (maxSteps:=5000000) only [go_sem,reduceIte,reduceCtorEq,Nat.reduceEqDiff,Nat.reduceBEq,Nat.reduceAdd,Nat.reduceLeDiff,Nat.reduceMul,Nat.reduceLT,Int.reduceEq,Int.reduceLT,Int.reduceLE,o1,o2,o3,o4,o5,o6,p1,p2,e1,e2]
     refine retR_less (l := [.agg [x2, I R2.ed, I R2.val, xh3]]) (H' := B) ?_ (fin B _ _ hle) ?_
     ·simp only [resA,go_sem,reduceIte,reduceCtorEq,Nat.reduceEqDiff,Nat.reduceBEq,Nat.reduceAdd,Nat.reduceLeDiff,Nat.reduceMul,Nat.reduceLT,Int.reduceEq,Int.reduceLT,Int.reduceLE,o1,o2,o3,o4,o5,o6,p1,p2,e1,e2]
     ·rw [← hRR, if_neg (fun w => e2 w.2)]; exact hown
   ·obtain ⟨B, hown, hle⟩ := keep2
    simp +contextual -dsimp -implicitDefEqProofs (maxSteps:=5000000) only [go_sem,reduceIte,reduceCtorEq,Nat.reduceEqDiff,Nat.reduceBEq,Nat.reduceAdd,Nat.reduceLeDiff,Nat.reduceMul,Nat.reduceLT,Int.reduceEq,Int.reduceLT,Int.reduceLE,o1,o2,o3,o4,o5,o6,p1,p2,e1]
    refine retR_less (l := [.agg [x2, I R2.ed, I R2.val, xh3]]) (H' := B) ?_ (fin B _ _ hle) ?_
    ·simp only [resA,go_sem,reduceIte,reduceCtorEq,Nat.reduceEqDiff,Nat.reduceBEq,Nat.reduceAdd,Nat.reduceLeDiff,Nat.reduceMul,Nat.reduceLT,Int.reduceEq,Int.reduceLT,Int.reduceLE,o1,o2,o3,o4,o5,o6,p1,p2,e1]
    ·rw [← hRR, if_neg (fun w => e1 w.1)]; exact hown
end
section
open Go Go.Sim
set_option maxRecDepth 100000
set_option maxHeartbeats 4000000

theorem cr_small (t : List Class) (p : List Line) (l : List Exi) : (crR t p l).log.length ≤ 1000000 ∧ (crR t p l).heap.length ≤ 1000000 := by
 unfold crR
 split
 ·rename_i h
  rw [Bool.and_eq_true] at h
  have hval := validB_true.1 h.1
  have hst := (st_oks hval).1
  have hl1 := res_len3 hval
  have hl2 := close_log1 h.2 hst
  have h4 := close_heap1 h.2 hst
  have h5 := heap_small hval
  rw [crF_log, List.length_append]
  refine ⟨by omega, ?_⟩
  unfold crF
  split
  ·exact h5
  ·show (resM _).heap.length ≤ _
   omega
 ·exact ⟨by decide, by decide⟩
end
section
open Go Go.Sim
set_option maxRecDepth 100000
set_option maxHeartbeats 4000000
theorem log9 {t : List Class} : resOf (runP t [⟨0, 1, 9, 0⟩]) = ⟨[9], 0, 0, []⟩ := by
 have e : forestP [⟨0, 1, 9, 0⟩] = .node 1 9 0 .nil .nil := by
  have := forestP_flat (.node 1 9 0 .nil .nil)
  exact this
 unfold runP
 rw [e]
 rfl

theorem c_LawCloseRunFinally (bs : List UInt8) (cb : Bool) (H : AHeap) : ACalls Tryz.prog 3 [.vsl (bs.map rU) cb] H fun r H' => r = B true ∧ H' = H := by
 have ers : ∀ R : Res, resEq R R = true := fun R => by simp [resEq]
 refine acalls_of1 Tryz.func3 rfl (by kernel_rfl) rfl rfl (awp_sound (fz := fun r => if r = 3 then [3] else if r = 4 then [5] else if r = 10 then [8] else if r = 11 then [9] else if r = 12 then [10] else if r = 13 then [12] else []) (im := fun s => s == 46 || s == 58) mixed _ _ _ _ (by kernel_rfl) ?_)
 simp +contextual -dsimp -implicitDefEqProofs (maxSteps:=5000000) only [go_sem,reduceIte,reduceCtorEq,Nat.reduceEqDiff,Nat.reduceBEq,Nat.reduceAdd,Nat.reduceLeDiff,Nat.reduceMul,Nat.reduceLT,Int.reduceEq,Int.reduceLT,Int.reduceLE]
 refine ⟨fun hbig => ?_, fun hsmall => ?_⟩
 ·refine retR_less (l := [B true]) (H' := H) ?_ (AHeap.le_refl _) ⟨rfl, rfl⟩
  simp only [resA,go_sem,reduceIte,reduceCtorEq,Nat.reduceEqDiff,Nat.reduceBEq,Nat.reduceAdd,Nat.reduceLeDiff,Nat.reduceMul,Nat.reduceLT,Int.reduceEq,Int.reduceLT,Int.reduceLE]
 refine (c_DrawRunProgram H bs cb).mono ?_
 rintro _ H1 ⟨t, cl, p, cl', rfl, hH, hs, ht8, hp24⟩
 rw [hH]
 have hn := short_ok hs
 have hp : p.length ≤ 4398046511104 := by omega
 have k1 := fun H => own_frz (c_mRunProgram t cl p cl' H hn hp)
 have k2 := fun H => c_sRunProgram t cl p cl' H hn hp
 have hRv : ValidP t p → (if validB t p = true then resOf (runP t p) else res0) = resOf (runP t p) := fun h => by rw [if_pos (validB_true.2 h)]
 generalize (if validB t p = true then resOf (runP t p) else res0) = R at k1 k2 hRv
 simp +contextual -dsimp -implicitDefEqProofs (maxSteps:=5000000) only [go_sem,reduceIte,reduceCtorEq,Nat.reduceEqDiff,Nat.reduceBEq,Nat.reduceAdd,Nat.reduceLeDiff,Nat.reduceMul,Nat.reduceLT,Int.reduceEq,Int.reduceLT,Int.reduceLE]
 intro b3 hb3
 refine (k1 _).mono ?_
 rintro _ H ⟨⟨c3, c4, rfl⟩, rfl⟩
 simp +contextual -dsimp -implicitDefEqProofs (maxSteps:=5000000) only [go_sem,reduceIte,reduceCtorEq,Nat.reduceEqDiff,Nat.reduceBEq,Nat.reduceAdd,Nat.reduceLeDiff,Nat.reduceMul,Nat.reduceLT,Int.reduceEq,Int.reduceLT,Int.reduceLE]
 intro b5 hb5
 refine draw_intro [1, 0, 0, 3, 2, 0, 0, 0, 0, 2, 0, 0] AHeap.none (by kernel_rfl) none_le ?_
 simp +contextual -dsimp -implicitDefEqProofs (maxSteps:=5000000) only [go_sem,reduceIte,reduceCtorEq,Nat.reduceEqDiff,Nat.reduceBEq,Nat.reduceAdd,Nat.reduceLeDiff,Nat.reduceMul,Nat.reduceLT,Int.reduceEq,Int.reduceLT,Int.reduceLE]
 refine (k2 _).mono ?_
 rintro _ H ⟨⟨c5, c6, rfl⟩, rfl⟩
 simp +contextual -dsimp -implicitDefEqProofs (maxSteps:=5000000) only [go_sem,reduceIte,reduceCtorEq,Nat.reduceEqDiff,Nat.reduceBEq,Nat.reduceAdd,Nat.reduceLeDiff,Nat.reduceMul,Nat.reduceLT,Int.reduceEq,Int.reduceLT,Int.reduceLE]
 refine (c_equalResult _ _ _ _ _ _ _).det ?_
 rw [ers]
 simp +contextual -dsimp -implicitDefEqProofs (maxSteps:=5000000) only [go_sem,reduceIte,reduceCtorEq,Nat.reduceEqDiff,Nat.reduceBEq,Nat.reduceAdd,Nat.reduceLeDiff,Nat.reduceMul,Nat.reduceLT,Int.reduceEq,Int.reduceLT,Int.reduceLE]
 refine (c_ValidProgram t cl p cl' _ hn hp).det ?_
 cases hv : validB t p
 ·simp +contextual -dsimp -implicitDefEqProofs (maxSteps:=5000000) only [go_sem,reduceIte,reduceCtorEq,Nat.reduceEqDiff,Nat.reduceBEq,Nat.reduceAdd,Nat.reduceLeDiff,Nat.reduceMul,Nat.reduceLT,Int.reduceEq,Int.reduceLT,Int.reduceLE]
  refine draw_intro [1, 0, 0, 3, 2, 0] AHeap.none (by kernel_rfl) none_le ?_
  simp +contextual -dsimp -implicitDefEqProofs (maxSteps:=5000000) only [go_sem,reduceIte,reduceCtorEq,Nat.reduceEqDiff,Nat.reduceBEq,Nat.reduceAdd,Nat.reduceLeDiff,Nat.reduceMul,Nat.reduceLT,Int.reduceEq,Int.reduceLT,Int.reduceLE]
  refine (k2 _).mono ?_
  rintro _ H ⟨⟨c7, c8, rfl⟩, rfl⟩
  simp +contextual -dsimp -implicitDefEqProofs (maxSteps:=5000000) only [go_sem,reduceIte,reduceCtorEq,Nat.reduceEqDiff,Nat.reduceBEq,Nat.reduceAdd,Nat.reduceLeDiff,Nat.reduceMul,Nat.reduceLT,Int.reduceEq,Int.reduceLT,Int.reduceLE]
  refine (c_equalResult _ _ _ _ _ _ _).det ?_
  rw [ers]
  simp +contextual -dsimp -implicitDefEqProofs (maxSteps:=5000000) only [go_sem,reduceIte,reduceCtorEq,Nat.reduceEqDiff,Nat.reduceBEq,Nat.reduceAdd,Nat.reduceLeDiff,Nat.reduceMul,Nat.reduceLT,Int.reduceEq,Int.reduceLT,Int.reduceLE]
  refine retR_less (l := [B true]) (H' := H) ?_ (AHeap.le_refl _) ⟨rfl, rfl⟩
  simp only [resA,go_sem,reduceIte,reduceCtorEq,Nat.reduceEqDiff,Nat.reduceBEq,Nat.reduceAdd,Nat.reduceLeDiff,Nat.reduceMul,Nat.reduceLT,Int.reduceEq,Int.reduceLT,Int.reduceLE]
 ·have hval := validB_true.1 hv
  have eR := hRv hval
  subst eR
  obtain ⟨w1, w2, w3⟩ := cr_call hval
  have hvx : validX t [⟨0, 9, 0⟩] = true := by simp [validX, hval.1, exitOk, inR]
  have ecr : crR t p [⟨0, 9, 0⟩] = crF t p [⟨0, 9, 0⟩] := by unfold crR; rw [hv, hvx]; rfl
  have hsm := cr_small t p [⟨0, 9, 0⟩]
  have k3 := fun HH => own_frz (c_mCloseRun t cl p cl' [⟨0, 9, 0⟩] true HH hn hp)
  rw [ecr] at hsm k3
  simp +contextual -dsimp -implicitDefEqProofs (maxSteps:=5000000) only [go_sem,reduceIte,reduceCtorEq,Nat.reduceEqDiff,Nat.reduceBEq,Nat.reduceAdd,Nat.reduceLeDiff,Nat.reduceMul,Nat.reduceLT,Int.reduceEq,Int.reduceLT,Int.reduceLE]
  refine (c_mWithFinally t cl p [⟨0, 1, 9, 0⟩] cl' true _ hn (by omega) (by decide)).mono ?_
  rintro _ H ⟨⟨d, rfl⟩, rfl⟩
  cases hb : mkB (validB t p && validB t [⟨0, 1, 9, 0⟩]) t (finP p [⟨0, 1, 9, 0⟩])
  ·simp +contextual -dsimp -implicitDefEqProofs (maxSteps:=5000000) only [go_sem,reduceIte,reduceCtorEq,Nat.reduceEqDiff,Nat.reduceBEq,Nat.reduceAdd,Nat.reduceLeDiff,Nat.reduceMul,Nat.reduceLT,Int.reduceEq,Int.reduceLT,Int.reduceLE]
   refine retR_less (l := [B true]) (H' := H) ?_ (AHeap.le_refl _) ⟨rfl, rfl⟩
   simp only [resA,go_sem,reduceIte,reduceCtorEq,Nat.reduceEqDiff,Nat.reduceBEq,Nat.reduceAdd,Nat.reduceLeDiff,Nat.reduceMul,Nat.reduceLT,Int.reduceEq,Int.reduceLT,Int.reduceLE]
  obtain ⟨hvb, hv3, hvb3, emk⟩ := mk_true hb
  rw [Bool.and_eq_true] at hvb
  have hv2 := validB_true.1 hvb.2
  rw [emk]
  obtain ⟨_, g2⟩ := fin_law hval hv2 hv3
  obtain ⟨g3, g4, _⟩ := g2 (by intro x hx; simp at hx; subst hx; decide)
  obtain ⟨g5, g6, g7⟩ := g4 (by rw [log9])
  rw [log9] at g3
  have hst : stOf t (resOf (runP t (finP p [⟨0, 1, 9, 0⟩]))) = stOf t (resOf (runP t p)) := by unfold stOf; rw [g5, g6, g7]
  have hsm3 := heap_small hv3
  have k4 := fun HH => c_mRun t cl (finP p [⟨0, 1, 9, 0⟩]) d HH hn (by simp [finP, innP]; split <;> simp <;> omega) hvb3
  generalize resOf (runP t (finP p [⟨0, 1, 9, 0⟩])) = Ra at g3 g5 g6 g7 hst hsm3 k4
  generalize crF t p [⟨0, 9, 0⟩] = Rb at w1 w2 w3 hsm k3
  generalize resOf (runP t p) = R at w1 w2 w3 g3 g5 g6 g7 hst
  have e1 : Ra.log = Rb.log := by rw [g3, w1]
  have e2 : Ra.ed = Rb.ed := by rw [g5, w2]
  simp +contextual -dsimp -implicitDefEqProofs (maxSteps:=5000000) only [go_sem,reduceIte,reduceCtorEq,Nat.reduceEqDiff,Nat.reduceBEq,Nat.reduceAdd,Nat.reduceLeDiff,Nat.reduceMul,Nat.reduceLT,Int.reduceEq,Int.reduceLT,Int.reduceLE]
  refine (k4 _).mono ?_
  rintro _ H ⟨⟨c5, c6, rfl⟩, rfl⟩
  simp +contextual -dsimp -implicitDefEqProofs (maxSteps:=5000000) only [go_sem,reduceIte,reduceCtorEq,Nat.reduceEqDiff,Nat.reduceBEq,Nat.reduceAdd,Nat.reduceLeDiff,Nat.reduceMul,Nat.reduceLT,Int.reduceEq,Int.reduceLT,Int.reduceLE]
  intro b8 hb8
  refine (k3 _).mono ?_
  rintro _ H ⟨⟨c7, c8, rfl⟩, rfl⟩
  simp +contextual -dsimp -implicitDefEqProofs (maxSteps:=5000000) only [go_sem,reduceIte,reduceCtorEq,Nat.reduceEqDiff,Nat.reduceBEq,Nat.reduceAdd,Nat.reduceLeDiff,Nat.reduceMul,Nat.reduceLT,Int.reduceEq,Int.reduceLT,Int.reduceLE]
  intro b9 hb9
  refine (c_mStartOf t cl Ra c5 c6 _ hn hsm3).det ?_
  simp +contextual -dsimp -implicitDefEqProofs (maxSteps:=5000000) only [go_sem,reduceIte,reduceCtorEq,Nat.reduceEqDiff,Nat.reduceBEq,Nat.reduceAdd,Nat.reduceLeDiff,Nat.reduceMul,Nat.reduceLT,Int.reduceEq,Int.reduceLT,Int.reduceLE]
  intro b10 hb10
  refine (c_mStartOf t cl Rb c7 c8 _ hn (by omega)).det ?_
  rw [w3, hst]
  simp +contextual -dsimp -implicitDefEqProofs (maxSteps:=5000000) only [go_sem,reduceIte,reduceCtorEq,Nat.reduceEqDiff,Nat.reduceBEq,Nat.reduceAdd,Nat.reduceLeDiff,Nat.reduceMul,Nat.reduceLT,Int.reduceEq,Int.reduceLT,Int.reduceLE]
  intro b12 hb12
  refine (c_equalInts _ _ _ _ _).det ?_
  rw [decide_eq_true e1]
  simp +contextual -dsimp -implicitDefEqProofs (maxSteps:=5000000) only [go_sem,reduceIte,reduceCtorEq,Nat.reduceEqDiff,Nat.reduceBEq,Nat.reduceAdd,Nat.reduceLeDiff,Nat.reduceMul,Nat.reduceLT,Int.reduceEq,Int.reduceLT,Int.reduceLE,e2,w2]
  refine retR_less (l := [B true]) (H' := H) ?_ (AHeap.le_refl _) ⟨rfl, rfl⟩
  simp only [resA,go_sem,reduceIte,reduceCtorEq,Nat.reduceEqDiff,Nat.reduceBEq,Nat.reduceAdd,Nat.reduceLeDiff,Nat.reduceMul,Nat.reduceLT,Int.reduceEq,Int.reduceLT,Int.reduceLE,e2,w2]
end
end
end Go.Proofs.YtjpfgafdjlkblaaGreat
