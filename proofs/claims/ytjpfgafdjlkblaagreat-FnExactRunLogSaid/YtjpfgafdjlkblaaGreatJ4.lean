/- Walks and plain laws that the claims of this seat lean on. No condition. -/
import Derived.Test.YtjpfgafdjlkblaaGreatJ3
set_option linter.unusedVariables false
set_option linter.unusedSimpArgs false
namespace Go.Proofs.YtjpfgafdjlkblaaGreat
open Go Go.Sim
section
set_option maxRecDepth 100000
attribute [local go_sem ↓] aw_skip aw_ret aw_exit aw_region aw_draw aw_seq aw_block aw_loop aw_cond frz_nil frz_cons sq_normal sq_ret sq_exit exB_normal exB_ret exB_same exB_other retQ_ret retQ_normal ret0_ret ret0_normal ao_nil go1 g_move g_assign g_pick g_build g_load g_binOp g_unOp g_convert g_fieldAddr g_field g_indexAddr g_index g_extract g_lookup g_slice g_nilCheck g_len g_makeFunc h_call h_append h_alloc h_box h_buildSlice h_makeSlice h_store gV i_box i_buildSlice i_move i_assign i_build i_load i_binOp i_unOp i_convert i_fieldAddr i_field i_indexAddr i_index i_extract i_lookup i_makeMap i_mapUpdate i_slice i_nilCheck i_makeFunc i_len i_max i_min i_alloc i_makeSlice i_store i_append i_call i_pick boxI boxA buildSliceI buildSliceA makeSliceA makeMapA allocA storeA p_move p_assign p_pick p_build p_load p_binOp p_unOp p_convert p_fieldAddr p_field p_indexAddr p_index p_extract p_lookup p_makeMap p_mapUpdate p_slice p_nilCheck p_makeFunc p_len p_max p_min p_alloc p_box p_buildSlice p_makeSlice p_store p_append p_call x_nil x_go1 x_g0 x_g1 x_g2 x_g3 x_s0 x_s1 x_s2 x_s3 u_move u_assign u_pick u_build u_load u_binOp u_unOp u_convert u_fieldAddr u_field u_indexAddr u_index u_extract u_lookup u_slice u_nilCheck u_makeFunc u_len u_buildSlice x_s4 x_g4 rq_normal rq_ret rq_exit aw_range
attribute [local go_sem] frzV_sl frzK_some set_none set_other AHeap.set_self set_del set_set cnd_t cnd_f cnd_b retA_one retA_two retA_three retA_four retA_nil gIf_b mrgV_b mrgV_wh mrgV_U gIf_U gIf_wh mrgB_f mrgB_some mrgB_if wh_true wh_false keepA_some keepA_if gD_zero gD_succ gT_some bxA_t bxA_f callA_fn ev_tmp ev_const ev_global ev_func oc_bool oc_int oc_string oc_nil oc_nilptr oc_nilfunc cl_bool cl_int cl_string cl_nil updO_some updO_none upd_same upd_other init_at pickA_b pickA_wh selA_t selA_f selA_and selA_or selA_orn selA_orm selA_bb selA_ii beqt b_add b_sub b_mul b_and b_or b_xor b_eql b_neq b_lss b_leq b_gtr b_geq b_quo b_rem b_shr b_seql b_sneq b_sadd b_beql b_bneq b_aeql b_aneq u_not u_neg isConstOp eqA eqCellV List.getD_cons_zero List.getD_cons_succ List.map_cons List.map_nil List.nil_append List.cons_append List.append_nil if_true if_false Option.map_some Option.map_none ne_eq not_false_eq_true oneA ldv ld1v ld1s wr1s ldRow stRow row_lit row_agg row_vsl row_sl row_ptr row_fn one_I one_B one_S one_vsl one_sl one_ptr one_fn extractA okA rI rS rU rClass rFault rExit rStart rLine Int.toNat_natCast List.length_cons List.length_nil List.length_map List.all_cons List.all_nil Bool.and_true Nat.zero_add List.getElem?_cons_zero List.getElem?_cons_succ List.take_succ_cons List.take_zero List.drop_succ_cons List.drop_zero and_self true_and and_true implies_true decide_eq_true_eq decide_eq_false_iff_not Bool.or_eq_true Bool.or_eq_false_iff Bool.and_eq_true Bool.not_eq_true' Bool.not_eq_false' beq_false decide_true decide_false Int.ofNat_lt Int.ofNat_le Int.natCast_nonneg Bool.or_true Bool.or_false Bool.true_or Bool.false_or beq_self_eq_true List.drop_one Bool.not_true Bool.not_false Bool.not_not Bool.false_eq_true Bool.true_eq_false false_implies true_implies Bool.true_and Bool.false_and Bool.and_false not_true_eq_false Int.natCast_eq_zero Int.natCast_pos Int.natCast_zero false_and and_false or_false false_or or_true true_or Bool.or_self none_le_iff List.replicate_zero Int.toNat_zero List.replicate_succ buildRows List.set_cons_zero List.set_cons_succ List.set_nil List.mapM_nil maxLen_eq Nat.zero_le Nat.mul_one Nat.one_mul bldA fillA spliceA List.take_nil List.drop_nil List.getElem?_nil ld1o wr1o bldSliceA le_same cv_i cvI_t quietT_fn qvd_some ld_o ldO_1 ldO_l wr_o wrO_1 set_2 set_3 set_4 putL_nil putL_cons List.zip_cons_cons List.zip_nil_left List.zip_nil_right List.toList_toArray frzV_set ti1 ti2 tk2 ti3 te3 ts3 tk3 tz3 ti4 tb4 ti5 tk5 tz5 ti9 te9 ts9 tk9 tz9 ti12 tk12 ti13 tp13 tf13_0 tf13_1 ti20 ti21 tk21 tz21 ti22 te22 tz22 ti23 te23 ti24 tp24 tf24_0 ti25 tp25 tf25_0 ti26 te26 ti28 ti29 te29 ti30 te30 ti31 tp31 tf31_0 ti32 tp32 tf32_0 ti33 tp33 tf33_0 tf33_1 tf33_2 tf33_3 ti34 tp34 tf34_0 tf34_1 tf34_2 tf34_3 ti35 ti36 ti37 ti39 ti40 tq40 tp40 tf40_0 tf40_1 tf40_2 tf40_3 ti41 tq41 tp41 tf41_0 tf41_1 tf41_2 tf41_3 ti42 ti43 tq43 tp43 tf43_0 tf43_1 tf43_2 ti44 tq44 tp44 tf44_0 tf44_1 tf44_2 ti45 te45 ti46 tq46 tp46 tf46_0 tf46_1 tf46_2 ti47 tq47 tp47 tf47_0 tf47_1 tf47_2 ti49 ti50 ti51 ti53 ti54 ti55 ti56 te56 ti57 tp57 tf57_0 ti58 tp58 tf58_0 ti59 te59 ti60 ti61 ti62 ti63 ti64 ti65 ti66 ti67 ti68 ti69 ti70 ti71 te71 ti72 tq72 tp72 tf72_0 tf72_1 tf72_2 ti73 ti74 ti75 ti76 ti77 ti78 ti79 ti80 ti81 ti82 ti83 ti84 ti85 ti86 ti87 tq87 tp87 tf87_0 tf87_1 ti88 tq88 tp88 tf88_0 tf88_1 ti89 ti90 ti91 ti92 ti93 ti94 ti95 ti96 ti97 ti98 ti99 ti100 ti101 ti102 tq102 tp102 tf102_0 tf102_1 tf102_2 tf102_3 tf102_4 ti103 tq103 tp103 tf103_0 tf103_1 tf103_2 tf103_3 tf103_4 ti104 ti105 ti106 ti107 ti108 ti109 ti110 ti111 ti112 ti113 tq113 tp113 tf113_0 tf113_1 tf113_2 tf113_3 ti114 ti115 ti116 ti117 ti118 ti119 ti120 tq120 tp120 tf120_0 tf120_1 tf120_2 ti121 ti122 ti123 ti124 ti125 ti126 tp126 tf126_0 tf126_1 ti127 tp127 tf127_0 tf127_1 ti128 tp128 tf128_0 tf128_1 tf128_2 tf128_3 tf128_4 ti129 tp129 tf129_0 tf129_1 tf129_2 tf129_3 tf129_4 ti131 ti132 ti133 ti134 ti135 ti136 ti137 tp137 tf137_0 tf137_1 tf137_2 tf137_3 ti138 tp138 tf138_0 tf138_1 tf138_2 tf138_3 ti139 tq139 tp139 tf139_0 tf139_1 ti140 tq140 tp140 tf140_0 tf140_1 ti141 ti142 ti143 tq143 tp143 tf143_0 tf143_1 ti144 tq144 tp144 tf144_0 tf144_1 ti145 ti146 ti147 ti148 ti149 te149 ti150 ti151 te151 ti152 ti153 ti154 ti155 ti156 ti157 ti158 tp158 tf158_0 tf158_1 tf158_2 ti159 tp159 tf159_0 tf159_1 tf159_2 ti160 ti161 ti162 ti163 ti164 ti165 ti166 ti167 ti168 ti169 tq169 tp169 tf169_0 tf169_1 ti170 ti171 ti172 ti173 ti174 ti175 ti176 ti177 te177 ti178 ti179 ti180 ti181 ti182 ti183 ti184 ti185 ti186 ti187 ti188 ti189 ti190 ti191 ti192 ti193 ti194 ti195 ti196 ti197 ti198 ti199 ti200 ti201 ti202 ti203 ti204 ti205 tk205 tz205 ti206 ti207 ti208 ti209 tk209 ti211 ti212 ti213 ti215 ti216 ti217 tk217 tz217 ti218 ti219 tk219 tz219 ti220 tk220 ti221 ti222 ti223 ti224 ti225 ti226 ti228 ti229 ti235 ti239 ti244 fp13_0 fv13_0 fp13_1 fv13_1 fp24_0 fv24_0 fp25_0 fv25_0 fp31_0 fv31_0 fp32_0 fv32_0 fp33_0 fv33_0 fp33_1 fv33_1 fp33_2 fv33_2 fp33_3 fv33_3 fp34_0 fv34_0 fp34_1 fv34_1 fp34_2 fv34_2 fp34_3 fv34_3 fp40_0 fv40_0 fp40_1 fv40_1 fp40_2 fv40_2 fp40_3 fv40_3 fp41_0 fv41_0 fp41_1 fv41_1 fp41_2 fv41_2 fp41_3 fv41_3 fp43_0 fv43_0 fp43_1 fv43_1 fp43_2 fv43_2 fp44_0 fv44_0 fp44_1 fv44_1 fp44_2 fv44_2 fp46_0 fv46_0 fp46_1 fv46_1 fp46_2 fv46_2 fp47_0 fv47_0 fp47_1 fv47_1 fp47_2 fv47_2 fp57_0 fv57_0 fp58_0 fv58_0 fp72_0 fv72_0 fp72_1 fv72_1 fp72_2 fv72_2 fp87_0 fv87_0 fp87_1 fv87_1 fp88_0 fv88_0 fp88_1 fv88_1 fp102_0 fv102_0 fp102_1 fv102_1 fp102_2 fv102_2 fp102_3 fv102_3 fp102_4 fv102_4 fp103_0 fv103_0 fp103_1 fv103_1 fp103_2 fv103_2 fp103_3 fv103_3 fp103_4 fv103_4 fp113_0 fv113_0 fp113_1 fv113_1 fp113_2 fv113_2 fp113_3 fv113_3 fp120_0 fv120_0 fp120_1 fv120_1 fp120_2 fv120_2 fp126_0 fv126_0 fp126_1 fv126_1 fp127_0 fv127_0 fp127_1 fv127_1 fp128_0 fv128_0 fp128_1 fv128_1 fp128_2 fv128_2 fp128_3 fv128_3 fp128_4 fv128_4 fp129_0 fv129_0 fp129_1 fv129_1 fp129_2 fv129_2 fp129_3 fv129_3 fp129_4 fv129_4 fp137_0 fv137_0 fp137_1 fv137_1 fp137_2 fv137_2 fp137_3 fv137_3 fp138_0 fv138_0 fp138_1 fv138_1 fp138_2 fv138_2 fp138_3 fv138_3 fp139_0 fv139_0 fp139_1 fv139_1 fp140_0 fv140_0 fp140_1 fv140_1 fp143_0 fv143_0 fp143_1 fv143_1 fp144_0 fv144_0 fp144_1 fv144_1 fp158_0 fv158_0 fp158_1 fv158_1 fp158_2 fv158_2 fp159_0 fv159_0 fp159_1 fv159_1 fp159_2 fv159_2 fp169_0 fv169_0 fp169_1 fv169_1 lv22 ll22 is22 ix22 sh22 so22 sb22 sm22 sp22 lv23 ll23 is23 ix23 sh23 so23 sb23 sm23 sp23 lv26 ll26 is26 ix26 sh26 so26 sb26 sm26 sp26 lv29 ll29 is29 ix29 sh29 so29 sb29 sm29 sp29 lv30 ll30 is30 ix30 sh30 so30 sb30 sm30 sp30 lv45 ll45 is45 ix45 sh45 so45 sb45 sm45 sp45 lv56 ll56 is56 sp56 lv59 ll59 is59 sp59 lv71 ll71 is71 sp71 lv149 ll149 is149 sp149 lv151 ll151 is151 sp151 lv177 ll177 is177 ix177 sh177 so177 sb177 sm177 sp177 xs9 ls9 sx9 sy9 sz9
section
open Go Go.Sim
set_option maxRecDepth 100000
set_option maxHeartbeats 4000000

theorem c_inLoop (p : List Line) (cl : Bool) (i : Nat) (H : AHeap) (hi : i < p.length) : ACalls Tryz.prog 144 [aProg p cl, I i] H fun r H' => r = B (inLoopR (p.getD i default).depth (upto p i)) ∧ H' = H := by
  refine acalls_len (by kernel_rfl) (List.mem_cons_self ..) fun hl => ?_
  rw [List.length_map] at hl
  refine acalls_of0 Tryz.func144 rfl (by kernel_rfl) rfl rfl (awp_sound (fz := fun _ => []) (im := fun _ => false) mixed _ _ _ _ (by kernel_rfl) ?_)
  simp +contextual -dsimp -implicitDefEqProofs (maxSteps := 5000000) only [go_sem, reduceIte, reduceCtorEq, Nat.reduceEqDiff, Nat.reduceBEq, Nat.reduceAdd, Nat.reduceLeDiff, Nat.reduceMul, Nat.reduceLT, Int.reduceEq, Int.reduceLT, Int.reduceLE, hi]
  refine aloop mixed (fz := fun _ => []) (im := fun _ => false) (by kernel_rfl) (fun m tm H' => ∃ (dd : Int), m ≤ i ∧ H' = H ∧ tm 0 = aProg p cl ∧ tm 5 = I dd ∧ tm 6 = I ((m : Int) - 1) ∧ inLoopR dd (upto p m) = inLoopR (p.getD i default).depth (upto p i)) i ⟨(p.getD i default).depth, Nat.le_refl _, rfl, ?_⟩ ?_
  · simp +contextual -dsimp -implicitDefEqProofs (maxSteps := 5000000) only [go_sem, reduceIte, reduceCtorEq, Nat.reduceEqDiff, Nat.reduceBEq, Nat.reduceAdd, Nat.reduceLeDiff, Nat.reduceMul, Nat.reduceLT, Int.reduceEq, Int.reduceLT, Int.reduceLE]
    exact I_wrap (by omega) (by omega) (by omega)
  · rintro m tm H ⟨dd, hk, rfl, t0, t5, t6, he⟩
    cases m with
    | zero =>
      have z : ¬ (0 : Int) ≤ 0 - 1 := by omega
      simp +contextual -dsimp -implicitDefEqProofs (maxSteps := 5000000) only [go_sem, reduceIte, reduceCtorEq, Nat.reduceEqDiff, Nat.reduceBEq, Nat.reduceAdd, Nat.reduceLeDiff, Nat.reduceMul, Nat.reduceLT, Int.reduceEq, Int.reduceLT, Int.reduceLE, t0, t5, t6, z]
      rw [← he]; rfl
    | succ k =>
      have hkp : k < p.length := by omega
      rw [upto_succ hkp] at he
      simp only [inLoopR] at he
      have e1 : (((k + 1 : Nat) : Int)) - 1 = (k : Int) := by omega
      simp +contextual -dsimp -implicitDefEqProofs (maxSteps := 5000000) only [go_sem, reduceIte, reduceCtorEq, Nat.reduceEqDiff, Nat.reduceBEq, Nat.reduceAdd, Nat.reduceLeDiff, Nat.reduceMul, Nat.reduceLT, Int.reduceEq, Int.reduceLT, Int.reduceLE, t0, t5, t6, e1, hkp]
      refine ⟨fun q => ?_, fun q => ?_⟩
      · rw [if_pos q] at he
        refine ⟨fun q2 => by rw [← he, decide_eq_true q2]; rfl, fun q2 => ⟨k, by omega, _, by omega, rfl, I_wrap (by omega) (by omega) (by omega), ?_⟩⟩
        rw [← he, decide_eq_false q2]; rfl
      · rw [if_neg q] at he
        exact ⟨k, by omega, _, by omega, rfl, I_wrap (by omega) (by omega) (by omega), he⟩
theorem c_headOf (p : List Line) (cl : Bool) (i : Nat) (H : AHeap) (hi : i < p.length) : ACalls Tryz.prog 146 [aProg p cl, I i] H fun r H' => ∃ v : Int, r = I v ∧ H' = H ∧ ((v = -1 ∧ headR (p.getD i default).depth (upto p i) = none) ∨ ∃ k : Nat, v = k ∧ k < p.length ∧ headR (p.getD i default).depth (upto p i) = some (p.getD k default)) := by
  refine acalls_len (by kernel_rfl) (List.mem_cons_self ..) fun hl => ?_
  rw [List.length_map] at hl
  refine acalls_of0 Tryz.func146 rfl (by kernel_rfl) rfl rfl (awp_sound (fz := fun _ => []) (im := fun _ => false) mixed _ _ _ _ (by kernel_rfl) ?_)
  simp +contextual -dsimp -implicitDefEqProofs (maxSteps := 5000000) only [go_sem, reduceIte, reduceCtorEq, Nat.reduceEqDiff, Nat.reduceBEq, Nat.reduceAdd, Nat.reduceLeDiff, Nat.reduceMul, Nat.reduceLT, Int.reduceEq, Int.reduceLT, Int.reduceLE, hi]
  refine aloop mixed (fz := fun _ => []) (im := fun _ => false) (by kernel_rfl) (fun m tm H' => m ≤ i ∧ H' = H ∧ tm 0 = aProg p cl ∧ tm 1 = I i ∧ tm 5 = I ((m : Int) - 1) ∧ headR (p.getD i default).depth (upto p m) = headR (p.getD i default).depth (upto p i)) i ⟨Nat.le_refl _, rfl, ?_⟩ ?_
  · simp +contextual -dsimp -implicitDefEqProofs (maxSteps := 5000000) only [go_sem, reduceIte, reduceCtorEq, Nat.reduceEqDiff, Nat.reduceBEq, Nat.reduceAdd, Nat.reduceLeDiff, Nat.reduceMul, Nat.reduceLT, Int.reduceEq, Int.reduceLT, Int.reduceLE]
    exact I_wrap (by omega) (by omega) (by omega)
  · rintro m tm H ⟨hk, rfl, t0, t1, t5, he⟩
    cases m with
    | zero =>
      have z : ¬ (0 : Int) ≤ 0 - 1 := by omega
      simp +contextual -dsimp -implicitDefEqProofs (maxSteps := 5000000) only [go_sem, reduceIte, reduceCtorEq, Nat.reduceEqDiff, Nat.reduceBEq, Nat.reduceAdd, Nat.reduceLeDiff, Nat.reduceMul, Nat.reduceLT, Int.reduceEq, Int.reduceLT, Int.reduceLE, t0, t1, t5, z]
      exact ⟨-1, rfl, .inl ⟨rfl, he.symm⟩⟩
    | succ k =>
      have hkp : k < p.length := by omega
      rw [upto_succ hkp] at he
      simp only [headR] at he
      have e1 : (((k + 1 : Nat) : Int)) - 1 = (k : Int) := by omega
      simp +contextual -dsimp -implicitDefEqProofs (maxSteps := 5000000) only [go_sem, reduceIte, reduceCtorEq, Nat.reduceEqDiff, Nat.reduceBEq, Nat.reduceAdd, Nat.reduceLeDiff, Nat.reduceMul, Nat.reduceLT, Int.reduceEq, Int.reduceLT, Int.reduceLE, t0, t1, t5, e1, hkp, hi]
      refine draw_intro [0, 0, 0, 0, 0, 0, 0, 0, 0, 0, 0] AHeap.none (by kernel_rfl) none_le ?_
      simp +contextual -dsimp -implicitDefEqProofs (maxSteps := 5000000) only [go_sem, reduceIte, reduceCtorEq, Nat.reduceEqDiff, Nat.reduceBEq, Nat.reduceAdd, Nat.reduceLeDiff, Nat.reduceMul, Nat.reduceLT, Int.reduceEq, Int.reduceLT, Int.reduceLE, t0, t1, t5, e1, hkp, hi]
      refine ⟨fun q => ?_, fun q => ?_⟩
      · rw [if_pos q] at he
        exact ⟨-1, rfl, .inl ⟨rfl, he.symm⟩⟩
      · rw [if_neg q] at he
        refine draw_intro [0, 0, 0, 0, 0, 0, 0, 0, 0, 0, 0] AHeap.none (by kernel_rfl) none_le ?_
        simp +contextual -dsimp -implicitDefEqProofs (maxSteps := 5000000) only [go_sem, reduceIte, reduceCtorEq, Nat.reduceEqDiff, Nat.reduceBEq, Nat.reduceAdd, Nat.reduceLeDiff, Nat.reduceMul, Nat.reduceLT, Int.reduceEq, Int.reduceLT, Int.reduceLE, t0, t1, t5, e1, hkp, hi]
        refine ⟨fun q2 => ?_, fun q2 => ?_⟩
        · rw [if_pos q2] at he
          exact ⟨k, rfl, .inr ⟨k, rfl, hkp, he.symm⟩⟩
        · rw [if_neg q2] at he
          exact ⟨k, by omega, by omega, I_wrap (by omega) (by omega) (by omega), he⟩
/-- A line may come where it comes, by its depth. -/
def relOk (p : List Line) (i : Nat) : Bool := if i = 0 then decide ((p.getD i default).depth = 0) else stepOk (p.getD (i - 1) default) (p.getD i default)
def endOk (p : List Line) (i : Nat) : Bool := !(decide (i + 1 = p.length) && opensK (p.getD i default).kind)
def lineOk (t : List Class) (p : List Line) (i : Nat) : Bool := oneOk t (p.getD i default) && ((relOk p i && endOk p i) && stOk p i)
theorem inR5 {n : Int} (h : inR n 0 5 = true) : 0 ≤ n ∧ n ≤ 5 := by simpa [inR] using h
theorem c_validLine (t : List Class) (cl : Bool) (p : List Line) (cl' : Bool) (i : Nat) (H : AHeap) (hi : i < p.length) (hp : p.length ≤ 4398046511104) (hprev : i ≠ 0 → inR (p.getD (i - 1) default).depth 0 5 = true) :
    ACalls Tryz.prog 98 [aTree t cl, aProg p cl', I i] H fun r H' => r = B (lineOk t p i) ∧ H' = H := by
  refine acalls_of0 Tryz.func98 rfl (by kernel_rfl) rfl rfl (awp_sound (fz := fun r => if r = 1 then [7] else []) (im := fun s => s == 3) mixed _ _ _ _ (by kernel_rfl) ?_)
  simp +contextual -dsimp -implicitDefEqProofs (maxSteps := 5000000) only [go_sem, reduceIte, reduceCtorEq, Nat.reduceEqDiff, Nat.reduceBEq, Nat.reduceAdd, Nat.reduceLeDiff, Nat.reduceMul, Nat.reduceLT, Int.reduceEq, Int.reduceLT, Int.reduceLE, hi]
  intro b7 hb7
  refine (c_validNumbers t cl (p.getD i default) _).det ?_
  have hno : oneOk t (p.getD i default) = (numOk t (p.getD i default).kind (p.getD i default).a (p.getD i default).b && inR (p.getD i default).depth 0 5) := rfl
  cases h1 : numOk t (p.getD i default).kind (p.getD i default).a (p.getD i default).b
  · rw [h1, Bool.false_and] at hno
    simp +contextual -dsimp -implicitDefEqProofs (maxSteps := 5000000) only [go_sem, reduceIte, reduceCtorEq, Nat.reduceEqDiff, Nat.reduceBEq, Nat.reduceAdd, Nat.reduceLeDiff, Nat.reduceMul, Nat.reduceLT, Int.reduceEq, Int.reduceLT, Int.reduceLE, hi, lineOk, hno]
  · simp +contextual -dsimp -implicitDefEqProofs (maxSteps := 5000000) only [go_sem, reduceIte, reduceCtorEq, Nat.reduceEqDiff, Nat.reduceBEq, Nat.reduceAdd, Nat.reduceLeDiff, Nat.reduceMul, Nat.reduceLT, Int.reduceEq, Int.reduceLT, Int.reduceLE, hi]
    refine (c_inRange _ _ _ _).det ?_
    cases h2 : inR (p.getD i default).depth 0 5
    · rw [h1, h2, Bool.true_and] at hno
      simp +contextual -dsimp -implicitDefEqProofs (maxSteps := 5000000) only [go_sem, reduceIte, reduceCtorEq, Nat.reduceEqDiff, Nat.reduceBEq, Nat.reduceAdd, Nat.reduceLeDiff, Nat.reduceMul, Nat.reduceLT, Int.reduceEq, Int.reduceLT, Int.reduceLE, hi, lineOk, hno]
    · rw [h1, h2, Bool.true_and] at hno
      have h2' := inR5 h2
      simp +contextual -dsimp -implicitDefEqProofs (maxSteps := 5000000) only [go_sem, reduceIte, reduceCtorEq, Nat.reduceEqDiff, Nat.reduceBEq, Nat.reduceAdd, Nat.reduceLeDiff, Nat.reduceMul, Nat.reduceLT, Int.reduceEq, Int.reduceLT, Int.reduceLE, hi]
      have fin : relOk p i = true → endOk p i = true → lineOk t p i = stOk p i := fun q1 q2 => by unfold lineOk; rw [hno, q1, q2]; rfl
      have hw : IntKind.i64.wrap ((i : Int) + 1) = ((i + 1 : Nat) : Int) := by
        have := hi
        rw [w64 (by omega) (by omega)]; rfl
      have ee : ∀ b : Bool, opensK (p.getD i default).kind = b → i + 1 = p.length → endOk p i = !b := fun b q1 q2 => by unfold endOk; rw [q1, decide_eq_true q2]; rfl
      have en : ¬ i + 1 = p.length → endOk p i = true := fun q => by unfold endOk; rw [decide_eq_false q]; rfl
      have bad1 : relOk p i = false → lineOk t p i = false := fun q => by unfold lineOk; rw [hno, q]; rfl
      have bad2 : endOk p i = false → lineOk t p i = false := fun q => by unfold lineOk; rw [hno, q]; simp
      by_cases i0 : i = 0
      · subst i0
        refine draw_intro [0, 0, 0, 0, 0, 0, 0, 0, 0, 0, 0, 0, 0, 0, 0, 0, 0, 0, 0, 0, 0, 0, 0, 0, 0, 0, 0, 0, 3, 0, 1, 0, 0, 0, 0, 0, 1, 0, 0, 0, 0, 0, 0, 0, 0, 0, 0, 0, 0, 0, 0, 0, 2, 0, 0] _ (by kernel_rfl) (AHeap.le_refl _) ?_
        have hw1 : IntKind.i64.wrap (0 + 1) = (1 : Int) := rfl
        by_cases d0 : (p.getD 0 default).depth = 0
        · have hrel : relOk p 0 = true := by unfold relOk; rw [if_pos rfl, decide_eq_true d0]
          by_cases el : 0 + 1 = p.length
          · have el' : (p.length : Int) = 1 := by omega
            simp +contextual -dsimp -implicitDefEqProofs (maxSteps := 5000000) only [go_sem, reduceIte, reduceCtorEq, Nat.reduceEqDiff, Nat.reduceBEq, Nat.reduceAdd, Nat.reduceLeDiff, Nat.reduceMul, Nat.reduceLT, Int.reduceEq, Int.reduceLT, Int.reduceLE, hi, d0, hw1, el']
            refine (c_opens _ _).det ?_
            cases ho : opensK (p.getD 0 default).kind
            · have hend := ee false ho el
              simp +contextual -dsimp -implicitDefEqProofs (maxSteps := 5000000) only [go_sem, reduceIte, reduceCtorEq, Nat.reduceEqDiff, Nat.reduceBEq, Nat.reduceAdd, Nat.reduceLeDiff, Nat.reduceMul, Nat.reduceLT, Int.reduceEq, Int.reduceLT, Int.reduceLE, hi]
              rw [fin hrel hend]
              by_cases k7 : (p.getD 0 default).kind = 7
              · have hs : stOk p 0 = tryOkF (kindsP p (tailQ p (p.getD 0 default).depth (endP p 0))) := by
                  unfold stOk; rw [k7]; simp only [show followsK 7 = false from rfl, decide_true, Bool.not_true, Bool.not_false, Bool.false_or, Bool.true_or, Bool.and_true, show ¬ (7 : Int) = 5 by decide, show ¬ (7 : Int) = 6 by decide, decide_false, Bool.or_self]
                rw [hs]
                simp +contextual -dsimp -implicitDefEqProofs (maxSteps := 5000000) only [go_sem, reduceIte, reduceCtorEq, Nat.reduceEqDiff, Nat.reduceBEq, Nat.reduceAdd, Nat.reduceLeDiff, Nat.reduceMul, Nat.reduceLT, Int.reduceEq, Int.reduceLT, Int.reduceLE, hi, k7]
                refine (c_validChain p cl' 0 _ hi hp).det ?_
                cases hc : tryOkF (kindsP p (tailQ p (p.getD 0 default).depth (endP p 0)))
                · simp +contextual -dsimp -implicitDefEqProofs (maxSteps := 5000000) only [go_sem, reduceIte, reduceCtorEq, Nat.reduceEqDiff, Nat.reduceBEq, Nat.reduceAdd, Nat.reduceLeDiff, Nat.reduceMul, Nat.reduceLT, Int.reduceEq, Int.reduceLT, Int.reduceLE, hi, k7]
                · simp +contextual -dsimp -implicitDefEqProofs (maxSteps := 5000000) only [go_sem, reduceIte, reduceCtorEq, Nat.reduceEqDiff, Nat.reduceBEq, Nat.reduceAdd, Nat.reduceLeDiff, Nat.reduceMul, Nat.reduceLT, Int.reduceEq, Int.reduceLT, Int.reduceLE, hi, k7]
                  refine (c_follows _ _).det ?_
                  rw [show followsK 7 = false from rfl]
                  simp +contextual -dsimp -implicitDefEqProofs (maxSteps := 5000000) only [go_sem, reduceIte, reduceCtorEq, Nat.reduceEqDiff, Nat.reduceBEq, Nat.reduceAdd, Nat.reduceLeDiff, Nat.reduceMul, Nat.reduceLT, Int.reduceEq, Int.reduceLT, Int.reduceLE]
              · by_cases k5 : (p.getD 0 default).kind = 5
                · have hs : stOk p 0 = inLoopR (p.getD 0 default).depth (upto p 0) := by
                    unfold stOk; rw [k5]; simp only [show followsK 5 = false from rfl, decide_true, Bool.not_true, Bool.not_false, Bool.false_or, Bool.true_or, Bool.or_true, Bool.and_true, Bool.true_and, show ¬ (5 : Int) = 7 by decide, show ¬ (5 : Int) = 6 by decide, decide_false]
                  rw [hs]
                  simp +contextual -dsimp -implicitDefEqProofs (maxSteps := 5000000) only [go_sem, reduceIte, reduceCtorEq, Nat.reduceEqDiff, Nat.reduceBEq, Nat.reduceAdd, Nat.reduceLeDiff, Nat.reduceMul, Nat.reduceLT, Int.reduceEq, Int.reduceLT, Int.reduceLE, hi, k5]
                  refine (c_inLoop p cl' 0 _ hi).det ?_
                  cases hc : inLoopR (p.getD 0 default).depth (upto p 0)
                  · simp +contextual -dsimp -implicitDefEqProofs (maxSteps := 5000000) only [go_sem, reduceIte, reduceCtorEq, Nat.reduceEqDiff, Nat.reduceBEq, Nat.reduceAdd, Nat.reduceLeDiff, Nat.reduceMul, Nat.reduceLT, Int.reduceEq, Int.reduceLT, Int.reduceLE, hi, k5]
                  · simp +contextual -dsimp -implicitDefEqProofs (maxSteps := 5000000) only [go_sem, reduceIte, reduceCtorEq, Nat.reduceEqDiff, Nat.reduceBEq, Nat.reduceAdd, Nat.reduceLeDiff, Nat.reduceMul, Nat.reduceLT, Int.reduceEq, Int.reduceLT, Int.reduceLE, hi, k5]
                    refine (c_follows _ _).det ?_
                    rw [show followsK 5 = false from rfl]
                    simp +contextual -dsimp -implicitDefEqProofs (maxSteps := 5000000) only [go_sem, reduceIte, reduceCtorEq, Nat.reduceEqDiff, Nat.reduceBEq, Nat.reduceAdd, Nat.reduceLeDiff, Nat.reduceMul, Nat.reduceLT, Int.reduceEq, Int.reduceLT, Int.reduceLE]
                · by_cases k6 : (p.getD 0 default).kind = 6
                  · have hs : stOk p 0 = inLoopR (p.getD 0 default).depth (upto p 0) := by
                      unfold stOk; rw [k6]; simp only [show followsK 6 = false from rfl, decide_true, Bool.not_true, Bool.not_false, Bool.false_or, Bool.true_or, Bool.or_true, Bool.and_true, Bool.true_and, show ¬ (6 : Int) = 7 by decide, show ¬ (6 : Int) = 5 by decide, decide_false]
                    rw [hs]
                    simp +contextual -dsimp -implicitDefEqProofs (maxSteps := 5000000) only [go_sem, reduceIte, reduceCtorEq, Nat.reduceEqDiff, Nat.reduceBEq, Nat.reduceAdd, Nat.reduceLeDiff, Nat.reduceMul, Nat.reduceLT, Int.reduceEq, Int.reduceLT, Int.reduceLE, hi, k6]
                    refine (c_inLoop p cl' 0 _ hi).det ?_
                    cases hc : inLoopR (p.getD 0 default).depth (upto p 0)
                    · simp +contextual -dsimp -implicitDefEqProofs (maxSteps := 5000000) only [go_sem, reduceIte, reduceCtorEq, Nat.reduceEqDiff, Nat.reduceBEq, Nat.reduceAdd, Nat.reduceLeDiff, Nat.reduceMul, Nat.reduceLT, Int.reduceEq, Int.reduceLT, Int.reduceLE, hi, k6]
                    · simp +contextual -dsimp -implicitDefEqProofs (maxSteps := 5000000) only [go_sem, reduceIte, reduceCtorEq, Nat.reduceEqDiff, Nat.reduceBEq, Nat.reduceAdd, Nat.reduceLeDiff, Nat.reduceMul, Nat.reduceLT, Int.reduceEq, Int.reduceLT, Int.reduceLE, hi, k6]
                      refine (c_follows _ _).det ?_
                      rw [show followsK 6 = false from rfl]
                      simp +contextual -dsimp -implicitDefEqProofs (maxSteps := 5000000) only [go_sem, reduceIte, reduceCtorEq, Nat.reduceEqDiff, Nat.reduceBEq, Nat.reduceAdd, Nat.reduceLeDiff, Nat.reduceMul, Nat.reduceLT, Int.reduceEq, Int.reduceLT, Int.reduceLE]
                  · have hs : stOk p 0 = (!followsK (p.getD 0 default).kind || headOkR (headR (p.getD 0 default).depth (upto p 0))) := by
                      unfold stOk; simp only [k7, k5, k6, decide_false, Bool.not_false, Bool.true_or, Bool.true_and, Bool.or_self]
                    rw [hs]
                    simp +contextual -dsimp -implicitDefEqProofs (maxSteps := 5000000) only [go_sem, reduceIte, reduceCtorEq, Nat.reduceEqDiff, Nat.reduceBEq, Nat.reduceAdd, Nat.reduceLeDiff, Nat.reduceMul, Nat.reduceLT, Int.reduceEq, Int.reduceLT, Int.reduceLE, hi, k5, k6, k7]
                    refine (c_follows _ _).det ?_
                    cases hf : followsK (p.getD 0 default).kind
                    · simp +contextual -dsimp -implicitDefEqProofs (maxSteps := 5000000) only [go_sem, reduceIte, reduceCtorEq, Nat.reduceEqDiff, Nat.reduceBEq, Nat.reduceAdd, Nat.reduceLeDiff, Nat.reduceMul, Nat.reduceLT, Int.reduceEq, Int.reduceLT, Int.reduceLE]
                    · simp +contextual -dsimp -implicitDefEqProofs (maxSteps := 5000000) only [go_sem, reduceIte, reduceCtorEq, Nat.reduceEqDiff, Nat.reduceBEq, Nat.reduceAdd, Nat.reduceLeDiff, Nat.reduceMul, Nat.reduceLT, Int.reduceEq, Int.reduceLT, Int.reduceLE, hi]
                      refine (c_headOf p cl' 0 _ hi).mono ?_
                      rintro _ _ ⟨v, rfl, rfl, hv⟩
                      rcases hv with ⟨rfl, hv⟩ | ⟨k, rfl, hk, hv⟩
                      · rw [hv]
                        have z : ¬ (0 : Int) ≤ -1 := by omega
                        simp +contextual -dsimp -implicitDefEqProofs (maxSteps := 5000000) only [go_sem, reduceIte, reduceCtorEq, Nat.reduceEqDiff, Nat.reduceBEq, Nat.reduceAdd, Nat.reduceLeDiff, Nat.reduceMul, Nat.reduceLT, Int.reduceEq, Int.reduceLT, Int.reduceLE, z, headOkR]
                      · rw [hv]
                        simp +contextual -dsimp -implicitDefEqProofs (maxSteps := 5000000) only [go_sem, reduceIte, reduceCtorEq, Nat.reduceEqDiff, Nat.reduceBEq, Nat.reduceAdd, Nat.reduceLeDiff, Nat.reduceMul, Nat.reduceLT, Int.reduceEq, Int.reduceLT, Int.reduceLE, hk, headOkR]
                        by_cases q7 : (p.getD k default).kind = 7
                        · simp +contextual -dsimp -implicitDefEqProofs (maxSteps := 5000000) only [go_sem, reduceIte, reduceCtorEq, Nat.reduceEqDiff, Nat.reduceBEq, Nat.reduceAdd, Nat.reduceLeDiff, Nat.reduceMul, Nat.reduceLT, Int.reduceEq, Int.reduceLT, Int.reduceLE, q7]
                        · simp +contextual -dsimp -implicitDefEqProofs (maxSteps := 5000000) only [go_sem, reduceIte, reduceCtorEq, Nat.reduceEqDiff, Nat.reduceBEq, Nat.reduceAdd, Nat.reduceLeDiff, Nat.reduceMul, Nat.reduceLT, Int.reduceEq, Int.reduceLT, Int.reduceLE, q7, hk]
                          refine (c_follows _ _).det ?_
                          simp +contextual -dsimp -implicitDefEqProofs (maxSteps := 5000000) only [go_sem, reduceIte, reduceCtorEq, Nat.reduceEqDiff, Nat.reduceBEq, Nat.reduceAdd, Nat.reduceLeDiff, Nat.reduceMul, Nat.reduceLT, Int.reduceEq, Int.reduceLT, Int.reduceLE, q7]
                          simp only [headOkR, q7, decide_false, Bool.false_or]
            · rw [bad2 (ee true ho el)]
              simp +contextual -dsimp -implicitDefEqProofs (maxSteps := 5000000) only [go_sem, reduceIte, reduceCtorEq, Nat.reduceEqDiff, Nat.reduceBEq, Nat.reduceAdd, Nat.reduceLeDiff, Nat.reduceMul, Nat.reduceLT, Int.reduceEq, Int.reduceLT, Int.reduceLE, hi]
          · have el' : ¬ (1 : Int) = (p.length : Int) := by omega
            have hend := en el
            simp +contextual -dsimp -implicitDefEqProofs (maxSteps := 5000000) only [go_sem, reduceIte, reduceCtorEq, Nat.reduceEqDiff, Nat.reduceBEq, Nat.reduceAdd, Nat.reduceLeDiff, Nat.reduceMul, Nat.reduceLT, Int.reduceEq, Int.reduceLT, Int.reduceLE, hi, d0, hw1, el']
            rw [fin hrel hend]
            by_cases k7 : (p.getD 0 default).kind = 7
            · have hs : stOk p 0 = tryOkF (kindsP p (tailQ p (p.getD 0 default).depth (endP p 0))) := by
                unfold stOk; rw [k7]; simp only [show followsK 7 = false from rfl, decide_true, Bool.not_true, Bool.not_false, Bool.false_or, Bool.true_or, Bool.and_true, show ¬ (7 : Int) = 5 by decide, show ¬ (7 : Int) = 6 by decide, decide_false, Bool.or_self]
              rw [hs]
              simp +contextual -dsimp -implicitDefEqProofs (maxSteps := 5000000) only [go_sem, reduceIte, reduceCtorEq, Nat.reduceEqDiff, Nat.reduceBEq, Nat.reduceAdd, Nat.reduceLeDiff, Nat.reduceMul, Nat.reduceLT, Int.reduceEq, Int.reduceLT, Int.reduceLE, hi, k7]
              refine (c_validChain p cl' 0 _ hi hp).det ?_
              cases hc : tryOkF (kindsP p (tailQ p (p.getD 0 default).depth (endP p 0)))
              · simp +contextual -dsimp -implicitDefEqProofs (maxSteps := 5000000) only [go_sem, reduceIte, reduceCtorEq, Nat.reduceEqDiff, Nat.reduceBEq, Nat.reduceAdd, Nat.reduceLeDiff, Nat.reduceMul, Nat.reduceLT, Int.reduceEq, Int.reduceLT, Int.reduceLE, hi, k7]
              · simp +contextual -dsimp -implicitDefEqProofs (maxSteps := 5000000) only [go_sem, reduceIte, reduceCtorEq, Nat.reduceEqDiff, Nat.reduceBEq, Nat.reduceAdd, Nat.reduceLeDiff, Nat.reduceMul, Nat.reduceLT, Int.reduceEq, Int.reduceLT, Int.reduceLE, hi, k7]
                refine (c_follows _ _).det ?_
                rw [show followsK 7 = false from rfl]
                simp +contextual -dsimp -implicitDefEqProofs (maxSteps := 5000000) only [go_sem, reduceIte, reduceCtorEq, Nat.reduceEqDiff, Nat.reduceBEq, Nat.reduceAdd, Nat.reduceLeDiff, Nat.reduceMul, Nat.reduceLT, Int.reduceEq, Int.reduceLT, Int.reduceLE]
            · by_cases k5 : (p.getD 0 default).kind = 5
              · have hs : stOk p 0 = inLoopR (p.getD 0 default).depth (upto p 0) := by
                  unfold stOk; rw [k5]; simp only [show followsK 5 = false from rfl, decide_true, Bool.not_true, Bool.not_false, Bool.false_or, Bool.true_or, Bool.or_true, Bool.and_true, Bool.true_and, show ¬ (5 : Int) = 7 by decide, show ¬ (5 : Int) = 6 by decide, decide_false]
                rw [hs]
                simp +contextual -dsimp -implicitDefEqProofs (maxSteps := 5000000) only [go_sem, reduceIte, reduceCtorEq, Nat.reduceEqDiff, Nat.reduceBEq, Nat.reduceAdd, Nat.reduceLeDiff, Nat.reduceMul, Nat.reduceLT, Int.reduceEq, Int.reduceLT, Int.reduceLE, hi, k5]
                refine (c_inLoop p cl' 0 _ hi).det ?_
                cases hc : inLoopR (p.getD 0 default).depth (upto p 0)
                · simp +contextual -dsimp -implicitDefEqProofs (maxSteps := 5000000) only [go_sem, reduceIte, reduceCtorEq, Nat.reduceEqDiff, Nat.reduceBEq, Nat.reduceAdd, Nat.reduceLeDiff, Nat.reduceMul, Nat.reduceLT, Int.reduceEq, Int.reduceLT, Int.reduceLE, hi, k5]
                · simp +contextual -dsimp -implicitDefEqProofs (maxSteps := 5000000) only [go_sem, reduceIte, reduceCtorEq, Nat.reduceEqDiff, Nat.reduceBEq, Nat.reduceAdd, Nat.reduceLeDiff, Nat.reduceMul, Nat.reduceLT, Int.reduceEq, Int.reduceLT, Int.reduceLE, hi, k5]
                  refine (c_follows _ _).det ?_
                  rw [show followsK 5 = false from rfl]
                  simp +contextual -dsimp -implicitDefEqProofs (maxSteps := 5000000) only [go_sem, reduceIte, reduceCtorEq, Nat.reduceEqDiff, Nat.reduceBEq, Nat.reduceAdd, Nat.reduceLeDiff, Nat.reduceMul, Nat.reduceLT, Int.reduceEq, Int.reduceLT, Int.reduceLE]
              · by_cases k6 : (p.getD 0 default).kind = 6
                · have hs : stOk p 0 = inLoopR (p.getD 0 default).depth (upto p 0) := by
                    unfold stOk; rw [k6]; simp only [show followsK 6 = false from rfl, decide_true, Bool.not_true, Bool.not_false, Bool.false_or, Bool.true_or, Bool.or_true, Bool.and_true, Bool.true_and, show ¬ (6 : Int) = 7 by decide, show ¬ (6 : Int) = 5 by decide, decide_false]
                  rw [hs]
                  simp +contextual -dsimp -implicitDefEqProofs (maxSteps := 5000000) only [go_sem, reduceIte, reduceCtorEq, Nat.reduceEqDiff, Nat.reduceBEq, Nat.reduceAdd, Nat.reduceLeDiff, Nat.reduceMul, Nat.reduceLT, Int.reduceEq, Int.reduceLT, Int.reduceLE, hi, k6]
                  refine (c_inLoop p cl' 0 _ hi).det ?_
                  cases hc : inLoopR (p.getD 0 default).depth (upto p 0)
                  · simp +contextual -dsimp -implicitDefEqProofs (maxSteps := 5000000) only [go_sem, reduceIte, reduceCtorEq, Nat.reduceEqDiff, Nat.reduceBEq, Nat.reduceAdd, Nat.reduceLeDiff, Nat.reduceMul, Nat.reduceLT, Int.reduceEq, Int.reduceLT, Int.reduceLE, hi, k6]
                  · simp +contextual -dsimp -implicitDefEqProofs (maxSteps := 5000000) only [go_sem, reduceIte, reduceCtorEq, Nat.reduceEqDiff, Nat.reduceBEq, Nat.reduceAdd, Nat.reduceLeDiff, Nat.reduceMul, Nat.reduceLT, Int.reduceEq, Int.reduceLT, Int.reduceLE, hi, k6]
                    refine (c_follows _ _).det ?_
                    rw [show followsK 6 = false from rfl]
                    simp +contextual -dsimp -implicitDefEqProofs (maxSteps := 5000000) only [go_sem, reduceIte, reduceCtorEq, Nat.reduceEqDiff, Nat.reduceBEq, Nat.reduceAdd, Nat.reduceLeDiff, Nat.reduceMul, Nat.reduceLT, Int.reduceEq, Int.reduceLT, Int.reduceLE]
                · have hs : stOk p 0 = (!followsK (p.getD 0 default).kind || headOkR (headR (p.getD 0 default).depth (upto p 0))) := by
                    unfold stOk; simp only [k7, k5, k6, decide_false, Bool.not_false, Bool.true_or, Bool.true_and, Bool.or_self]
                  rw [hs]
                  simp +contextual -dsimp -implicitDefEqProofs (maxSteps := 5000000) only [go_sem, reduceIte, reduceCtorEq, Nat.reduceEqDiff, Nat.reduceBEq, Nat.reduceAdd, Nat.reduceLeDiff, Nat.reduceMul, Nat.reduceLT, Int.reduceEq, Int.reduceLT, Int.reduceLE, hi, k5, k6, k7]
                  refine (c_follows _ _).det ?_
                  cases hf : followsK (p.getD 0 default).kind
                  · simp +contextual -dsimp -implicitDefEqProofs (maxSteps := 5000000) only [go_sem, reduceIte, reduceCtorEq, Nat.reduceEqDiff, Nat.reduceBEq, Nat.reduceAdd, Nat.reduceLeDiff, Nat.reduceMul, Nat.reduceLT, Int.reduceEq, Int.reduceLT, Int.reduceLE]
                  · simp +contextual -dsimp -implicitDefEqProofs (maxSteps := 5000000) only [go_sem, reduceIte, reduceCtorEq, Nat.reduceEqDiff, Nat.reduceBEq, Nat.reduceAdd, Nat.reduceLeDiff, Nat.reduceMul, Nat.reduceLT, Int.reduceEq, Int.reduceLT, Int.reduceLE, hi]
                    refine (c_headOf p cl' 0 _ hi).mono ?_
                    rintro _ _ ⟨v, rfl, rfl, hv⟩
                    rcases hv with ⟨rfl, hv⟩ | ⟨k, rfl, hk, hv⟩
                    · rw [hv]
                      have z : ¬ (0 : Int) ≤ -1 := by omega
                      simp +contextual -dsimp -implicitDefEqProofs (maxSteps := 5000000) only [go_sem, reduceIte, reduceCtorEq, Nat.reduceEqDiff, Nat.reduceBEq, Nat.reduceAdd, Nat.reduceLeDiff, Nat.reduceMul, Nat.reduceLT, Int.reduceEq, Int.reduceLT, Int.reduceLE, z, headOkR]
                    · rw [hv]
                      simp +contextual -dsimp -implicitDefEqProofs (maxSteps := 5000000) only [go_sem, reduceIte, reduceCtorEq, Nat.reduceEqDiff, Nat.reduceBEq, Nat.reduceAdd, Nat.reduceLeDiff, Nat.reduceMul, Nat.reduceLT, Int.reduceEq, Int.reduceLT, Int.reduceLE, hk, headOkR]
                      by_cases q7 : (p.getD k default).kind = 7
                      · simp +contextual -dsimp -implicitDefEqProofs (maxSteps := 5000000) only [go_sem, reduceIte, reduceCtorEq, Nat.reduceEqDiff, Nat.reduceBEq, Nat.reduceAdd, Nat.reduceLeDiff, Nat.reduceMul, Nat.reduceLT, Int.reduceEq, Int.reduceLT, Int.reduceLE, q7]
                      · simp +contextual -dsimp -implicitDefEqProofs (maxSteps := 5000000) only [go_sem, reduceIte, reduceCtorEq, Nat.reduceEqDiff, Nat.reduceBEq, Nat.reduceAdd, Nat.reduceLeDiff, Nat.reduceMul, Nat.reduceLT, Int.reduceEq, Int.reduceLT, Int.reduceLE, q7, hk]
                        refine (c_follows _ _).det ?_
                        simp +contextual -dsimp -implicitDefEqProofs (maxSteps := 5000000) only [go_sem, reduceIte, reduceCtorEq, Nat.reduceEqDiff, Nat.reduceBEq, Nat.reduceAdd, Nat.reduceLeDiff, Nat.reduceMul, Nat.reduceLT, Int.reduceEq, Int.reduceLT, Int.reduceLE, q7]
                        simp only [headOkR, q7, decide_false, Bool.false_or]
        · simp +contextual -dsimp -implicitDefEqProofs (maxSteps := 5000000) only [go_sem, reduceIte, reduceCtorEq, Nat.reduceEqDiff, Nat.reduceBEq, Nat.reduceAdd, Nat.reduceLeDiff, Nat.reduceMul, Nat.reduceLT, Int.reduceEq, Int.reduceLT, Int.reduceLE, hi, d0, bad1 (by unfold relOk; rw [if_pos rfl, decide_eq_false d0])]
      · refine draw_intro [0, 0, 0, 0, 0, 0, 0, 0, 0, 0, 0, 0, 0, 0, 0, 0, 0, 0, 0, 0, 0, 0, 0, 0, 0, 0, 0, 0, 3, 0, 1, 0, 0, 0, 0, 0, 1, 0, 0, 0, 0, 0, 0, 0, 0, 0, 0, 0, 0, 0, 0, 0, 2, 0, 0] _ (by kernel_rfl) (AHeap.le_refl _) ?_
        have hpv := inR5 (hprev i0)
        have i0' : ¬ (i : Int) = 0 := by omega
        have i1 : (0 : Int) < (i : Int) := by omega
        have hwi : IntKind.i64.wrap ((i : Int) - 1) = ((i - 1 : Nat) : Int) := by rw [w64 (by omega) (by omega)]; omega
        have hi1 : i - 1 < p.length := by omega
        have hi2 : i - 1 < i + 1 := by omega
        have hwd : IntKind.i64.wrap ((p.getD (i - 1) default).depth + 1) = (p.getD (i - 1) default).depth + 1 := w64 (by omega) (by omega)
        have er : relOk p i = stepOk (p.getD (i - 1) default) (p.getD i default) := by unfold relOk; rw [if_neg i0]
        by_cases g : (p.getD (i - 1) default).depth + 1 < (p.getD i default).depth
        · have hb : relOk p i = false := by
            rw [er]; unfold stepOk; split
            · exact decide_eq_false (by omega)
            · exact decide_eq_false (by omega)
          simp +contextual -dsimp -implicitDefEqProofs (maxSteps := 5000000) only [go_sem, reduceIte, reduceCtorEq, Nat.reduceEqDiff, Nat.reduceBEq, Nat.reduceAdd, Nat.reduceLeDiff, Nat.reduceMul, Nat.reduceLT, Int.reduceEq, Int.reduceLT, Int.reduceLE, hi, i0', i1, hwi, hi1, hwd, g, bad1 hb]
        · simp +contextual -dsimp -implicitDefEqProofs (maxSteps := 5000000) only [go_sem, reduceIte, reduceCtorEq, Nat.reduceEqDiff, Nat.reduceBEq, Nat.reduceAdd, Nat.reduceLeDiff, Nat.reduceMul, Nat.reduceLT, Int.reduceEq, Int.reduceLT, Int.reduceLE, hi, i0', i1, hwi, hi1, hwd, g]
          refine (c_opens _ _).det ?_
          refine ⟨AHeap.le_refl _, ?_⟩
          by_cases e : (p.getD i default).depth = (p.getD (i - 1) default).depth + 1
          · cases ho : opensK (p.getD (i - 1) default).kind
            · have hb : relOk p i = false := by
                rw [er]; unfold stepOk; rw [ho, if_neg (by decide)]; exact decide_eq_false (by omega)
              simp +contextual -dsimp -implicitDefEqProofs (maxSteps := 5000000) only [go_sem, reduceIte, reduceCtorEq, Nat.reduceEqDiff, Nat.reduceBEq, Nat.reduceAdd, Nat.reduceLeDiff, Nat.reduceMul, Nat.reduceLT, Int.reduceEq, Int.reduceLT, Int.reduceLE, hi, i0', i1, hwi, hi1, hwd, g, e, bad1 hb]
            · have hrel : relOk p i = true := by
                rw [er]; unfold stepOk; rw [ho, if_pos rfl]; exact decide_eq_true e
              by_cases el : i + 1 = p.length
              · have el' : (p.length : Int) = ((i + 1 : Nat) : Int) := by omega
                simp +contextual -dsimp -implicitDefEqProofs (maxSteps := 5000000) only [go_sem, reduceIte, reduceCtorEq, Nat.reduceEqDiff, Nat.reduceBEq, Nat.reduceAdd, Nat.reduceLeDiff, Nat.reduceMul, Nat.reduceLT, Int.reduceEq, Int.reduceLT, Int.reduceLE, hi, i0', i1, hwi, hi1, hwd, g, e, hw, el', hi2]
                refine (c_opens _ _).det ?_
                cases ho : opensK (p.getD i default).kind
                · have hend := ee false ho el
                  simp +contextual -dsimp -implicitDefEqProofs (maxSteps := 5000000) only [go_sem, reduceIte, reduceCtorEq, Nat.reduceEqDiff, Nat.reduceBEq, Nat.reduceAdd, Nat.reduceLeDiff, Nat.reduceMul, Nat.reduceLT, Int.reduceEq, Int.reduceLT, Int.reduceLE, hi]
                  rw [fin hrel hend]
                  by_cases k7 : (p.getD i default).kind = 7
                  · have hs : stOk p i = tryOkF (kindsP p (tailQ p (p.getD i default).depth (endP p i))) := by
                      unfold stOk; rw [k7]; simp only [show followsK 7 = false from rfl, decide_true, Bool.not_true, Bool.not_false, Bool.false_or, Bool.true_or, Bool.and_true, show ¬ (7 : Int) = 5 by decide, show ¬ (7 : Int) = 6 by decide, decide_false, Bool.or_self]
                    rw [hs]
                    simp +contextual -dsimp -implicitDefEqProofs (maxSteps := 5000000) only [go_sem, reduceIte, reduceCtorEq, Nat.reduceEqDiff, Nat.reduceBEq, Nat.reduceAdd, Nat.reduceLeDiff, Nat.reduceMul, Nat.reduceLT, Int.reduceEq, Int.reduceLT, Int.reduceLE, hi, k7]
                    refine (c_validChain p cl' i _ hi hp).det ?_
                    cases hc : tryOkF (kindsP p (tailQ p (p.getD i default).depth (endP p i)))
                    · simp +contextual -dsimp -implicitDefEqProofs (maxSteps := 5000000) only [go_sem, reduceIte, reduceCtorEq, Nat.reduceEqDiff, Nat.reduceBEq, Nat.reduceAdd, Nat.reduceLeDiff, Nat.reduceMul, Nat.reduceLT, Int.reduceEq, Int.reduceLT, Int.reduceLE, hi, k7]
                    · simp +contextual -dsimp -implicitDefEqProofs (maxSteps := 5000000) only [go_sem, reduceIte, reduceCtorEq, Nat.reduceEqDiff, Nat.reduceBEq, Nat.reduceAdd, Nat.reduceLeDiff, Nat.reduceMul, Nat.reduceLT, Int.reduceEq, Int.reduceLT, Int.reduceLE, hi, k7]
                      refine (c_follows _ _).det ?_
                      rw [show followsK 7 = false from rfl]
                      simp +contextual -dsimp -implicitDefEqProofs (maxSteps := 5000000) only [go_sem, reduceIte, reduceCtorEq, Nat.reduceEqDiff, Nat.reduceBEq, Nat.reduceAdd, Nat.reduceLeDiff, Nat.reduceMul, Nat.reduceLT, Int.reduceEq, Int.reduceLT, Int.reduceLE]
                  · by_cases k5 : (p.getD i default).kind = 5
                    · have hs : stOk p i = inLoopR (p.getD i default).depth (upto p i) := by
                        unfold stOk; rw [k5]; simp only [show followsK 5 = false from rfl, decide_true, Bool.not_true, Bool.not_false, Bool.false_or, Bool.true_or, Bool.or_true, Bool.and_true, Bool.true_and, show ¬ (5 : Int) = 7 by decide, show ¬ (5 : Int) = 6 by decide, decide_false]
                      rw [hs]
                      simp +contextual -dsimp -implicitDefEqProofs (maxSteps := 5000000) only [go_sem, reduceIte, reduceCtorEq, Nat.reduceEqDiff, Nat.reduceBEq, Nat.reduceAdd, Nat.reduceLeDiff, Nat.reduceMul, Nat.reduceLT, Int.reduceEq, Int.reduceLT, Int.reduceLE, hi, k5]
                      refine (c_inLoop p cl' i _ hi).det ?_
                      cases hc : inLoopR (p.getD i default).depth (upto p i)
                      · simp +contextual -dsimp -implicitDefEqProofs (maxSteps := 5000000) only [go_sem, reduceIte, reduceCtorEq, Nat.reduceEqDiff, Nat.reduceBEq, Nat.reduceAdd, Nat.reduceLeDiff, Nat.reduceMul, Nat.reduceLT, Int.reduceEq, Int.reduceLT, Int.reduceLE, hi, k5]
                      · simp +contextual -dsimp -implicitDefEqProofs (maxSteps := 5000000) only [go_sem, reduceIte, reduceCtorEq, Nat.reduceEqDiff, Nat.reduceBEq, Nat.reduceAdd, Nat.reduceLeDiff, Nat.reduceMul, Nat.reduceLT, Int.reduceEq, Int.reduceLT, Int.reduceLE, hi, k5]
                        refine (c_follows _ _).det ?_
                        rw [show followsK 5 = false from rfl]
                        simp +contextual -dsimp -implicitDefEqProofs (maxSteps := 5000000) only [go_sem, reduceIte, reduceCtorEq, Nat.reduceEqDiff, Nat.reduceBEq, Nat.reduceAdd, Nat.reduceLeDiff, Nat.reduceMul, Nat.reduceLT, Int.reduceEq, Int.reduceLT, Int.reduceLE]
                    · by_cases k6 : (p.getD i default).kind = 6
                      · have hs : stOk p i = inLoopR (p.getD i default).depth (upto p i) := by
                          unfold stOk; rw [k6]; simp only [show followsK 6 = false from rfl, decide_true, Bool.not_true, Bool.not_false, Bool.false_or, Bool.true_or, Bool.or_true, Bool.and_true, Bool.true_and, show ¬ (6 : Int) = 7 by decide, show ¬ (6 : Int) = 5 by decide, decide_false]
                        rw [hs]
                        simp +contextual -dsimp -implicitDefEqProofs (maxSteps := 5000000) only [go_sem, reduceIte, reduceCtorEq, Nat.reduceEqDiff, Nat.reduceBEq, Nat.reduceAdd, Nat.reduceLeDiff, Nat.reduceMul, Nat.reduceLT, Int.reduceEq, Int.reduceLT, Int.reduceLE, hi, k6]
                        refine (c_inLoop p cl' i _ hi).det ?_
                        cases hc : inLoopR (p.getD i default).depth (upto p i)
                        · simp +contextual -dsimp -implicitDefEqProofs (maxSteps := 5000000) only [go_sem, reduceIte, reduceCtorEq, Nat.reduceEqDiff, Nat.reduceBEq, Nat.reduceAdd, Nat.reduceLeDiff, Nat.reduceMul, Nat.reduceLT, Int.reduceEq, Int.reduceLT, Int.reduceLE, hi, k6]
                        · simp +contextual -dsimp -implicitDefEqProofs (maxSteps := 5000000) only [go_sem, reduceIte, reduceCtorEq, Nat.reduceEqDiff, Nat.reduceBEq, Nat.reduceAdd, Nat.reduceLeDiff, Nat.reduceMul, Nat.reduceLT, Int.reduceEq, Int.reduceLT, Int.reduceLE, hi, k6]
                          refine (c_follows _ _).det ?_
                          rw [show followsK 6 = false from rfl]
                          simp +contextual -dsimp -implicitDefEqProofs (maxSteps := 5000000) only [go_sem, reduceIte, reduceCtorEq, Nat.reduceEqDiff, Nat.reduceBEq, Nat.reduceAdd, Nat.reduceLeDiff, Nat.reduceMul, Nat.reduceLT, Int.reduceEq, Int.reduceLT, Int.reduceLE]
                      · have hs : stOk p i = (!followsK (p.getD i default).kind || headOkR (headR (p.getD i default).depth (upto p i))) := by
                          unfold stOk; simp only [k7, k5, k6, decide_false, Bool.not_false, Bool.true_or, Bool.true_and, Bool.or_self]
                        rw [hs]
                        simp +contextual -dsimp -implicitDefEqProofs (maxSteps := 5000000) only [go_sem, reduceIte, reduceCtorEq, Nat.reduceEqDiff, Nat.reduceBEq, Nat.reduceAdd, Nat.reduceLeDiff, Nat.reduceMul, Nat.reduceLT, Int.reduceEq, Int.reduceLT, Int.reduceLE, hi, k5, k6, k7]
                        refine (c_follows _ _).det ?_
                        cases hf : followsK (p.getD i default).kind
                        · simp +contextual -dsimp -implicitDefEqProofs (maxSteps := 5000000) only [go_sem, reduceIte, reduceCtorEq, Nat.reduceEqDiff, Nat.reduceBEq, Nat.reduceAdd, Nat.reduceLeDiff, Nat.reduceMul, Nat.reduceLT, Int.reduceEq, Int.reduceLT, Int.reduceLE]
                        · simp +contextual -dsimp -implicitDefEqProofs (maxSteps := 5000000) only [go_sem, reduceIte, reduceCtorEq, Nat.reduceEqDiff, Nat.reduceBEq, Nat.reduceAdd, Nat.reduceLeDiff, Nat.reduceMul, Nat.reduceLT, Int.reduceEq, Int.reduceLT, Int.reduceLE, hi]
                          refine (c_headOf p cl' i _ hi).mono ?_
                          rintro _ _ ⟨v, rfl, rfl, hv⟩
                          rcases hv with ⟨rfl, hv⟩ | ⟨k, rfl, hk, hv⟩
                          · rw [hv]
                            have z : ¬ (0 : Int) ≤ -1 := by omega
                            simp +contextual -dsimp -implicitDefEqProofs (maxSteps := 5000000) only [go_sem, reduceIte, reduceCtorEq, Nat.reduceEqDiff, Nat.reduceBEq, Nat.reduceAdd, Nat.reduceLeDiff, Nat.reduceMul, Nat.reduceLT, Int.reduceEq, Int.reduceLT, Int.reduceLE, z, headOkR]
                          · rw [hv]
                            simp +contextual -dsimp -implicitDefEqProofs (maxSteps := 5000000) only [go_sem, reduceIte, reduceCtorEq, Nat.reduceEqDiff, Nat.reduceBEq, Nat.reduceAdd, Nat.reduceLeDiff, Nat.reduceMul, Nat.reduceLT, Int.reduceEq, Int.reduceLT, Int.reduceLE, hk, headOkR]
                            by_cases q7 : (p.getD k default).kind = 7
                            · simp +contextual -dsimp -implicitDefEqProofs (maxSteps := 5000000) only [go_sem, reduceIte, reduceCtorEq, Nat.reduceEqDiff, Nat.reduceBEq, Nat.reduceAdd, Nat.reduceLeDiff, Nat.reduceMul, Nat.reduceLT, Int.reduceEq, Int.reduceLT, Int.reduceLE, q7]
                            · simp +contextual -dsimp -implicitDefEqProofs (maxSteps := 5000000) only [go_sem, reduceIte, reduceCtorEq, Nat.reduceEqDiff, Nat.reduceBEq, Nat.reduceAdd, Nat.reduceLeDiff, Nat.reduceMul, Nat.reduceLT, Int.reduceEq, Int.reduceLT, Int.reduceLE, q7, hk]
                              refine (c_follows _ _).det ?_
                              simp +contextual -dsimp -implicitDefEqProofs (maxSteps := 5000000) only [go_sem, reduceIte, reduceCtorEq, Nat.reduceEqDiff, Nat.reduceBEq, Nat.reduceAdd, Nat.reduceLeDiff, Nat.reduceMul, Nat.reduceLT, Int.reduceEq, Int.reduceLT, Int.reduceLE, q7]
                              simp only [headOkR, q7, decide_false, Bool.false_or]
                · rw [bad2 (ee true ho el)]
                  simp +contextual -dsimp -implicitDefEqProofs (maxSteps := 5000000) only [go_sem, reduceIte, reduceCtorEq, Nat.reduceEqDiff, Nat.reduceBEq, Nat.reduceAdd, Nat.reduceLeDiff, Nat.reduceMul, Nat.reduceLT, Int.reduceEq, Int.reduceLT, Int.reduceLE, hi]
              · have el' : ¬ ((i + 1 : Nat) : Int) = (p.length : Int) := by omega
                have hend := en el
                simp +contextual -dsimp -implicitDefEqProofs (maxSteps := 5000000) only [go_sem, reduceIte, reduceCtorEq, Nat.reduceEqDiff, Nat.reduceBEq, Nat.reduceAdd, Nat.reduceLeDiff, Nat.reduceMul, Nat.reduceLT, Int.reduceEq, Int.reduceLT, Int.reduceLE, hi, i0', i1, hwi, hi1, hwd, g, e, hw, el', hi2]
                rw [fin hrel hend]
                by_cases k7 : (p.getD i default).kind = 7
                · have hs : stOk p i = tryOkF (kindsP p (tailQ p (p.getD i default).depth (endP p i))) := by
                    unfold stOk; rw [k7]; simp only [show followsK 7 = false from rfl, decide_true, Bool.not_true, Bool.not_false, Bool.false_or, Bool.true_or, Bool.and_true, show ¬ (7 : Int) = 5 by decide, show ¬ (7 : Int) = 6 by decide, decide_false, Bool.or_self]
                  rw [hs]
                  simp +contextual -dsimp -implicitDefEqProofs (maxSteps := 5000000) only [go_sem, reduceIte, reduceCtorEq, Nat.reduceEqDiff, Nat.reduceBEq, Nat.reduceAdd, Nat.reduceLeDiff, Nat.reduceMul, Nat.reduceLT, Int.reduceEq, Int.reduceLT, Int.reduceLE, hi, k7]
                  refine (c_validChain p cl' i _ hi hp).det ?_
                  cases hc : tryOkF (kindsP p (tailQ p (p.getD i default).depth (endP p i)))
                  · simp +contextual -dsimp -implicitDefEqProofs (maxSteps := 5000000) only [go_sem, reduceIte, reduceCtorEq, Nat.reduceEqDiff, Nat.reduceBEq, Nat.reduceAdd, Nat.reduceLeDiff, Nat.reduceMul, Nat.reduceLT, Int.reduceEq, Int.reduceLT, Int.reduceLE, hi, k7]
                  · simp +contextual -dsimp -implicitDefEqProofs (maxSteps := 5000000) only [go_sem, reduceIte, reduceCtorEq, Nat.reduceEqDiff, Nat.reduceBEq, Nat.reduceAdd, Nat.reduceLeDiff, Nat.reduceMul, Nat.reduceLT, Int.reduceEq, Int.reduceLT, Int.reduceLE, hi, k7]
                    refine (c_follows _ _).det ?_
                    rw [show followsK 7 = false from rfl]
                    simp +contextual -dsimp -implicitDefEqProofs (maxSteps := 5000000) only [go_sem, reduceIte, reduceCtorEq, Nat.reduceEqDiff, Nat.reduceBEq, Nat.reduceAdd, Nat.reduceLeDiff, Nat.reduceMul, Nat.reduceLT, Int.reduceEq, Int.reduceLT, Int.reduceLE]
                · by_cases k5 : (p.getD i default).kind = 5
                  · have hs : stOk p i = inLoopR (p.getD i default).depth (upto p i) := by
                      unfold stOk; rw [k5]; simp only [show followsK 5 = false from rfl, decide_true, Bool.not_true, Bool.not_false, Bool.false_or, Bool.true_or, Bool.or_true, Bool.and_true, Bool.true_and, show ¬ (5 : Int) = 7 by decide, show ¬ (5 : Int) = 6 by decide, decide_false]
                    rw [hs]
                    simp +contextual -dsimp -implicitDefEqProofs (maxSteps := 5000000) only [go_sem, reduceIte, reduceCtorEq, Nat.reduceEqDiff, Nat.reduceBEq, Nat.reduceAdd, Nat.reduceLeDiff, Nat.reduceMul, Nat.reduceLT, Int.reduceEq, Int.reduceLT, Int.reduceLE, hi, k5]
                    refine (c_inLoop p cl' i _ hi).det ?_
                    cases hc : inLoopR (p.getD i default).depth (upto p i)
                    · simp +contextual -dsimp -implicitDefEqProofs (maxSteps := 5000000) only [go_sem, reduceIte, reduceCtorEq, Nat.reduceEqDiff, Nat.reduceBEq, Nat.reduceAdd, Nat.reduceLeDiff, Nat.reduceMul, Nat.reduceLT, Int.reduceEq, Int.reduceLT, Int.reduceLE, hi, k5]
                    · simp +contextual -dsimp -implicitDefEqProofs (maxSteps := 5000000) only [go_sem, reduceIte, reduceCtorEq, Nat.reduceEqDiff, Nat.reduceBEq, Nat.reduceAdd, Nat.reduceLeDiff, Nat.reduceMul, Nat.reduceLT, Int.reduceEq, Int.reduceLT, Int.reduceLE, hi, k5]
                      refine (c_follows _ _).det ?_
                      rw [show followsK 5 = false from rfl]
                      simp +contextual -dsimp -implicitDefEqProofs (maxSteps := 5000000) only [go_sem, reduceIte, reduceCtorEq, Nat.reduceEqDiff, Nat.reduceBEq, Nat.reduceAdd, Nat.reduceLeDiff, Nat.reduceMul, Nat.reduceLT, Int.reduceEq, Int.reduceLT, Int.reduceLE]
                  · by_cases k6 : (p.getD i default).kind = 6
                    · have hs : stOk p i = inLoopR (p.getD i default).depth (upto p i) := by
                        unfold stOk; rw [k6]; simp only [show followsK 6 = false from rfl, decide_true, Bool.not_true, Bool.not_false, Bool.false_or, Bool.true_or, Bool.or_true, Bool.and_true, Bool.true_and, show ¬ (6 : Int) = 7 by decide, show ¬ (6 : Int) = 5 by decide, decide_false]
                      rw [hs]
                      simp +contextual -dsimp -implicitDefEqProofs (maxSteps := 5000000) only [go_sem, reduceIte, reduceCtorEq, Nat.reduceEqDiff, Nat.reduceBEq, Nat.reduceAdd, Nat.reduceLeDiff, Nat.reduceMul, Nat.reduceLT, Int.reduceEq, Int.reduceLT, Int.reduceLE, hi, k6]
                      refine (c_inLoop p cl' i _ hi).det ?_
                      cases hc : inLoopR (p.getD i default).depth (upto p i)
                      · simp +contextual -dsimp -implicitDefEqProofs (maxSteps := 5000000) only [go_sem, reduceIte, reduceCtorEq, Nat.reduceEqDiff, Nat.reduceBEq, Nat.reduceAdd, Nat.reduceLeDiff, Nat.reduceMul, Nat.reduceLT, Int.reduceEq, Int.reduceLT, Int.reduceLE, hi, k6]
                      · simp +contextual -dsimp -implicitDefEqProofs (maxSteps := 5000000) only [go_sem, reduceIte, reduceCtorEq, Nat.reduceEqDiff, Nat.reduceBEq, Nat.reduceAdd, Nat.reduceLeDiff, Nat.reduceMul, Nat.reduceLT, Int.reduceEq, Int.reduceLT, Int.reduceLE, hi, k6]
                        refine (c_follows _ _).det ?_
                        rw [show followsK 6 = false from rfl]
                        simp +contextual -dsimp -implicitDefEqProofs (maxSteps := 5000000) only [go_sem, reduceIte, reduceCtorEq, Nat.reduceEqDiff, Nat.reduceBEq, Nat.reduceAdd, Nat.reduceLeDiff, Nat.reduceMul, Nat.reduceLT, Int.reduceEq, Int.reduceLT, Int.reduceLE]
                    · have hs : stOk p i = (!followsK (p.getD i default).kind || headOkR (headR (p.getD i default).depth (upto p i))) := by
                        unfold stOk; simp only [k7, k5, k6, decide_false, Bool.not_false, Bool.true_or, Bool.true_and, Bool.or_self]
                      rw [hs]
                      simp +contextual -dsimp -implicitDefEqProofs (maxSteps := 5000000) only [go_sem, reduceIte, reduceCtorEq, Nat.reduceEqDiff, Nat.reduceBEq, Nat.reduceAdd, Nat.reduceLeDiff, Nat.reduceMul, Nat.reduceLT, Int.reduceEq, Int.reduceLT, Int.reduceLE, hi, k5, k6, k7]
                      refine (c_follows _ _).det ?_
                      cases hf : followsK (p.getD i default).kind
                      · simp +contextual -dsimp -implicitDefEqProofs (maxSteps := 5000000) only [go_sem, reduceIte, reduceCtorEq, Nat.reduceEqDiff, Nat.reduceBEq, Nat.reduceAdd, Nat.reduceLeDiff, Nat.reduceMul, Nat.reduceLT, Int.reduceEq, Int.reduceLT, Int.reduceLE]
                      · simp +contextual -dsimp -implicitDefEqProofs (maxSteps := 5000000) only [go_sem, reduceIte, reduceCtorEq, Nat.reduceEqDiff, Nat.reduceBEq, Nat.reduceAdd, Nat.reduceLeDiff, Nat.reduceMul, Nat.reduceLT, Int.reduceEq, Int.reduceLT, Int.reduceLE, hi]
                        refine (c_headOf p cl' i _ hi).mono ?_
                        rintro _ _ ⟨v, rfl, rfl, hv⟩
                        rcases hv with ⟨rfl, hv⟩ | ⟨k, rfl, hk, hv⟩
                        · rw [hv]
                          have z : ¬ (0 : Int) ≤ -1 := by omega
                          simp +contextual -dsimp -implicitDefEqProofs (maxSteps := 5000000) only [go_sem, reduceIte, reduceCtorEq, Nat.reduceEqDiff, Nat.reduceBEq, Nat.reduceAdd, Nat.reduceLeDiff, Nat.reduceMul, Nat.reduceLT, Int.reduceEq, Int.reduceLT, Int.reduceLE, z, headOkR]
                        · rw [hv]
                          simp +contextual -dsimp -implicitDefEqProofs (maxSteps := 5000000) only [go_sem, reduceIte, reduceCtorEq, Nat.reduceEqDiff, Nat.reduceBEq, Nat.reduceAdd, Nat.reduceLeDiff, Nat.reduceMul, Nat.reduceLT, Int.reduceEq, Int.reduceLT, Int.reduceLE, hk, headOkR]
                          by_cases q7 : (p.getD k default).kind = 7
                          · simp +contextual -dsimp -implicitDefEqProofs (maxSteps := 5000000) only [go_sem, reduceIte, reduceCtorEq, Nat.reduceEqDiff, Nat.reduceBEq, Nat.reduceAdd, Nat.reduceLeDiff, Nat.reduceMul, Nat.reduceLT, Int.reduceEq, Int.reduceLT, Int.reduceLE, q7]
                          · simp +contextual -dsimp -implicitDefEqProofs (maxSteps := 5000000) only [go_sem, reduceIte, reduceCtorEq, Nat.reduceEqDiff, Nat.reduceBEq, Nat.reduceAdd, Nat.reduceLeDiff, Nat.reduceMul, Nat.reduceLT, Int.reduceEq, Int.reduceLT, Int.reduceLE, q7, hk]
                            refine (c_follows _ _).det ?_
                            simp +contextual -dsimp -implicitDefEqProofs (maxSteps := 5000000) only [go_sem, reduceIte, reduceCtorEq, Nat.reduceEqDiff, Nat.reduceBEq, Nat.reduceAdd, Nat.reduceLeDiff, Nat.reduceMul, Nat.reduceLT, Int.reduceEq, Int.reduceLT, Int.reduceLE, q7]
                            simp only [headOkR, q7, decide_false, Bool.false_or]
          · cases ho : opensK (p.getD (i - 1) default).kind
            · have hrel : relOk p i = true := by
                rw [er]; unfold stepOk; rw [ho, if_neg (by decide)]; exact decide_eq_true (by omega)
              by_cases el : i + 1 = p.length
              · have el' : (p.length : Int) = ((i + 1 : Nat) : Int) := by omega
                simp +contextual -dsimp -implicitDefEqProofs (maxSteps := 5000000) only [go_sem, reduceIte, reduceCtorEq, Nat.reduceEqDiff, Nat.reduceBEq, Nat.reduceAdd, Nat.reduceLeDiff, Nat.reduceMul, Nat.reduceLT, Int.reduceEq, Int.reduceLT, Int.reduceLE, hi, i0', i1, hwi, hi1, hwd, g, e, hw, el', hi2]
                refine (c_opens _ _).det ?_
                cases ho : opensK (p.getD i default).kind
                · have hend := ee false ho el
                  simp +contextual -dsimp -implicitDefEqProofs (maxSteps := 5000000) only [go_sem, reduceIte, reduceCtorEq, Nat.reduceEqDiff, Nat.reduceBEq, Nat.reduceAdd, Nat.reduceLeDiff, Nat.reduceMul, Nat.reduceLT, Int.reduceEq, Int.reduceLT, Int.reduceLE, hi]
                  rw [fin hrel hend]
                  by_cases k7 : (p.getD i default).kind = 7
                  · have hs : stOk p i = tryOkF (kindsP p (tailQ p (p.getD i default).depth (endP p i))) := by
                      unfold stOk; rw [k7]; simp only [show followsK 7 = false from rfl, decide_true, Bool.not_true, Bool.not_false, Bool.false_or, Bool.true_or, Bool.and_true, show ¬ (7 : Int) = 5 by decide, show ¬ (7 : Int) = 6 by decide, decide_false, Bool.or_self]
                    rw [hs]
                    simp +contextual -dsimp -implicitDefEqProofs (maxSteps := 5000000) only [go_sem, reduceIte, reduceCtorEq, Nat.reduceEqDiff, Nat.reduceBEq, Nat.reduceAdd, Nat.reduceLeDiff, Nat.reduceMul, Nat.reduceLT, Int.reduceEq, Int.reduceLT, Int.reduceLE, hi, k7]
                    refine (c_validChain p cl' i _ hi hp).det ?_
                    cases hc : tryOkF (kindsP p (tailQ p (p.getD i default).depth (endP p i)))
                    · simp +contextual -dsimp -implicitDefEqProofs (maxSteps := 5000000) only [go_sem, reduceIte, reduceCtorEq, Nat.reduceEqDiff, Nat.reduceBEq, Nat.reduceAdd, Nat.reduceLeDiff, Nat.reduceMul, Nat.reduceLT, Int.reduceEq, Int.reduceLT, Int.reduceLE, hi, k7]
                    · simp +contextual -dsimp -implicitDefEqProofs (maxSteps := 5000000) only [go_sem, reduceIte, reduceCtorEq, Nat.reduceEqDiff, Nat.reduceBEq, Nat.reduceAdd, Nat.reduceLeDiff, Nat.reduceMul, Nat.reduceLT, Int.reduceEq, Int.reduceLT, Int.reduceLE, hi, k7]
                      refine (c_follows _ _).det ?_
                      rw [show followsK 7 = false from rfl]
                      simp +contextual -dsimp -implicitDefEqProofs (maxSteps := 5000000) only [go_sem, reduceIte, reduceCtorEq, Nat.reduceEqDiff, Nat.reduceBEq, Nat.reduceAdd, Nat.reduceLeDiff, Nat.reduceMul, Nat.reduceLT, Int.reduceEq, Int.reduceLT, Int.reduceLE]
                  · by_cases k5 : (p.getD i default).kind = 5
                    · have hs : stOk p i = inLoopR (p.getD i default).depth (upto p i) := by
                        unfold stOk; rw [k5]; simp only [show followsK 5 = false from rfl, decide_true, Bool.not_true, Bool.not_false, Bool.false_or, Bool.true_or, Bool.or_true, Bool.and_true, Bool.true_and, show ¬ (5 : Int) = 7 by decide, show ¬ (5 : Int) = 6 by decide, decide_false]
                      rw [hs]
                      simp +contextual -dsimp -implicitDefEqProofs (maxSteps := 5000000) only [go_sem, reduceIte, reduceCtorEq, Nat.reduceEqDiff, Nat.reduceBEq, Nat.reduceAdd, Nat.reduceLeDiff, Nat.reduceMul, Nat.reduceLT, Int.reduceEq, Int.reduceLT, Int.reduceLE, hi, k5]
                      refine (c_inLoop p cl' i _ hi).det ?_
                      cases hc : inLoopR (p.getD i default).depth (upto p i)
                      · simp +contextual -dsimp -implicitDefEqProofs (maxSteps := 5000000) only [go_sem, reduceIte, reduceCtorEq, Nat.reduceEqDiff, Nat.reduceBEq, Nat.reduceAdd, Nat.reduceLeDiff, Nat.reduceMul, Nat.reduceLT, Int.reduceEq, Int.reduceLT, Int.reduceLE, hi, k5]
                      · simp +contextual -dsimp -implicitDefEqProofs (maxSteps := 5000000) only [go_sem, reduceIte, reduceCtorEq, Nat.reduceEqDiff, Nat.reduceBEq, Nat.reduceAdd, Nat.reduceLeDiff, Nat.reduceMul, Nat.reduceLT, Int.reduceEq, Int.reduceLT, Int.reduceLE, hi, k5]
                        refine (c_follows _ _).det ?_
                        rw [show followsK 5 = false from rfl]
                        simp +contextual -dsimp -implicitDefEqProofs (maxSteps := 5000000) only [go_sem, reduceIte, reduceCtorEq, Nat.reduceEqDiff, Nat.reduceBEq, Nat.reduceAdd, Nat.reduceLeDiff, Nat.reduceMul, Nat.reduceLT, Int.reduceEq, Int.reduceLT, Int.reduceLE]
                    · by_cases k6 : (p.getD i default).kind = 6
                      · have hs : stOk p i = inLoopR (p.getD i default).depth (upto p i) := by
                          unfold stOk; rw [k6]; simp only [show followsK 6 = false from rfl, decide_true, Bool.not_true, Bool.not_false, Bool.false_or, Bool.true_or, Bool.or_true, Bool.and_true, Bool.true_and, show ¬ (6 : Int) = 7 by decide, show ¬ (6 : Int) = 5 by decide, decide_false]
                        rw [hs]
                        simp +contextual -dsimp -implicitDefEqProofs (maxSteps := 5000000) only [go_sem, reduceIte, reduceCtorEq, Nat.reduceEqDiff, Nat.reduceBEq, Nat.reduceAdd, Nat.reduceLeDiff, Nat.reduceMul, Nat.reduceLT, Int.reduceEq, Int.reduceLT, Int.reduceLE, hi, k6]
                        refine (c_inLoop p cl' i _ hi).det ?_
                        cases hc : inLoopR (p.getD i default).depth (upto p i)
                        · simp +contextual -dsimp -implicitDefEqProofs (maxSteps := 5000000) only [go_sem, reduceIte, reduceCtorEq, Nat.reduceEqDiff, Nat.reduceBEq, Nat.reduceAdd, Nat.reduceLeDiff, Nat.reduceMul, Nat.reduceLT, Int.reduceEq, Int.reduceLT, Int.reduceLE, hi, k6]
                        · simp +contextual -dsimp -implicitDefEqProofs (maxSteps := 5000000) only [go_sem, reduceIte, reduceCtorEq, Nat.reduceEqDiff, Nat.reduceBEq, Nat.reduceAdd, Nat.reduceLeDiff, Nat.reduceMul, Nat.reduceLT, Int.reduceEq, Int.reduceLT, Int.reduceLE, hi, k6]
                          refine (c_follows _ _).det ?_
                          rw [show followsK 6 = false from rfl]
                          simp +contextual -dsimp -implicitDefEqProofs (maxSteps := 5000000) only [go_sem, reduceIte, reduceCtorEq, Nat.reduceEqDiff, Nat.reduceBEq, Nat.reduceAdd, Nat.reduceLeDiff, Nat.reduceMul, Nat.reduceLT, Int.reduceEq, Int.reduceLT, Int.reduceLE]
                      · have hs : stOk p i = (!followsK (p.getD i default).kind || headOkR (headR (p.getD i default).depth (upto p i))) := by
                          unfold stOk; simp only [k7, k5, k6, decide_false, Bool.not_false, Bool.true_or, Bool.true_and, Bool.or_self]
                        rw [hs]
                        simp +contextual -dsimp -implicitDefEqProofs (maxSteps := 5000000) only [go_sem, reduceIte, reduceCtorEq, Nat.reduceEqDiff, Nat.reduceBEq, Nat.reduceAdd, Nat.reduceLeDiff, Nat.reduceMul, Nat.reduceLT, Int.reduceEq, Int.reduceLT, Int.reduceLE, hi, k5, k6, k7]
                        refine (c_follows _ _).det ?_
                        cases hf : followsK (p.getD i default).kind
                        · simp +contextual -dsimp -implicitDefEqProofs (maxSteps := 5000000) only [go_sem, reduceIte, reduceCtorEq, Nat.reduceEqDiff, Nat.reduceBEq, Nat.reduceAdd, Nat.reduceLeDiff, Nat.reduceMul, Nat.reduceLT, Int.reduceEq, Int.reduceLT, Int.reduceLE]
                        · simp +contextual -dsimp -implicitDefEqProofs (maxSteps := 5000000) only [go_sem, reduceIte, reduceCtorEq, Nat.reduceEqDiff, Nat.reduceBEq, Nat.reduceAdd, Nat.reduceLeDiff, Nat.reduceMul, Nat.reduceLT, Int.reduceEq, Int.reduceLT, Int.reduceLE, hi]
                          refine (c_headOf p cl' i _ hi).mono ?_
                          rintro _ _ ⟨v, rfl, rfl, hv⟩
                          rcases hv with ⟨rfl, hv⟩ | ⟨k, rfl, hk, hv⟩
                          · rw [hv]
                            have z : ¬ (0 : Int) ≤ -1 := by omega
                            simp +contextual -dsimp -implicitDefEqProofs (maxSteps := 5000000) only [go_sem, reduceIte, reduceCtorEq, Nat.reduceEqDiff, Nat.reduceBEq, Nat.reduceAdd, Nat.reduceLeDiff, Nat.reduceMul, Nat.reduceLT, Int.reduceEq, Int.reduceLT, Int.reduceLE, z, headOkR]
                          · rw [hv]
                            simp +contextual -dsimp -implicitDefEqProofs (maxSteps := 5000000) only [go_sem, reduceIte, reduceCtorEq, Nat.reduceEqDiff, Nat.reduceBEq, Nat.reduceAdd, Nat.reduceLeDiff, Nat.reduceMul, Nat.reduceLT, Int.reduceEq, Int.reduceLT, Int.reduceLE, hk, headOkR]
                            by_cases q7 : (p.getD k default).kind = 7
                            · simp +contextual -dsimp -implicitDefEqProofs (maxSteps := 5000000) only [go_sem, reduceIte, reduceCtorEq, Nat.reduceEqDiff, Nat.reduceBEq, Nat.reduceAdd, Nat.reduceLeDiff, Nat.reduceMul, Nat.reduceLT, Int.reduceEq, Int.reduceLT, Int.reduceLE, q7]
                            · simp +contextual -dsimp -implicitDefEqProofs (maxSteps := 5000000) only [go_sem, reduceIte, reduceCtorEq, Nat.reduceEqDiff, Nat.reduceBEq, Nat.reduceAdd, Nat.reduceLeDiff, Nat.reduceMul, Nat.reduceLT, Int.reduceEq, Int.reduceLT, Int.reduceLE, q7, hk]
                              refine (c_follows _ _).det ?_
                              simp +contextual -dsimp -implicitDefEqProofs (maxSteps := 5000000) only [go_sem, reduceIte, reduceCtorEq, Nat.reduceEqDiff, Nat.reduceBEq, Nat.reduceAdd, Nat.reduceLeDiff, Nat.reduceMul, Nat.reduceLT, Int.reduceEq, Int.reduceLT, Int.reduceLE, q7]
                              simp only [headOkR, q7, decide_false, Bool.false_or]
                · rw [bad2 (ee true ho el)]
                  simp +contextual -dsimp -implicitDefEqProofs (maxSteps := 5000000) only [go_sem, reduceIte, reduceCtorEq, Nat.reduceEqDiff, Nat.reduceBEq, Nat.reduceAdd, Nat.reduceLeDiff, Nat.reduceMul, Nat.reduceLT, Int.reduceEq, Int.reduceLT, Int.reduceLE, hi]
              · have el' : ¬ ((i + 1 : Nat) : Int) = (p.length : Int) := by omega
                have hend := en el
                simp +contextual -dsimp -implicitDefEqProofs (maxSteps := 5000000) only [go_sem, reduceIte, reduceCtorEq, Nat.reduceEqDiff, Nat.reduceBEq, Nat.reduceAdd, Nat.reduceLeDiff, Nat.reduceMul, Nat.reduceLT, Int.reduceEq, Int.reduceLT, Int.reduceLE, hi, i0', i1, hwi, hi1, hwd, g, e, hw, el', hi2]
                rw [fin hrel hend]
                by_cases k7 : (p.getD i default).kind = 7
                · have hs : stOk p i = tryOkF (kindsP p (tailQ p (p.getD i default).depth (endP p i))) := by
                    unfold stOk; rw [k7]; simp only [show followsK 7 = false from rfl, decide_true, Bool.not_true, Bool.not_false, Bool.false_or, Bool.true_or, Bool.and_true, show ¬ (7 : Int) = 5 by decide, show ¬ (7 : Int) = 6 by decide, decide_false, Bool.or_self]
                  rw [hs]
                  simp +contextual -dsimp -implicitDefEqProofs (maxSteps := 5000000) only [go_sem, reduceIte, reduceCtorEq, Nat.reduceEqDiff, Nat.reduceBEq, Nat.reduceAdd, Nat.reduceLeDiff, Nat.reduceMul, Nat.reduceLT, Int.reduceEq, Int.reduceLT, Int.reduceLE, hi, k7]
                  refine (c_validChain p cl' i _ hi hp).det ?_
                  cases hc : tryOkF (kindsP p (tailQ p (p.getD i default).depth (endP p i)))
                  · simp +contextual -dsimp -implicitDefEqProofs (maxSteps := 5000000) only [go_sem, reduceIte, reduceCtorEq, Nat.reduceEqDiff, Nat.reduceBEq, Nat.reduceAdd, Nat.reduceLeDiff, Nat.reduceMul, Nat.reduceLT, Int.reduceEq, Int.reduceLT, Int.reduceLE, hi, k7]
                  · simp +contextual -dsimp -implicitDefEqProofs (maxSteps := 5000000) only [go_sem, reduceIte, reduceCtorEq, Nat.reduceEqDiff, Nat.reduceBEq, Nat.reduceAdd, Nat.reduceLeDiff, Nat.reduceMul, Nat.reduceLT, Int.reduceEq, Int.reduceLT, Int.reduceLE, hi, k7]
                    refine (c_follows _ _).det ?_
                    rw [show followsK 7 = false from rfl]
                    simp +contextual -dsimp -implicitDefEqProofs (maxSteps := 5000000) only [go_sem, reduceIte, reduceCtorEq, Nat.reduceEqDiff, Nat.reduceBEq, Nat.reduceAdd, Nat.reduceLeDiff, Nat.reduceMul, Nat.reduceLT, Int.reduceEq, Int.reduceLT, Int.reduceLE]
                · by_cases k5 : (p.getD i default).kind = 5
                  · have hs : stOk p i = inLoopR (p.getD i default).depth (upto p i) := by
                      unfold stOk; rw [k5]; simp only [show followsK 5 = false from rfl, decide_true, Bool.not_true, Bool.not_false, Bool.false_or, Bool.true_or, Bool.or_true, Bool.and_true, Bool.true_and, show ¬ (5 : Int) = 7 by decide, show ¬ (5 : Int) = 6 by decide, decide_false]
                    rw [hs]
                    simp +contextual -dsimp -implicitDefEqProofs (maxSteps := 5000000) only [go_sem, reduceIte, reduceCtorEq, Nat.reduceEqDiff, Nat.reduceBEq, Nat.reduceAdd, Nat.reduceLeDiff, Nat.reduceMul, Nat.reduceLT, Int.reduceEq, Int.reduceLT, Int.reduceLE, hi, k5]
                    refine (c_inLoop p cl' i _ hi).det ?_
                    cases hc : inLoopR (p.getD i default).depth (upto p i)
                    · simp +contextual -dsimp -implicitDefEqProofs (maxSteps := 5000000) only [go_sem, reduceIte, reduceCtorEq, Nat.reduceEqDiff, Nat.reduceBEq, Nat.reduceAdd, Nat.reduceLeDiff, Nat.reduceMul, Nat.reduceLT, Int.reduceEq, Int.reduceLT, Int.reduceLE, hi, k5]
                    · simp +contextual -dsimp -implicitDefEqProofs (maxSteps := 5000000) only [go_sem, reduceIte, reduceCtorEq, Nat.reduceEqDiff, Nat.reduceBEq, Nat.reduceAdd, Nat.reduceLeDiff, Nat.reduceMul, Nat.reduceLT, Int.reduceEq, Int.reduceLT, Int.reduceLE, hi, k5]
                      refine (c_follows _ _).det ?_
                      rw [show followsK 5 = false from rfl]
                      simp +contextual -dsimp -implicitDefEqProofs (maxSteps := 5000000) only [go_sem, reduceIte, reduceCtorEq, Nat.reduceEqDiff, Nat.reduceBEq, Nat.reduceAdd, Nat.reduceLeDiff, Nat.reduceMul, Nat.reduceLT, Int.reduceEq, Int.reduceLT, Int.reduceLE]
                  · by_cases k6 : (p.getD i default).kind = 6
                    · have hs : stOk p i = inLoopR (p.getD i default).depth (upto p i) := by
                        unfold stOk; rw [k6]; simp only [show followsK 6 = false from rfl, decide_true, Bool.not_true, Bool.not_false, Bool.false_or, Bool.true_or, Bool.or_true, Bool.and_true, Bool.true_and, show ¬ (6 : Int) = 7 by decide, show ¬ (6 : Int) = 5 by decide, decide_false]
                      rw [hs]
                      simp +contextual -dsimp -implicitDefEqProofs (maxSteps := 5000000) only [go_sem, reduceIte, reduceCtorEq, Nat.reduceEqDiff, Nat.reduceBEq, Nat.reduceAdd, Nat.reduceLeDiff, Nat.reduceMul, Nat.reduceLT, Int.reduceEq, Int.reduceLT, Int.reduceLE, hi, k6]
                      refine (c_inLoop p cl' i _ hi).det ?_
                      cases hc : inLoopR (p.getD i default).depth (upto p i)
                      · simp +contextual -dsimp -implicitDefEqProofs (maxSteps := 5000000) only [go_sem, reduceIte, reduceCtorEq, Nat.reduceEqDiff, Nat.reduceBEq, Nat.reduceAdd, Nat.reduceLeDiff, Nat.reduceMul, Nat.reduceLT, Int.reduceEq, Int.reduceLT, Int.reduceLE, hi, k6]
                      · simp +contextual -dsimp -implicitDefEqProofs (maxSteps := 5000000) only [go_sem, reduceIte, reduceCtorEq, Nat.reduceEqDiff, Nat.reduceBEq, Nat.reduceAdd, Nat.reduceLeDiff, Nat.reduceMul, Nat.reduceLT, Int.reduceEq, Int.reduceLT, Int.reduceLE, hi, k6]
                        refine (c_follows _ _).det ?_
                        rw [show followsK 6 = false from rfl]
                        simp +contextual -dsimp -implicitDefEqProofs (maxSteps := 5000000) only [go_sem, reduceIte, reduceCtorEq, Nat.reduceEqDiff, Nat.reduceBEq, Nat.reduceAdd, Nat.reduceLeDiff, Nat.reduceMul, Nat.reduceLT, Int.reduceEq, Int.reduceLT, Int.reduceLE]
                    · have hs : stOk p i = (!followsK (p.getD i default).kind || headOkR (headR (p.getD i default).depth (upto p i))) := by
                        unfold stOk; simp only [k7, k5, k6, decide_false, Bool.not_false, Bool.true_or, Bool.true_and, Bool.or_self]
                      rw [hs]
                      simp +contextual -dsimp -implicitDefEqProofs (maxSteps := 5000000) only [go_sem, reduceIte, reduceCtorEq, Nat.reduceEqDiff, Nat.reduceBEq, Nat.reduceAdd, Nat.reduceLeDiff, Nat.reduceMul, Nat.reduceLT, Int.reduceEq, Int.reduceLT, Int.reduceLE, hi, k5, k6, k7]
                      refine (c_follows _ _).det ?_
                      cases hf : followsK (p.getD i default).kind
                      · simp +contextual -dsimp -implicitDefEqProofs (maxSteps := 5000000) only [go_sem, reduceIte, reduceCtorEq, Nat.reduceEqDiff, Nat.reduceBEq, Nat.reduceAdd, Nat.reduceLeDiff, Nat.reduceMul, Nat.reduceLT, Int.reduceEq, Int.reduceLT, Int.reduceLE]
                      · simp +contextual -dsimp -implicitDefEqProofs (maxSteps := 5000000) only [go_sem, reduceIte, reduceCtorEq, Nat.reduceEqDiff, Nat.reduceBEq, Nat.reduceAdd, Nat.reduceLeDiff, Nat.reduceMul, Nat.reduceLT, Int.reduceEq, Int.reduceLT, Int.reduceLE, hi]
                        refine (c_headOf p cl' i _ hi).mono ?_
                        rintro _ _ ⟨v, rfl, rfl, hv⟩
                        rcases hv with ⟨rfl, hv⟩ | ⟨k, rfl, hk, hv⟩
                        · rw [hv]
                          have z : ¬ (0 : Int) ≤ -1 := by omega
                          simp +contextual -dsimp -implicitDefEqProofs (maxSteps := 5000000) only [go_sem, reduceIte, reduceCtorEq, Nat.reduceEqDiff, Nat.reduceBEq, Nat.reduceAdd, Nat.reduceLeDiff, Nat.reduceMul, Nat.reduceLT, Int.reduceEq, Int.reduceLT, Int.reduceLE, z, headOkR]
                        · rw [hv]
                          simp +contextual -dsimp -implicitDefEqProofs (maxSteps := 5000000) only [go_sem, reduceIte, reduceCtorEq, Nat.reduceEqDiff, Nat.reduceBEq, Nat.reduceAdd, Nat.reduceLeDiff, Nat.reduceMul, Nat.reduceLT, Int.reduceEq, Int.reduceLT, Int.reduceLE, hk, headOkR]
                          by_cases q7 : (p.getD k default).kind = 7
                          · simp +contextual -dsimp -implicitDefEqProofs (maxSteps := 5000000) only [go_sem, reduceIte, reduceCtorEq, Nat.reduceEqDiff, Nat.reduceBEq, Nat.reduceAdd, Nat.reduceLeDiff, Nat.reduceMul, Nat.reduceLT, Int.reduceEq, Int.reduceLT, Int.reduceLE, q7]
                          · simp +contextual -dsimp -implicitDefEqProofs (maxSteps := 5000000) only [go_sem, reduceIte, reduceCtorEq, Nat.reduceEqDiff, Nat.reduceBEq, Nat.reduceAdd, Nat.reduceLeDiff, Nat.reduceMul, Nat.reduceLT, Int.reduceEq, Int.reduceLT, Int.reduceLE, q7, hk]
                            refine (c_follows _ _).det ?_
                            simp +contextual -dsimp -implicitDefEqProofs (maxSteps := 5000000) only [go_sem, reduceIte, reduceCtorEq, Nat.reduceEqDiff, Nat.reduceBEq, Nat.reduceAdd, Nat.reduceLeDiff, Nat.reduceMul, Nat.reduceLT, Int.reduceEq, Int.reduceLT, Int.reduceLE, q7]
                            simp only [headOkR, q7, decide_false, Bool.false_or]
            · have hb : relOk p i = false := by
                rw [er]; unfold stepOk; rw [ho, if_pos rfl]; exact decide_eq_false e
              simp +contextual -dsimp -implicitDefEqProofs (maxSteps := 5000000) only [go_sem, reduceIte, reduceCtorEq, Nat.reduceEqDiff, Nat.reduceBEq, Nat.reduceAdd, Nat.reduceLeDiff, Nat.reduceMul, Nat.reduceLT, Int.reduceEq, Int.reduceLT, Int.reduceLE, hi, i0', i1, hwi, hi1, hwd, g, e, bad1 hb]
theorem lastI_eq {t : List Class} {p : List Line} : (∀ i, i < p.length → lineOk t p i = true) ↔ ((depT t p = true ∧ (p ≠ [] → (p.getD 0 default).depth = 0)) ∧ ∀ i, i < p.length → stOk p i = true) := by
  rw [depT_iff]
  simp only [lineOk, Bool.and_eq_true]
  constructor
  · intro h
    refine ⟨⟨⟨fun i hi => (h i hi).1, fun i hi => ?_, fun hne => ?_⟩, fun hne => ?_⟩, fun i hi => (h i hi).2.2⟩
    · have := (h (i + 1) hi).2.1.1
      unfold relOk at this
      rw [if_neg (by omega), Nat.add_sub_cancel] at this
      exact this
    · have hl := List.length_pos_iff.2 hne
      have := (h (p.length - 1) (by omega)).2.1.2
      unfold endOk at this
      rw [decide_eq_true (show p.length - 1 + 1 = p.length by omega), Bool.true_and, Bool.not_eq_true'] at this
      exact this
    · have hl := List.length_pos_iff.2 hne
      have := (h 0 hl).2.1.1
      unfold relOk at this
      rw [if_pos rfl] at this
      simpa using this
  · rintro ⟨⟨⟨h1, h2, h3⟩, h4⟩, h5⟩ i hi
    have hne : p ≠ [] := fun q => by rw [q] at hi; cases hi
    refine ⟨h1 i hi, ⟨?_, ?_⟩, h5 i hi⟩
    · unfold relOk
      split
      · rename_i i0; subst i0; simpa using h4 hne
      · have := h2 (i - 1) (by omega)
        rw [show i - 1 + 1 = i by omega] at this
        exact this
    · unfold endOk
      by_cases e : i + 1 = p.length
      · have := h3 hne
        rw [show p.length - 1 = i by omega] at this
        rw [this]; simp
      · rw [decide_eq_false e]; rfl
/-- What the reference looks at, line by line, is what makes a program valid. -/
theorem validP_lines (t : List Class) (p : List Line) : ValidP t p ↔ ((∀ i, i < p.length → lineOk t p i = true) ∧ validT t = true ∧ p.length ≤ 24) := by
  rw [lastI_eq]
  constructor
  · rintro ⟨h1, h2, f, rfl, h3, h4⟩
    refine ⟨⟨⟨?_, fun hne => ?_⟩, ?_⟩, h1, h2⟩
    · have := depT_flat (t := t) f 0 [] h3 (low_nil _) rfl
      simpa using this
    · cases f with
      | nil => exact absurd rfl hne
      | node k a b x y => rfl
    · have hat := at_top (f := f) rfl
      have := (st_ok f 0 0 false false hat h3 (by simp [upto, inLoopR]) (by simp [upto, headR, headOkR])).2 h4
      exact fun i hi => this i (by omega) (by rw [Nat.zero_add, ← flat_len f 0]; exact hi)
  · rintro ⟨⟨⟨h1, h2⟩, h3⟩, h4, h5⟩
    obtain ⟨f, hf, hn⟩ := forest_top h1 h2
    refine ⟨h4, h5, f, hf, hn, ?_⟩
    have hat := at_top hf
    exact (st_ok f 0 0 false false hat hn (by simp [upto, inLoopR]) (by simp [upto, headR, headOkR])).1 fun i _ hi => h3 i (by rw [hf, flat_len]; omega)
theorem validP_blocks {t : List Class} {p : List Line} {f : Fo} (h1 : validT t = true) (h2 : p.length ≤ 24) (hf : p = f.flat 0) (hn : numsF t f 0 = true) : ValidP t p ↔ okF f false false = true := by
  constructor
  · rintro ⟨_, _, g, hg, _, h⟩
    have : f = g := flat_one (d := 0) (by rw [← hf, ← hg])
    rw [this]; exact h
  · exact fun h => ⟨h1, h2, f, hf, hn, h⟩
/-- Whether lines are a valid program, as a truth value. -/
noncomputable def validB (t : List Class) (p : List Line) : Bool := @decide (ValidP t p) (Classical.propDecidable _)
theorem validB_true {t : List Class} {p : List Line} : validB t p = true ↔ ValidP t p := by unfold validB; exact @decide_eq_true_iff _ (Classical.propDecidable _)
theorem validB_false {t : List Class} {p : List Line} : validB t p = false ↔ ¬ ValidP t p := by unfold validB; exact @decide_eq_false_iff_not _ (Classical.propDecidable _)
theorem validB_is {t : List Class} {p : List Line} {b : Bool} (h : ValidP t p ↔ b = true) : validB t p = b := by
  cases b
  · exact validB_false.2 (fun q => by cases h.1 q)
  · exact validB_true.2 (h.2 rfl)
theorem c_svalidProgram (t : List Class) (cl : Bool) (p : List Line) (cl' : Bool) (H : AHeap) (hn : namesOk t) (hp : p.length ≤ 4398046511104) :
    ACalls Tryz.prog 51 [aTree t cl, aProg p cl'] H fun r H' => r = B (validB t p) ∧ H' = H := by
  refine acalls_of0 Tryz.func51 rfl (by kernel_rfl) rfl rfl (awp_sound (fz := fun _ => []) (im := fun s => s == 2) mixed _ _ _ _ (by kernel_rfl) ?_)
  simp +contextual -dsimp -implicitDefEqProofs (maxSteps := 5000000) only [go_sem, reduceIte, reduceCtorEq, Nat.reduceEqDiff, Nat.reduceBEq, Nat.reduceAdd, Nat.reduceLeDiff, Nat.reduceMul, Nat.reduceLT, Int.reduceEq, Int.reduceLT, Int.reduceLE]
  refine aloop mixed (fz := fun _ => []) (im := fun s => s == 2) (by kernel_rfl) (fun m tm H' => ∃ k : Nat, m = p.length - k ∧ k ≤ p.length ∧ H' = H ∧ tm 1 = aProg p cl' ∧ tm 2 = .vptr [[.vsl (t.map rClass) cl]] 0 0 ∧ tm 5 = I k ∧ ∀ i, i < k → lineOk t p i = true) p.length ⟨0, by omega, by omega, rfl, ?_⟩ ?_
  · simp +contextual -dsimp -implicitDefEqProofs (maxSteps := 5000000) only [go_sem, reduceIte, reduceCtorEq, Nat.reduceEqDiff, Nat.reduceBEq, Nat.reduceAdd, Nat.reduceLeDiff, Nat.reduceMul, Nat.reduceLT, Int.reduceEq, Int.reduceLT, Int.reduceLE]
    exact fun i hi => by omega
  · rintro m tm H ⟨k, rfl, hk, rfl, t1, t2, t5, hok⟩
    by_cases hlt : k < p.length
    · simp +contextual -dsimp -implicitDefEqProofs (maxSteps := 5000000) only [go_sem, reduceIte, reduceCtorEq, Nat.reduceEqDiff, Nat.reduceBEq, Nat.reduceAdd, Nat.reduceLeDiff, Nat.reduceMul, Nat.reduceLT, Int.reduceEq, Int.reduceLT, Int.reduceLE, t1, t2, t5, hlt]
      refine (c_validLine t cl p cl' k _ hlt hp (fun k0 => ?_)).det ?_
      · have := hok (k - 1) (by omega)
        simp only [lineOk, Bool.and_eq_true] at this
        exact (oneOk_num this.1).2
      · cases hl : lineOk t p k
        · simp +contextual -dsimp -implicitDefEqProofs (maxSteps := 5000000) only [go_sem, reduceIte, reduceCtorEq, Nat.reduceEqDiff, Nat.reduceBEq, Nat.reduceAdd, Nat.reduceLeDiff, Nat.reduceMul, Nat.reduceLT, Int.reduceEq, Int.reduceLT, Int.reduceLE]
          rw [validB_false.2 (fun q => by rw [((validP_lines t p).1 q).1 k hlt] at hl; cases hl)]
        · simp +contextual -dsimp -implicitDefEqProofs (maxSteps := 5000000) only [go_sem, reduceIte, reduceCtorEq, Nat.reduceEqDiff, Nat.reduceBEq, Nat.reduceAdd, Nat.reduceLeDiff, Nat.reduceMul, Nat.reduceLT, Int.reduceEq, Int.reduceLT, Int.reduceLE, t1, t2, t5]
          exact ⟨_, by omega, k + 1, rfl, hlt, I_wrap (by omega) (by omega) (by omega), fun i hi => by
            rcases Nat.lt_or_ge i k with q | q
            · exact hok i q
            · rw [show i = k by omega]; exact hl⟩
    · have hke : k = p.length := by omega
      subst hke
      simp +contextual -dsimp -implicitDefEqProofs (maxSteps := 5000000) only [go_sem, reduceIte, reduceCtorEq, Nat.reduceEqDiff, Nat.reduceBEq, Nat.reduceAdd, Nat.reduceLeDiff, Nat.reduceMul, Nat.reduceLT, Int.reduceEq, Int.reduceLT, Int.reduceLE, t1, t2, t5, hlt]
      refine (c_validTree t cl _ hn).det ?_
      cases e1 : validT t
      · simp +contextual -dsimp -implicitDefEqProofs (maxSteps := 5000000) only [go_sem, reduceIte, reduceCtorEq, Nat.reduceEqDiff, Nat.reduceBEq, Nat.reduceAdd, Nat.reduceLeDiff, Nat.reduceMul, Nat.reduceLT, Int.reduceEq, Int.reduceLT, Int.reduceLE]
        rw [validB_false.2 (fun q => by rw [q.1] at e1; cases e1)]
      · simp +contextual -dsimp -implicitDefEqProofs (maxSteps := 5000000) only [go_sem, reduceIte, reduceCtorEq, Nat.reduceEqDiff, Nat.reduceBEq, Nat.reduceAdd, Nat.reduceLeDiff, Nat.reduceMul, Nat.reduceLT, Int.reduceEq, Int.reduceLT, Int.reduceLE, t1]
        have : validB t p = decide ((p.length : Int) ≤ 24) := validB_is (by
          rw [validP_lines, e1, decide_eq_true_iff]
          exact ⟨fun q => by have := q.2.2; omega, fun q => ⟨hok, rfl, by omega⟩⟩)
        rw [this]
end
section
open Go Go.Sim
set_option maxRecDepth 100000
set_option maxHeartbeats 4000000

def lastL (p : List Line) (k : Nat) : Line := if k = 0 then ⟨-1, 7, 0, 0⟩ else p.getD (k - 1) default
theorem lastL_rel (p : List Line) (k : Nat) : relOk p k = stepOk (lastL p k) (p.getD k default) := by
  unfold relOk lastL
  split
  · rfl
  · rfl
theorem lastL_succ (p : List Line) (k : Nat) : lastL p (k + 1) = p.getD k default := by unfold lastL; rw [if_neg (by omega), Nat.add_sub_cancel]
theorem c_ValidProgram (t : List Class) (cl : Bool) (p : List Line) (cl' : Bool) (H : AHeap) (hn : namesOk t) (hp : p.length ≤ 4398046511104) :
    ACalls Tryz.prog 13 [aTree t cl, aProg p cl'] H fun r H' => r = B (validB t p) ∧ H' = H := by
  refine acalls_of1 Tryz.func13 rfl (by kernel_rfl) rfl rfl (awp_sound (fz := fun r => if r = 6 then [7] else []) (im := fun s => s == 2) mixed _ _ _ _ (by kernel_rfl) ?_)
  simp +contextual -dsimp -implicitDefEqProofs (maxSteps := 5000000) only [go_sem, reduceIte, reduceCtorEq, Nat.reduceEqDiff, Nat.reduceBEq, Nat.reduceAdd, Nat.reduceLeDiff, Nat.reduceMul, Nat.reduceLT, Int.reduceEq, Int.reduceLT, Int.reduceLE]
  refine (c_ValidTree t cl _ hn).det ?_
  cases e1 : validT t
  · rw [validB_false.2 (fun q => by rw [q.1] at e1; cases e1)]
    simp +contextual -dsimp -implicitDefEqProofs (maxSteps := 5000000) only [go_sem, reduceIte, reduceCtorEq, Nat.reduceEqDiff, Nat.reduceBEq, Nat.reduceAdd, Nat.reduceLeDiff, Nat.reduceMul, Nat.reduceLT, Int.reduceEq, Int.reduceLT, Int.reduceLE]
    refine retR_less (l := [B false]) (H' := H) ?_ (AHeap.le_refl _) ⟨rfl, rfl⟩
    simp only [resA, go_sem, reduceIte, reduceCtorEq, Nat.reduceEqDiff, Nat.reduceBEq, Nat.reduceAdd, Nat.reduceLeDiff, Nat.reduceMul, Nat.reduceLT, Int.reduceEq, Int.reduceLT, Int.reduceLE]
  · by_cases h24 : (24 : Int) < p.length
    · rw [validB_false.2 (fun q => by have := q.2.1; omega)]
      simp +contextual -dsimp -implicitDefEqProofs (maxSteps := 5000000) only [go_sem, reduceIte, reduceCtorEq, Nat.reduceEqDiff, Nat.reduceBEq, Nat.reduceAdd, Nat.reduceLeDiff, Nat.reduceMul, Nat.reduceLT, Int.reduceEq, Int.reduceLT, Int.reduceLE, h24]
      refine retR_less (l := [B false]) (H' := H) ?_ (AHeap.le_refl _) ⟨rfl, rfl⟩
      simp only [resA, go_sem, reduceIte, reduceCtorEq, Nat.reduceEqDiff, Nat.reduceBEq, Nat.reduceAdd, Nat.reduceLeDiff, Nat.reduceMul, Nat.reduceLT, Int.reduceEq, Int.reduceLT, Int.reduceLE]
    · simp +contextual -dsimp -implicitDefEqProofs (maxSteps := 5000000) only [go_sem, reduceIte, reduceCtorEq, Nat.reduceEqDiff, Nat.reduceBEq, Nat.reduceAdd, Nat.reduceLeDiff, Nat.reduceMul, Nat.reduceLT, Int.reduceEq, Int.reduceLT, Int.reduceLE, h24]
      intro b5 hb5
      refine aloop mixed (fz := fun r => if r = 6 then [7] else []) (im := fun s => s == 2) (by kernel_rfl) (fun m tm H' => ∃ k : Nat, m = p.length - k ∧ k ≤ p.length ∧ H' = H.set b5 ⟨4, 41, [rLine (lastL p k)]⟩ ∧ tm 1 = aProg p cl' ∧ tm 2 = .vptr [[.vsl (t.map rClass) cl]] 0 0 ∧ tm 5 = .ptr b5 4 0 0 ∧ tm 17 = aProg p cl' ∧ tm 18 = I p.length ∧ tm 19 = I k ∧ ∀ i, i < k → (oneOk t (p.getD i default) && relOk p i) = true) p.length ⟨0, by omega, by omega, rfl, ?_⟩ ?_
      · simp +contextual -dsimp -implicitDefEqProofs (maxSteps := 5000000) only [go_sem, reduceIte, reduceCtorEq, Nat.reduceEqDiff, Nat.reduceBEq, Nat.reduceAdd, Nat.reduceLeDiff, Nat.reduceMul, Nat.reduceLT, Int.reduceEq, Int.reduceLT, Int.reduceLE]
        exact fun i hi => by omega
      · rintro m tm H' ⟨k, rfl, hk, rfl, t1, t2, t5, t17, t18, t19, hok⟩
        by_cases hlt : k < p.length
        · have hld : -1 ≤ (lastL p k).depth ∧ (lastL p k).depth ≤ 5 := by
            unfold lastL
            split
            · exact ⟨by show (-1 : Int) ≤ -1; omega, by show (-1 : Int) ≤ 5; omega⟩
            · have := hok (k - 1) (by omega)
              rw [Bool.and_eq_true] at this
              have := inR5 (oneOk_num this.1).2
              omega
          have hw : IntKind.i64.wrap ((lastL p k).depth + 1) = (lastL p k).depth + 1 := w64 (by omega) (by omega)
          have bad : (oneOk t (p.getD k default) && relOk p k) = false → B false = B (validB t p) := fun q => by
            rw [validB_false.2 (fun v => ?_)]
            have := ((validP_lines t p).1 v).1 k hlt
            simp only [lineOk, Bool.and_eq_true] at this
            rw [this.1, this.2.1.1] at q
            cases q
          have hrl := lastL_rel p k
          unfold oneOk at bad
          have nxt : numOk t (p.getD k default).kind (p.getD k default).a (p.getD k default).b = true → inR (p.getD k default).depth 0 5 = true → relOk p k = true → ∀ i, i < k + 1 → oneOk t (p.getD i default) = true ∧ relOk p i = true := fun q1 q2 q3 i hi => by
            rcases Nat.lt_or_ge i k with z | z
            · have := hok i z; rw [Bool.and_eq_true] at this; exact this
            · rw [show i = k by omega]; exact ⟨by unfold oneOk; rw [q1, q2]; rfl, q3⟩
          simp +contextual -dsimp -implicitDefEqProofs (maxSteps := 5000000) only [go_sem, reduceIte, reduceCtorEq, Nat.reduceEqDiff, Nat.reduceBEq, Nat.reduceAdd, Nat.reduceLeDiff, Nat.reduceMul, Nat.reduceLT, Int.reduceEq, Int.reduceLT, Int.reduceLE, t1, t2, t5, t17, t18, t19, hlt]
          intro b7 hb7
          refine (c_argued t cl (p.getD k default) _).det ?_
          cases h1 : numOk t (p.getD k default).kind (p.getD k default).a (p.getD k default).b
          · have hb := bad (by rw [h1]; rfl)
            simp +contextual -dsimp -implicitDefEqProofs (maxSteps := 5000000) only [go_sem, reduceIte, reduceCtorEq, Nat.reduceEqDiff, Nat.reduceBEq, Nat.reduceAdd, Nat.reduceLeDiff, Nat.reduceMul, Nat.reduceLT, Int.reduceEq, Int.reduceLT, Int.reduceLE, t1, t2, t5, t17, t18, t19, hb7]
            rw [hb]
            refine retR_less (l := [B (validB t p)]) (H' := H) ?_ (le_set hb5) ⟨rfl, rfl⟩
            simp only [resA, go_sem, reduceIte, reduceCtorEq, Nat.reduceEqDiff, Nat.reduceBEq, Nat.reduceAdd, Nat.reduceLeDiff, Nat.reduceMul, Nat.reduceLT, Int.reduceEq, Int.reduceLT, Int.reduceLE]
          · simp +contextual -dsimp -implicitDefEqProofs (maxSteps := 5000000) only [go_sem, reduceIte, reduceCtorEq, Nat.reduceEqDiff, Nat.reduceBEq, Nat.reduceAdd, Nat.reduceLeDiff, Nat.reduceMul, Nat.reduceLT, Int.reduceEq, Int.reduceLT, Int.reduceLE, t1, t2, t5, t17, t18, t19, hb7]
            refine (c_within _ _ _ _).det ?_
            cases h2 : inR (p.getD k default).depth 0 5
            · have hb := bad (by rw [h1, h2]; rfl)
              simp +contextual -dsimp -implicitDefEqProofs (maxSteps := 5000000) only [go_sem, reduceIte, reduceCtorEq, Nat.reduceEqDiff, Nat.reduceBEq, Nat.reduceAdd, Nat.reduceLeDiff, Nat.reduceMul, Nat.reduceLT, Int.reduceEq, Int.reduceLT, Int.reduceLE, t1, t2, t5, t17, t18, t19, hb7]
              rw [hb]
              refine retR_less (l := [B (validB t p)]) (H' := H) ?_ (le_set hb5) ⟨rfl, rfl⟩
              simp only [resA, go_sem, reduceIte, reduceCtorEq, Nat.reduceEqDiff, Nat.reduceBEq, Nat.reduceAdd, Nat.reduceLeDiff, Nat.reduceMul, Nat.reduceLT, Int.reduceEq, Int.reduceLT, Int.reduceLE]
            · simp +contextual -dsimp -implicitDefEqProofs (maxSteps := 5000000) only [go_sem, reduceIte, reduceCtorEq, Nat.reduceEqDiff, Nat.reduceBEq, Nat.reduceAdd, Nat.reduceLeDiff, Nat.reduceMul, Nat.reduceLT, Int.reduceEq, Int.reduceLT, Int.reduceLE, t1, t2, t5, t17, t18, t19, hb7]
              refine (c_lineOpens (lastL p k) _).det ?_
              cases ho : opensK (lastL p k).kind
              · simp +contextual -dsimp -implicitDefEqProofs (maxSteps := 5000000) only [go_sem, reduceIte, reduceCtorEq, Nat.reduceEqDiff, Nat.reduceBEq, Nat.reduceAdd, Nat.reduceLeDiff, Nat.reduceMul, Nat.reduceLT, Int.reduceEq, Int.reduceLT, Int.reduceLE, t1, t2, t5, t17, t18, t19, hb7]
                refine (c_lineOpens (lastL p k) _).det ?_
                rw [ho]
                by_cases e : (lastL p k).depth < (p.getD k default).depth
                · have hb := bad (by rw [h1, h2, hrl]; unfold stepOk; rw [ho, if_neg (by decide), decide_eq_false (by omega)]; rfl)
                  simp +contextual -dsimp -implicitDefEqProofs (maxSteps := 5000000) only [go_sem, reduceIte, reduceCtorEq, Nat.reduceEqDiff, Nat.reduceBEq, Nat.reduceAdd, Nat.reduceLeDiff, Nat.reduceMul, Nat.reduceLT, Int.reduceEq, Int.reduceLT, Int.reduceLE, t1, t2, t5, t17, t18, t19, hb7, e]
                  rw [hb]
                  refine retR_less (l := [B (validB t p)]) (H' := H) ?_ (le_set hb5) ⟨rfl, rfl⟩
                  simp only [resA, go_sem, reduceIte, reduceCtorEq, Nat.reduceEqDiff, Nat.reduceBEq, Nat.reduceAdd, Nat.reduceLeDiff, Nat.reduceMul, Nat.reduceLT, Int.reduceEq, Int.reduceLT, Int.reduceLE]
                · simp +contextual -dsimp -implicitDefEqProofs (maxSteps := 5000000) only [go_sem, reduceIte, reduceCtorEq, Nat.reduceEqDiff, Nat.reduceBEq, Nat.reduceAdd, Nat.reduceLeDiff, Nat.reduceMul, Nat.reduceLT, Int.reduceEq, Int.reduceLT, Int.reduceLE, t1, t2, t5, t17, t18, t19, hb7, e]
                  refine ⟨_, by omega, k + 1, rfl, hlt, by rw [lastL_succ], I_wrap (by omega) (by omega) (by omega), ?_⟩
                  exact nxt h1 h2 (by rw [hrl]; unfold stepOk; rw [ho, if_neg (by decide)]; exact decide_eq_true (by omega))
              · by_cases e : (p.getD k default).depth = (lastL p k).depth + 1
                · simp +contextual -dsimp -implicitDefEqProofs (maxSteps := 5000000) only [go_sem, reduceIte, reduceCtorEq, Nat.reduceEqDiff, Nat.reduceBEq, Nat.reduceAdd, Nat.reduceLeDiff, Nat.reduceMul, Nat.reduceLT, Int.reduceEq, Int.reduceLT, Int.reduceLE, t1, t2, t5, t17, t18, t19, hb7, hw, e]
                  refine (c_lineOpens (lastL p k) _).det ?_
                  rw [ho]
                  simp +contextual -dsimp -implicitDefEqProofs (maxSteps := 5000000) only [go_sem, reduceIte, reduceCtorEq, Nat.reduceEqDiff, Nat.reduceBEq, Nat.reduceAdd, Nat.reduceLeDiff, Nat.reduceMul, Nat.reduceLT, Int.reduceEq, Int.reduceLT, Int.reduceLE, t1, t2, t5, t17, t18, t19, hb7]
                  refine ⟨_, by omega, k + 1, rfl, hlt, by rw [lastL_succ], I_wrap (by omega) (by omega) (by omega), ?_⟩
                  exact nxt h1 h2 (by rw [hrl]; unfold stepOk; rw [ho, if_pos rfl]; exact decide_eq_true e)
                · have hb := bad (by rw [h1, h2, hrl]; unfold stepOk; rw [ho, if_pos rfl, decide_eq_false e]; rfl)
                  simp +contextual -dsimp -implicitDefEqProofs (maxSteps := 5000000) only [go_sem, reduceIte, reduceCtorEq, Nat.reduceEqDiff, Nat.reduceBEq, Nat.reduceAdd, Nat.reduceLeDiff, Nat.reduceMul, Nat.reduceLT, Int.reduceEq, Int.reduceLT, Int.reduceLE, t1, t2, t5, t17, t18, t19, hb7, hw, e]
                  rw [hb]
                  refine retR_less (l := [B (validB t p)]) (H' := H) ?_ (le_set hb5) ⟨rfl, rfl⟩
                  simp only [resA, go_sem, reduceIte, reduceCtorEq, Nat.reduceEqDiff, Nat.reduceBEq, Nat.reduceAdd, Nat.reduceLeDiff, Nat.reduceMul, Nat.reduceLT, Int.reduceEq, Int.reduceLT, Int.reduceLE]
        · have hke : k = p.length := by omega
          subst hke
          have hok1 : ∀ i, i < p.length → oneOk t (p.getD i default) = true := fun i hi => by have := hok i hi; rw [Bool.and_eq_true] at this; exact this.1
          have hok2 : ∀ i, i < p.length → relOk p i = true := fun i hi => by have := hok i hi; rw [Bool.and_eq_true] at this; exact this.2
          have h24' : p.length ≤ 24 := by omega
          by_cases hp0 : p.length = 0
          · have hpn : p = [] := List.eq_nil_of_length_eq_zero hp0
            have hat := at_top (f := .nil) (p := p) hpn
            have hblk := c_blockOk p cl' hp 1 .nil 0 0 false (H.set b5 ⟨4, 41, [rLine (lastL p 0)]⟩) (by simp [Fo.size]) hat
            have e0 : ((0 + Fo.nil.size : Nat) : Int) = 0 := rfl
            have e1' : ((0 : Nat) : Int) = 0 := rfl
            rw [e0, e1'] at hblk
            have hv : validB t p = true := validB_true.2 ⟨e1, h24', .nil, hpn, rfl, rfl⟩
            have hp0' : (p.length : Int) = 0 := by omega
            rw [hv]
            simp +contextual -dsimp -implicitDefEqProofs (maxSteps := 5000000) only [go_sem, reduceIte, reduceCtorEq, Nat.reduceEqDiff, Nat.reduceBEq, Nat.reduceAdd, Nat.reduceLeDiff, Nat.reduceMul, Nat.reduceLT, Int.reduceEq, Int.reduceLT, Int.reduceLE, t1, t2, t5, t17, t18, t19, hlt, hp0, hp0']
            refine hblk.det ?_
            simp +contextual -dsimp -implicitDefEqProofs (maxSteps := 5000000) only [go_sem, reduceIte, reduceCtorEq, Nat.reduceEqDiff, Nat.reduceBEq, Nat.reduceAdd, Nat.reduceLeDiff, Nat.reduceMul, Nat.reduceLT, Int.reduceEq, Int.reduceLT, Int.reduceLE, okF]
            refine retR_less (l := [B true]) (H' := H) ?_ (le_set hb5) ⟨rfl, rfl⟩
            simp only [resA, go_sem, reduceIte, reduceCtorEq, Nat.reduceEqDiff, Nat.reduceBEq, Nat.reduceAdd, Nat.reduceLeDiff, Nat.reduceMul, Nat.reduceLT, Int.reduceEq, Int.reduceLT, Int.reduceLE]
          · have hp0' : ¬ (p.length : Int) = 0 := by omega
            have hlast : lastL p p.length = p.getD (p.length - 1) default := by unfold lastL; rw [if_neg hp0]
            simp +contextual -dsimp -implicitDefEqProofs (maxSteps := 5000000) only [go_sem, reduceIte, reduceCtorEq, Nat.reduceEqDiff, Nat.reduceBEq, Nat.reduceAdd, Nat.reduceLeDiff, Nat.reduceMul, Nat.reduceLT, Int.reduceEq, Int.reduceLT, Int.reduceLE, t1, t2, t5, t17, t18, t19, hlt, hp0, hp0']
            refine (c_lineOpens (lastL p p.length) _).det ?_
            cases ho : opensK (lastL p p.length).kind
            · have hd : depT t p = true := (depT_iff t p).2 ⟨hok1, fun i hi => by
                have := hok2 (i + 1) hi
                unfold relOk at this
                rw [if_neg (by omega), Nat.add_sub_cancel] at this
                exact this, fun _ => by rw [← hlast]; exact ho⟩
              obtain ⟨f, hf, hnf⟩ := forest_top hd (fun hne => by
                have := hok2 0 (by omega)
                unfold relOk at this
                rw [if_pos rfl] at this
                simpa using this)
              have hat := at_top hf
              have hfs : f.size = p.length := by rw [hf, flat_len]
              have hblk := c_blockOk p cl' hp (f.size + 1) f 0 0 false (H.set b5 ⟨4, 41, [rLine (lastL p p.length)]⟩) (by omega) hat
              have e0 : ((0 + f.size : Nat) : Int) = p.length := by omega
              have e1' : ((0 : Nat) : Int) = 0 := rfl
              rw [e0, e1'] at hblk
              have hv : validB t p = okF f false false := validB_is (validP_blocks e1 h24' hf hnf)
              rw [hv]
              simp +contextual -dsimp -implicitDefEqProofs (maxSteps := 5000000) only [go_sem, reduceIte, reduceCtorEq, Nat.reduceEqDiff, Nat.reduceBEq, Nat.reduceAdd, Nat.reduceLeDiff, Nat.reduceMul, Nat.reduceLT, Int.reduceEq, Int.reduceLT, Int.reduceLE, t1, t2, t5, t17, t18, t19, hp0']
              refine hblk.det ?_
              simp +contextual -dsimp -implicitDefEqProofs (maxSteps := 5000000) only [go_sem, reduceIte, reduceCtorEq, Nat.reduceEqDiff, Nat.reduceBEq, Nat.reduceAdd, Nat.reduceLeDiff, Nat.reduceMul, Nat.reduceLT, Int.reduceEq, Int.reduceLT, Int.reduceLE]
              refine retR_less (l := [B (okF f false false)]) (H' := H) ?_ (le_set hb5) ⟨rfl, rfl⟩
              simp only [resA, go_sem, reduceIte, reduceCtorEq, Nat.reduceEqDiff, Nat.reduceBEq, Nat.reduceAdd, Nat.reduceLeDiff, Nat.reduceMul, Nat.reduceLT, Int.reduceEq, Int.reduceLT, Int.reduceLE]
            · have hv : validB t p = false := validB_false.2 fun v => by
                have := (lastI_eq (t := t) (p := p)).1 ((validP_lines t p).1 v).1
                have := ((depT_iff t p).1 this.1.1).2.2 (fun q => hp0 (by rw [q]; rfl))
                rw [← hlast, ho] at this
                cases this
              rw [hv]
              simp +contextual -dsimp -implicitDefEqProofs (maxSteps := 5000000) only [go_sem, reduceIte, reduceCtorEq, Nat.reduceEqDiff, Nat.reduceBEq, Nat.reduceAdd, Nat.reduceLeDiff, Nat.reduceMul, Nat.reduceLT, Int.reduceEq, Int.reduceLT, Int.reduceLE, t1, t2, t5, t17, t18, t19, hp0']
              refine retR_less (l := [B false]) (H' := H) ?_ (le_set hb5) ⟨rfl, rfl⟩
              simp only [resA, go_sem, reduceIte, reduceCtorEq, Nat.reduceEqDiff, Nat.reduceBEq, Nat.reduceAdd, Nat.reduceLeDiff, Nat.reduceMul, Nat.reduceLT, Int.reduceEq, Int.reduceLT, Int.reduceLE]
end
section
open Go Go.Sim
set_option maxRecDepth 100000
set_option maxHeartbeats 4000000

def rEn (e : En) : List AV := [I e.ed, I e.val]
abbrev MachS (F H : AHeap) (bm : Nat) (t : List Class) (cl : Bool) (P : List Line) (clp : Bool) (s : RS) : Prop := Mach F H bm (.vsl (t.map rClass) cl) (aProg P clp) s.log s.fs s.first
/-- Shorter lists of lines can be run. -/
def LinesOk (t : List Class) (cl : Bool) (P : List Line) (clp : Bool) (n : Nat) : Prop :=
  ∀ (f : Fo) (i : Nat) (d h : Int) (s : RS) (F H : AHeap) (bm : Nat), f.size < n → At P i d f → numsF t f d = true → FsOk t s.fs → h < s.fs.length → s.log.length + cost f ≤ 900000 → s.fs.length + cost f ≤ 900000 → MachS F H bm t cl P clp s →
    ACalls Tryz.prog 49 [.ptr bm 5 0 0, I i, I (i + f.size : Nat), I h] H fun r H' => r = .agg (rEn (runF t f i none h s).1) ∧ MachS F H' bm t cl P clp (runF t f i none h s).2
theorem c_block {t : List Class} {cl : Bool} {P : List Line} {clp : Bool} {n : Nat} (ih : LinesOk t cl P clp n) {i : Nat} {d k a b h : Int} {kids rest : Fo} {s : RS} {F H : AHeap} {bm : Nat}
    (hn : kids.size < n) (hat : At P i d (.node k a b kids rest)) (hk : numsF t kids (d + 1) = true) (hs : FsOk t s.fs) (hh : h < s.fs.length) (hl : s.log.length + cost kids ≤ 900000) (hf : s.fs.length + cost kids ≤ 900000) (hM : MachS F H bm t cl P clp s) (hp : P.length ≤ 4398046511104) :
    ACalls Tryz.prog 138 [.ptr bm 5 0 0, I i, I h] H fun r H' => r = .agg (rEn (runF t kids (i + 1) none h s).1) ∧ MachS F H' bm t cl P clp (runF t kids (i + 1) none h s).2 := by
  have hi := hat.head.1
  have hw : IntKind.i64.wrap ((i : Int) + 1) = ((i + 1 : Nat) : Int) := by rw [w64 (by omega) (by omega)]; rfl
  refine acalls_of1 Tryz.func138 rfl (by kernel_rfl) rfl rfl (awp_sound (fz := fun _ => []) (im := fun _ => false) mixed _ _ _ _ (by kernel_rfl) ?_)
  simp +contextual -dsimp -implicitDefEqProofs (maxSteps := 5000000) only [go_sem, reduceIte, reduceCtorEq, Nat.reduceEqDiff, Nat.reduceBEq, Nat.reduceAdd, Nat.reduceLeDiff, Nat.reduceMul, Nat.reduceLT, Int.reduceEq, Int.reduceLT, Int.reduceLE, hw]
  intro b6 hb6
  obtain ⟨xl, xf, H1, H2, hF, hg1, hg2, hb, rfl⟩ := id hM
  have hb6' := hb6
  rw [set_none] at hb6'
  obtain ⟨n1, n2, hn2⟩ := hb6'
  simp +contextual -dsimp -implicitDefEqProofs (maxSteps := 5000000) only [go_sem, reduceIte, reduceCtorEq, Nat.reduceEqDiff, Nat.reduceBEq, Nat.reduceAdd, Nat.reduceLeDiff, Nat.reduceMul, Nat.reduceLT, Int.reduceEq, Int.reduceLT, Int.reduceLE, hw, n1, n2]
  refine (c_endOf P clp i _ hi).det ?_
  rw [hat.endP]
  simp +contextual -dsimp -implicitDefEqProofs (maxSteps := 5000000) only [go_sem, reduceIte, reduceCtorEq, Nat.reduceEqDiff, Nat.reduceBEq, Nat.reduceAdd, Nat.reduceLeDiff, Nat.reduceMul, Nat.reduceLT, Int.reduceEq, Int.reduceLT, Int.reduceLE, hw, n1, n2]
  refine (ih kids (i + 1) (d + 1) h s _ _ bm hn hat.kids hk hs hh hl hf (mach_in (K := ⟨2, 88, [[I 0, I 0]]⟩) hM hb6)).mono ?_
  rintro _ H3 ⟨rfl, hM3⟩
  obtain ⟨H4, rfl, hM4, hn4⟩ := mach_out hM3 (mach_none hM hb6)
  simp +contextual -dsimp -implicitDefEqProofs (maxSteps := 5000000) only [go_sem, reduceIte, reduceCtorEq, Nat.reduceEqDiff, Nat.reduceBEq, Nat.reduceAdd, Nat.reduceLeDiff, Nat.reduceMul, Nat.reduceLT, Int.reduceEq, Int.reduceLT, Int.reduceLE, rEn]
  refine retR_less (l := [.agg (rEn (runF t kids (i + 1) none h s).1)]) (H' := H4) ?_ (le_set hn4) ⟨rfl, hM4⟩
  simp only [resA, go_sem, reduceIte, reduceCtorEq, Nat.reduceEqDiff, Nat.reduceBEq, Nat.reduceAdd, Nat.reduceLeDiff, Nat.reduceMul, Nat.reduceLT, Int.reduceEq, Int.reduceLT, Int.reduceLE, rEn]
end
section
open Go Go.Sim
set_option maxRecDepth 100000
set_option maxHeartbeats 4000000

theorem c_line {t : List Class} {cl : Bool} {P : List Line} {clp : Bool} {n : Nat} (ht : validT t = true) (ih : LinesOk t cl P clp n) {i : Nat} {d k a b h : Int} {kids rest : Fo} {s : RS} {F H : AHeap} {bm : Nat}
    (hn : kids.size < n) (hat : At P i d (.node k a b kids rest)) (hno : numOk t k a b = true) (hk : numsF t kids (d + 1) = true) (hs : FsOk t s.fs) (hh : h < s.fs.length) (hl : s.log.length + (2 + (if k = 12 then a.toNat * cost kids else cost kids)) ≤ 900000) (hf : s.fs.length + (2 + (if k = 12 then a.toNat * cost kids else cost kids)) ≤ 900000) (hM : MachS F H bm t cl P clp s) (hp : P.length ≤ 4398046511104) :
    ACalls Tryz.prog 97 [.ptr bm 5 0 0, I i, I h] H fun r H' => r = .agg (rEn (lineR k a b i h (fun s => runF t kids (i + 1) none h s) s).1) ∧ MachS F H' bm t cl P clp (lineR k a b i h (fun s => runF t kids (i + 1) none h s) s).2 := by
  have hi := hat.head.1
  have hx := hat.head.2
  obtain ⟨xl, xf, H1, H2, hF, hg1, hg2, hb, rfl⟩ := id hM
  refine acalls_of1 Tryz.func97 rfl (by kernel_rfl) rfl rfl (awp_sound (fz := fun r => if r = 1 then [7] else if r = 21 then [8] else if r = 29 then [9] else []) (im := fun _ => false) mixed _ _ _ _ (by kernel_rfl) ?_)
  simp +contextual -dsimp -implicitDefEqProofs (maxSteps := 5000000) only [go_sem, reduceIte, reduceCtorEq, Nat.reduceEqDiff, Nat.reduceBEq, Nat.reduceAdd, Nat.reduceLeDiff, Nat.reduceMul, Nat.reduceLT, Int.reduceEq, Int.reduceLT, Int.reduceLE, hi, hx]
  rintro b6 ⟨n1, n2, hn2⟩
  rintro b7 hb7
  refine (c_lineJumps ⟨d, k, a, b⟩ _).det ?_
  have nb6 : ∀ K, (H2.set bm K) b6 = none := fun K => by rw [set_other n1]; exact hn2
  have hF6 : F b6 = none := grow_none hg1 (grow_none hg2 hn2)
  have jump1 : s.first < 0 → jumpsK k = true → s.jump k i = ⟨s.log, s.fs, (i : Int)⟩ := fun q1 q2 => by unfold RS.jump; rw [if_pos ⟨q2, q1⟩]
  have jump0 : ¬ s.first < 0 → s.jump k i = ⟨s.log, s.fs, s.first⟩ := fun q1 => by unfold RS.jump; rw [if_neg (fun q => q1 q.2)]
  have jumpn : jumpsK k = false → s.jump k i = ⟨s.log, s.fs, s.first⟩ := fun q1 => by unfold RS.jump; rw [if_neg (fun q => by rw [q1] at q; cases q.1)]
  have hMi : ∀ v : Int, Mach F (H2.set bm ⟨5, 129, [[.vsl (t.map rClass) cl, aProg P clp, xl, xf, I v]]⟩) bm (.vsl (t.map rClass) cl) (aProg P clp) s.log s.fs v := fun v => ⟨xl, xf, H1, H2, hF, hg1, hg2, hb, rfl⟩
  have hfl : s.fs.length < 999999 := by omega
  by_cases k2 : k = 2
  · have hj : jumpsK k = true := by rw [k2]; rfl
    by_cases hf0 : s.first < 0
    · have e : lineR k a b i h (fun s => runF t kids (i + 1) none h s) s = (⟨2, s.fs.length⟩, ⟨s.log, raiseF s.fs a b h, (i : Int)⟩) := by
        unfold lineR lineS; rw [jump1 hf0 hj, if_neg (by omega), if_neg (by omega), if_neg (by omega), if_pos k2]; rfl
      rw [e]
      simp +contextual -dsimp -implicitDefEqProofs (maxSteps := 5000000) only [go_sem, reduceIte, reduceCtorEq, Nat.reduceEqDiff, Nat.reduceBEq, Nat.reduceAdd, Nat.reduceLeDiff, Nat.reduceMul, Nat.reduceLT, Int.reduceEq, Int.reduceLT, Int.reduceLE, hi, hx, n1, n2, k2, hf0, hj, show jumpsK 2 = true from rfl]
      refine (c_raise _ _ bm _ _ s.log s.fs (i : Int) a b h (mach_in (K := ⟨2, 88, [[I 0, I 0]]⟩) (hMi (i : Int)) (nb6 _)) hfl hs.ho (by omega)).mono ?_
      rintro _ H9 ⟨rfl, hM9⟩
      obtain ⟨H10, rfl, hM10, hn10⟩ := mach_out hM9 hF6
      simp +contextual -dsimp -implicitDefEqProofs (maxSteps := 5000000) only [go_sem, reduceIte, reduceCtorEq, Nat.reduceEqDiff, Nat.reduceBEq, Nat.reduceAdd, Nat.reduceLeDiff, Nat.reduceMul, Nat.reduceLT, Int.reduceEq, Int.reduceLT, Int.reduceLE, hi, hx, n1, n2, k2, hf0, hj, show jumpsK 2 = true from rfl]
      refine retR_less (l := [.agg (rEn ⟨2, s.fs.length⟩)]) (H' := H10) ?_ (le_set hn10) ⟨rfl, hM10⟩
      simp only [resA, go_sem, reduceIte, reduceCtorEq, Nat.reduceEqDiff, Nat.reduceBEq, Nat.reduceAdd, Nat.reduceLeDiff, Nat.reduceMul, Nat.reduceLT, Int.reduceEq, Int.reduceLT, Int.reduceLE, rEn]
    · have e : lineR k a b i h (fun s => runF t kids (i + 1) none h s) s = (⟨2, s.fs.length⟩, ⟨s.log, raiseF s.fs a b h, s.first⟩) := by
        unfold lineR lineS; rw [jump0 hf0, if_neg (by omega), if_neg (by omega), if_neg (by omega), if_pos k2]; rfl
      rw [e]
      simp +contextual -dsimp -implicitDefEqProofs (maxSteps := 5000000) only [go_sem, reduceIte, reduceCtorEq, Nat.reduceEqDiff, Nat.reduceBEq, Nat.reduceAdd, Nat.reduceLeDiff, Nat.reduceMul, Nat.reduceLT, Int.reduceEq, Int.reduceLT, Int.reduceLE, hi, hx, n1, n2, k2, hf0, hj, show jumpsK 2 = true from rfl]
      refine (c_raise _ _ bm _ _ s.log s.fs s.first a b h (mach_in (K := ⟨2, 88, [[I 0, I 0]]⟩) (hMi s.first) (nb6 _)) hfl hs.ho (by omega)).mono ?_
      rintro _ H9 ⟨rfl, hM9⟩
      obtain ⟨H10, rfl, hM10, hn10⟩ := mach_out hM9 hF6
      simp +contextual -dsimp -implicitDefEqProofs (maxSteps := 5000000) only [go_sem, reduceIte, reduceCtorEq, Nat.reduceEqDiff, Nat.reduceBEq, Nat.reduceAdd, Nat.reduceLeDiff, Nat.reduceMul, Nat.reduceLT, Int.reduceEq, Int.reduceLT, Int.reduceLE, hi, hx, n1, n2, k2, hf0, hj, show jumpsK 2 = true from rfl]
      refine retR_less (l := [.agg (rEn ⟨2, s.fs.length⟩)]) (H' := H10) ?_ (le_set hn10) ⟨rfl, hM10⟩
      simp only [resA, go_sem, reduceIte, reduceCtorEq, Nat.reduceEqDiff, Nat.reduceBEq, Nat.reduceAdd, Nat.reduceLeDiff, Nat.reduceMul, Nat.reduceLT, Int.reduceEq, Int.reduceLT, Int.reduceLE, rEn]
  by_cases k3 : k = 3
  · have hj : jumpsK k = true := by rw [k3]; rfl
    by_cases hf0 : s.first < 0
    · by_cases hh0 : h < 0
      · have e : lineR k a b i h (fun s => runF t kids (i + 1) none h s) s = (⟨2, s.fs.length⟩, ⟨s.log, raiseF s.fs 0 0 (-1), (i : Int)⟩) := by
          unfold lineR lineS; rw [jump1 hf0 hj, if_neg (by omega), if_neg (by omega), if_neg (by omega), if_neg (by omega), if_pos k3, if_pos hh0]; rfl
        rw [e]
        simp +contextual -dsimp -implicitDefEqProofs (maxSteps := 5000000) only [go_sem, reduceIte, reduceCtorEq, Nat.reduceEqDiff, Nat.reduceBEq, Nat.reduceAdd, Nat.reduceLeDiff, Nat.reduceMul, Nat.reduceLT, Int.reduceEq, Int.reduceLT, Int.reduceLE, hi, hx, n1, n2, k3, hf0, hj, show jumpsK 3 = true from rfl, hh0]
        refine (c_raise _ _ bm _ _ s.log s.fs (i : Int) 0 0 (-1) (mach_in (K := ⟨2, 88, [[I 0, I 0]]⟩) (hMi (i : Int)) (nb6 _)) hfl hs.ho (by omega)).mono ?_
        rintro _ H9 ⟨rfl, hM9⟩
        obtain ⟨H10, rfl, hM10, hn10⟩ := mach_out hM9 hF6
        simp +contextual -dsimp -implicitDefEqProofs (maxSteps := 5000000) only [go_sem, reduceIte, reduceCtorEq, Nat.reduceEqDiff, Nat.reduceBEq, Nat.reduceAdd, Nat.reduceLeDiff, Nat.reduceMul, Nat.reduceLT, Int.reduceEq, Int.reduceLT, Int.reduceLE, hi, hx, n1, n2, k3, hf0, hj, show jumpsK 3 = true from rfl, hh0]
        refine retR_less (l := [.agg (rEn ⟨2, s.fs.length⟩)]) (H' := H10) ?_ (le_set hn10) ⟨rfl, hM10⟩
        simp only [resA, go_sem, reduceIte, reduceCtorEq, Nat.reduceEqDiff, Nat.reduceBEq, Nat.reduceAdd, Nat.reduceLeDiff, Nat.reduceMul, Nat.reduceLT, Int.reduceEq, Int.reduceLT, Int.reduceLE, rEn]
      · have e : lineR k a b i h (fun s => runF t kids (i + 1) none h s) s = (⟨2, h⟩, ⟨s.log, s.fs, (i : Int)⟩) := by
          unfold lineR lineS; rw [jump1 hf0 hj, if_neg (by omega), if_neg (by omega), if_neg (by omega), if_neg (by omega), if_pos k3, if_neg hh0]
        rw [e]
        simp +contextual -dsimp -implicitDefEqProofs (maxSteps := 5000000) only [go_sem, reduceIte, reduceCtorEq, Nat.reduceEqDiff, Nat.reduceBEq, Nat.reduceAdd, Nat.reduceLeDiff, Nat.reduceMul, Nat.reduceLT, Int.reduceEq, Int.reduceLT, Int.reduceLE, hi, hx, n1, n2, k3, hf0, hj, show jumpsK 3 = true from rfl, hh0]
        refine retR_less (l := [.agg (rEn ⟨2, h⟩)]) (H' := H2.set bm _) ?_ (le_set (nb6 _)) ⟨rfl, hMi (i : Int)⟩
        simp only [resA, go_sem, reduceIte, reduceCtorEq, Nat.reduceEqDiff, Nat.reduceBEq, Nat.reduceAdd, Nat.reduceLeDiff, Nat.reduceMul, Nat.reduceLT, Int.reduceEq, Int.reduceLT, Int.reduceLE, rEn]
    · by_cases hh0 : h < 0
      · have e : lineR k a b i h (fun s => runF t kids (i + 1) none h s) s = (⟨2, s.fs.length⟩, ⟨s.log, raiseF s.fs 0 0 (-1), s.first⟩) := by
          unfold lineR lineS; rw [jump0 hf0, if_neg (by omega), if_neg (by omega), if_neg (by omega), if_neg (by omega), if_pos k3, if_pos hh0]; rfl
        rw [e]
        simp +contextual -dsimp -implicitDefEqProofs (maxSteps := 5000000) only [go_sem, reduceIte, reduceCtorEq, Nat.reduceEqDiff, Nat.reduceBEq, Nat.reduceAdd, Nat.reduceLeDiff, Nat.reduceMul, Nat.reduceLT, Int.reduceEq, Int.reduceLT, Int.reduceLE, hi, hx, n1, n2, k3, hf0, hj, show jumpsK 3 = true from rfl, hh0]
        refine (c_raise _ _ bm _ _ s.log s.fs s.first 0 0 (-1) (mach_in (K := ⟨2, 88, [[I 0, I 0]]⟩) (hMi s.first) (nb6 _)) hfl hs.ho (by omega)).mono ?_
        rintro _ H9 ⟨rfl, hM9⟩
        obtain ⟨H10, rfl, hM10, hn10⟩ := mach_out hM9 hF6
        simp +contextual -dsimp -implicitDefEqProofs (maxSteps := 5000000) only [go_sem, reduceIte, reduceCtorEq, Nat.reduceEqDiff, Nat.reduceBEq, Nat.reduceAdd, Nat.reduceLeDiff, Nat.reduceMul, Nat.reduceLT, Int.reduceEq, Int.reduceLT, Int.reduceLE, hi, hx, n1, n2, k3, hf0, hj, show jumpsK 3 = true from rfl, hh0]
        refine retR_less (l := [.agg (rEn ⟨2, s.fs.length⟩)]) (H' := H10) ?_ (le_set hn10) ⟨rfl, hM10⟩
        simp only [resA, go_sem, reduceIte, reduceCtorEq, Nat.reduceEqDiff, Nat.reduceBEq, Nat.reduceAdd, Nat.reduceLeDiff, Nat.reduceMul, Nat.reduceLT, Int.reduceEq, Int.reduceLT, Int.reduceLE, rEn]
      · have e : lineR k a b i h (fun s => runF t kids (i + 1) none h s) s = (⟨2, h⟩, ⟨s.log, s.fs, s.first⟩) := by
          unfold lineR lineS; rw [jump0 hf0, if_neg (by omega), if_neg (by omega), if_neg (by omega), if_neg (by omega), if_pos k3, if_neg hh0]
        rw [e]
        simp +contextual -dsimp -implicitDefEqProofs (maxSteps := 5000000) only [go_sem, reduceIte, reduceCtorEq, Nat.reduceEqDiff, Nat.reduceBEq, Nat.reduceAdd, Nat.reduceLeDiff, Nat.reduceMul, Nat.reduceLT, Int.reduceEq, Int.reduceLT, Int.reduceLE, hi, hx, n1, n2, k3, hf0, hj, show jumpsK 3 = true from rfl, hh0]
        refine retR_less (l := [.agg (rEn ⟨2, h⟩)]) (H' := H2.set bm _) ?_ (le_set (nb6 _)) ⟨rfl, hMi s.first⟩
        simp only [resA, go_sem, reduceIte, reduceCtorEq, Nat.reduceEqDiff, Nat.reduceBEq, Nat.reduceAdd, Nat.reduceLeDiff, Nat.reduceMul, Nat.reduceLT, Int.reduceEq, Int.reduceLT, Int.reduceLE, rEn]
  by_cases k4 : k = 4
  · have hj : jumpsK k = true := by rw [k4]; rfl
    by_cases hf0 : s.first < 0
    · have e : lineR k a b i h (fun s => runF t kids (i + 1) none h s) s = (⟨1, a⟩, ⟨s.log, s.fs, (i : Int)⟩) := by
        unfold lineR lineS; rw [jump1 hf0 hj, if_neg (by omega), if_neg (by omega), if_neg (by omega), if_neg (by omega), if_neg (by omega), if_pos k4]
      rw [e]
      simp +contextual -dsimp -implicitDefEqProofs (maxSteps := 5000000) only [go_sem, reduceIte, reduceCtorEq, Nat.reduceEqDiff, Nat.reduceBEq, Nat.reduceAdd, Nat.reduceLeDiff, Nat.reduceMul, Nat.reduceLT, Int.reduceEq, Int.reduceLT, Int.reduceLE, hi, hx, n1, n2, k4, hf0, hj, show jumpsK 4 = true from rfl]
      refine retR_less (l := [.agg (rEn ⟨1, a⟩)]) (H' := H2.set bm _) ?_ (le_set (nb6 _)) ⟨rfl, hMi (i : Int)⟩
      simp only [resA, go_sem, reduceIte, reduceCtorEq, Nat.reduceEqDiff, Nat.reduceBEq, Nat.reduceAdd, Nat.reduceLeDiff, Nat.reduceMul, Nat.reduceLT, Int.reduceEq, Int.reduceLT, Int.reduceLE, rEn]
    · have e : lineR k a b i h (fun s => runF t kids (i + 1) none h s) s = (⟨1, a⟩, ⟨s.log, s.fs, s.first⟩) := by
        unfold lineR lineS; rw [jump0 hf0, if_neg (by omega), if_neg (by omega), if_neg (by omega), if_neg (by omega), if_neg (by omega), if_pos k4]
      rw [e]
      simp +contextual -dsimp -implicitDefEqProofs (maxSteps := 5000000) only [go_sem, reduceIte, reduceCtorEq, Nat.reduceEqDiff, Nat.reduceBEq, Nat.reduceAdd, Nat.reduceLeDiff, Nat.reduceMul, Nat.reduceLT, Int.reduceEq, Int.reduceLT, Int.reduceLE, hi, hx, n1, n2, k4, hf0, hj, show jumpsK 4 = true from rfl]
      refine retR_less (l := [.agg (rEn ⟨1, a⟩)]) (H' := H2.set bm _) ?_ (le_set (nb6 _)) ⟨rfl, hMi s.first⟩
      simp only [resA, go_sem, reduceIte, reduceCtorEq, Nat.reduceEqDiff, Nat.reduceBEq, Nat.reduceAdd, Nat.reduceLeDiff, Nat.reduceMul, Nat.reduceLT, Int.reduceEq, Int.reduceLT, Int.reduceLE, rEn]
  by_cases k5 : k = 5
  · have hj : jumpsK k = true := by rw [k5]; rfl
    by_cases hf0 : s.first < 0
    · have e : lineR k a b i h (fun s => runF t kids (i + 1) none h s) s = (⟨3, 0⟩, ⟨s.log, s.fs, (i : Int)⟩) := by
        unfold lineR lineS; rw [jump1 hf0 hj, if_neg (by omega), if_neg (by omega), if_neg (by omega), if_neg (by omega), if_neg (by omega), if_neg (by omega), if_pos k5]
      rw [e]
      simp +contextual -dsimp -implicitDefEqProofs (maxSteps := 5000000) only [go_sem, reduceIte, reduceCtorEq, Nat.reduceEqDiff, Nat.reduceBEq, Nat.reduceAdd, Nat.reduceLeDiff, Nat.reduceMul, Nat.reduceLT, Int.reduceEq, Int.reduceLT, Int.reduceLE, hi, hx, n1, n2, k5, hf0, hj, show jumpsK 5 = true from rfl]
      refine retR_less (l := [.agg (rEn ⟨3, 0⟩)]) (H' := H2.set bm _) ?_ (le_set (nb6 _)) ⟨rfl, hMi (i : Int)⟩
      simp only [resA, go_sem, reduceIte, reduceCtorEq, Nat.reduceEqDiff, Nat.reduceBEq, Nat.reduceAdd, Nat.reduceLeDiff, Nat.reduceMul, Nat.reduceLT, Int.reduceEq, Int.reduceLT, Int.reduceLE, rEn]
    · have e : lineR k a b i h (fun s => runF t kids (i + 1) none h s) s = (⟨3, 0⟩, ⟨s.log, s.fs, s.first⟩) := by
        unfold lineR lineS; rw [jump0 hf0, if_neg (by omega), if_neg (by omega), if_neg (by omega), if_neg (by omega), if_neg (by omega), if_neg (by omega), if_pos k5]
      rw [e]
      simp +contextual -dsimp -implicitDefEqProofs (maxSteps := 5000000) only [go_sem, reduceIte, reduceCtorEq, Nat.reduceEqDiff, Nat.reduceBEq, Nat.reduceAdd, Nat.reduceLeDiff, Nat.reduceMul, Nat.reduceLT, Int.reduceEq, Int.reduceLT, Int.reduceLE, hi, hx, n1, n2, k5, hf0, hj, show jumpsK 5 = true from rfl]
      refine retR_less (l := [.agg (rEn ⟨3, 0⟩)]) (H' := H2.set bm _) ?_ (le_set (nb6 _)) ⟨rfl, hMi s.first⟩
      simp only [resA, go_sem, reduceIte, reduceCtorEq, Nat.reduceEqDiff, Nat.reduceBEq, Nat.reduceAdd, Nat.reduceLeDiff, Nat.reduceMul, Nat.reduceLT, Int.reduceEq, Int.reduceLT, Int.reduceLE, rEn]
  by_cases k6 : k = 6
  · have hj : jumpsK k = true := by rw [k6]; rfl
    by_cases hf0 : s.first < 0
    · have e : lineR k a b i h (fun s => runF t kids (i + 1) none h s) s = (⟨4, 0⟩, ⟨s.log, s.fs, (i : Int)⟩) := by
        unfold lineR lineS; rw [jump1 hf0 hj, if_neg (by omega), if_neg (by omega), if_neg (by omega), if_neg (by omega), if_neg (by omega), if_neg (by omega), if_neg (by omega), if_pos k6]
      rw [e]
      simp +contextual -dsimp -implicitDefEqProofs (maxSteps := 5000000) only [go_sem, reduceIte, reduceCtorEq, Nat.reduceEqDiff, Nat.reduceBEq, Nat.reduceAdd, Nat.reduceLeDiff, Nat.reduceMul, Nat.reduceLT, Int.reduceEq, Int.reduceLT, Int.reduceLE, hi, hx, n1, n2, k6, hf0, hj, show jumpsK 6 = true from rfl]
      refine retR_less (l := [.agg (rEn ⟨4, 0⟩)]) (H' := H2.set bm _) ?_ (le_set (nb6 _)) ⟨rfl, hMi (i : Int)⟩
      simp only [resA, go_sem, reduceIte, reduceCtorEq, Nat.reduceEqDiff, Nat.reduceBEq, Nat.reduceAdd, Nat.reduceLeDiff, Nat.reduceMul, Nat.reduceLT, Int.reduceEq, Int.reduceLT, Int.reduceLE, rEn]
    · have e : lineR k a b i h (fun s => runF t kids (i + 1) none h s) s = (⟨4, 0⟩, ⟨s.log, s.fs, s.first⟩) := by
        unfold lineR lineS; rw [jump0 hf0, if_neg (by omega), if_neg (by omega), if_neg (by omega), if_neg (by omega), if_neg (by omega), if_neg (by omega), if_neg (by omega), if_pos k6]
      rw [e]
      simp +contextual -dsimp -implicitDefEqProofs (maxSteps := 5000000) only [go_sem, reduceIte, reduceCtorEq, Nat.reduceEqDiff, Nat.reduceBEq, Nat.reduceAdd, Nat.reduceLeDiff, Nat.reduceMul, Nat.reduceLT, Int.reduceEq, Int.reduceLT, Int.reduceLE, hi, hx, n1, n2, k6, hf0, hj, show jumpsK 6 = true from rfl]
      refine retR_less (l := [.agg (rEn ⟨4, 0⟩)]) (H' := H2.set bm _) ?_ (le_set (nb6 _)) ⟨rfl, hMi s.first⟩
      simp only [resA, go_sem, reduceIte, reduceCtorEq, Nat.reduceEqDiff, Nat.reduceBEq, Nat.reduceAdd, Nat.reduceLeDiff, Nat.reduceMul, Nat.reduceLT, Int.reduceEq, Int.reduceLT, Int.reduceLE, rEn]
  have hj : jumpsK k = false := by
    simp only [jumpsK, inR, Bool.and_eq_false_iff, decide_eq_false_iff_not]; omega
  by_cases k1 : k = 1
  · have e : lineR k a b i h (fun s => runF t kids (i + 1) none h s) s = (.next, ⟨s.log ++ [a], s.fs, s.first⟩) := by
      unfold lineR lineS; rw [jumpn hj, if_neg (by omega), if_neg (by omega), if_pos k1]; rfl
    rw [e]
    simp +contextual -dsimp -implicitDefEqProofs (maxSteps := 5000000) only [go_sem, reduceIte, reduceCtorEq, Nat.reduceEqDiff, Nat.reduceBEq, Nat.reduceAdd, Nat.reduceLeDiff, Nat.reduceMul, Nat.reduceLT, Int.reduceEq, Int.reduceLT, Int.reduceLE, hi, hx, n1, n2, k1, show jumpsK 1 = false from rfl]
    refine draw_intro [0, 0, 0, 0, 0, 0, 0, 0, 2, 0, 0, 2] AHeap.none (by kernel_rfl) none_le ?_
    simp +contextual -dsimp -implicitDefEqProofs (maxSteps := 5000000) only [go_sem, reduceIte, reduceCtorEq, Nat.reduceEqDiff, Nat.reduceBEq, Nat.reduceAdd, Nat.reduceLeDiff, Nat.reduceMul, Nat.reduceLT, Int.reduceEq, Int.reduceLT, Int.reduceLE, hi, hx, n1, n2, k1]
    refine mach_app1 hg1 hg2 hb n1 hn2 (by omega) fun x2 G G1 y1 y2 y3 y4 y5 => ?_
    obtain ⟨r1, r2⟩ := y5
    simp +contextual -dsimp -implicitDefEqProofs (maxSteps := 5000000) only [go_sem, reduceIte, reduceCtorEq, Nat.reduceEqDiff, Nat.reduceBEq, Nat.reduceAdd, Nat.reduceLeDiff, Nat.reduceMul, Nat.reduceLT, Int.reduceEq, Int.reduceLT, Int.reduceLE, n1, n2, r1, r2]
    refine retR_less (l := [.agg (rEn .next)]) (H' := G.set bm _) ?_ (le_set (by rw [set_other n1]; exact y4)) ⟨rfl, ⟨x2, xf, G1, G, hF, y1, y2, y3, rfl⟩⟩
    simp only [resA, go_sem, reduceIte, reduceCtorEq, Nat.reduceEqDiff, Nat.reduceBEq, Nat.reduceAdd, Nat.reduceLeDiff, Nat.reduceMul, Nat.reduceLT, Int.reduceEq, Int.reduceLT, Int.reduceLE, rEn, En.next]
  by_cases k11 : k = 11
  · simp +contextual -dsimp -implicitDefEqProofs (maxSteps := 5000000) only [go_sem, reduceIte, reduceCtorEq, Nat.reduceEqDiff, Nat.reduceBEq, Nat.reduceAdd, Nat.reduceLeDiff, Nat.reduceMul, Nat.reduceLT, Int.reduceEq, Int.reduceLT, Int.reduceLE, hi, hx, n1, n2, k11, show jumpsK 11 = false from rfl]
    refine draw_intro [0, 0, 0, 0, 0, 0, 0, 0, 0, 2, 0, 0, 2] AHeap.none (by kernel_rfl) none_le ?_
    have ha := hno
    unfold numOk at ha
    rw [if_neg (by omega), if_neg (by omega), if_neg (by omega), if_pos k11, Bool.and_eq_true] at ha
    simp only [inR, Bool.and_eq_true, decide_eq_true_eq] at ha
    rw [if_neg (by omega)] at hl hf
    have hw1 : IntKind.i64.wrap (100 + a) = 100 + a := w64 (by omega) (by omega)
    have hw2 : IntKind.i64.wrap (200 + a) = 200 + a := w64 (by omega) (by omega)
    simp +contextual -dsimp -implicitDefEqProofs (maxSteps := 5000000) only [go_sem, reduceIte, reduceCtorEq, Nat.reduceEqDiff, Nat.reduceBEq, Nat.reduceAdd, Nat.reduceLeDiff, Nat.reduceMul, Nat.reduceLT, Int.reduceEq, Int.reduceLT, Int.reduceLE, hi, hx, n1, n2, k11, hw1]
    refine mach_app1 hg1 hg2 hb n1 hn2 (by omega) fun x2 G G1 y1 y2 y3 y4 y5 => ?_
    obtain ⟨r1, r2⟩ := y5
    simp +contextual -dsimp -implicitDefEqProofs (maxSteps := 5000000) only [go_sem, reduceIte, reduceCtorEq, Nat.reduceEqDiff, Nat.reduceBEq, Nat.reduceAdd, Nat.reduceLeDiff, Nat.reduceMul, Nat.reduceLT, Int.reduceEq, Int.reduceLT, Int.reduceLE, n1, n2, r1, r2]
    have hMt : MachS F (G.set bm ⟨5, 129, [[.vsl (t.map rClass) cl, aProg P clp, x2, xf, I s.first]]⟩) bm t cl P clp (s.tell (100 + a)) := ⟨x2, xf, G1, G, hF, y1, y2, y3, rfl⟩
    have hGb6 : (G.set bm ⟨5, 129, [[.vsl (t.map rClass) cl, aProg P clp, x2, xf, I s.first]]⟩) b6 = none := by rw [set_other n1]; exact y4
    have tl : (s.tell (100 + a)).log.length = s.log.length + 1 := by simp [RS.tell]
    have hgo := goes_run ht kids (i + 1) none (d + 1) h (s.tell (100 + a)) hk hs hh trivial
    have hgl := hgo.len
    refine (c_block ih hn hat hk (s := s.tell (100 + a)) hs hh (by rw [tl]; omega) (by show s.fs.length + _ ≤ _; omega) (mach_in (K := ⟨2, 88, [[I 0, I 0]]⟩) hMt hGb6) hp).mono ?_
    rintro _ H3 ⟨rfl, hM3⟩
    have e : lineR k a b i h (fun s => runF t kids (i + 1) none h s) s = withS a b (runF t kids (i + 1) none h (s.tell (100 + a))) := by
      unfold lineR; rw [if_pos k11]
    rw [e]
    generalize runF t kids (i + 1) none h (s.tell (100 + a)) = r at hM3 hgo hgl ⊢
    obtain ⟨H4, rfl, hM4, hn4⟩ := mach_out hM3 hF6
    obtain ⟨xl', xf', G2, G3, hF', hg1', hg2', hb', rfl⟩ := id hM4
    have hn5 := hn4
    rw [set_none] at hn5
    have hn6 := hn5.2.2
    simp +contextual -dsimp -implicitDefEqProofs (maxSteps := 5000000) only [go_sem, reduceIte, reduceCtorEq, Nat.reduceEqDiff, Nat.reduceBEq, Nat.reduceAdd, Nat.reduceLeDiff, Nat.reduceMul, Nat.reduceLT, Int.reduceEq, Int.reduceLT, Int.reduceLE, rEn, n1, n2, hi, hx]
    rintro b8 hb8
    refine draw_intro [0, 0, 0, 0, 0, 0, 0, 0, 0, 2, 0, 0, 2] AHeap.none (by kernel_rfl) none_le ?_
    simp +contextual -dsimp -implicitDefEqProofs (maxSteps := 5000000) only [go_sem, reduceIte, reduceCtorEq, Nat.reduceEqDiff, Nat.reduceBEq, Nat.reduceAdd, Nat.reduceLeDiff, Nat.reduceMul, Nat.reduceLT, Int.reduceEq, Int.reduceLT, Int.reduceLE, rEn, n1, n2, hi, hx, hw2]
    refine mach_app1 hg1' hg2' hb' n1 hn6 (by omega) fun x3 G4 G5 z1 z2 z3 z4 z5 => ?_
    obtain ⟨q1, q2⟩ := z5
    simp +contextual -dsimp -implicitDefEqProofs (maxSteps := 5000000) only [go_sem, reduceIte, reduceCtorEq, Nat.reduceEqDiff, Nat.reduceBEq, Nat.reduceAdd, Nat.reduceLeDiff, Nat.reduceMul, Nat.reduceLT, Int.reduceEq, Int.reduceLT, Int.reduceLE, n1, n2, q1, q2]
    have hMf : MachS F (G4.set bm ⟨5, 129, [[.vsl (t.map rClass) cl, aProg P clp, x3, xf', I r.2.first]]⟩) bm t cl P clp (r.2.tell (200 + a)) := ⟨x3, xf', G5, G4, hF', z1, z2, z3, rfl⟩
    unfold withS
    have hGf : (G4.set bm ⟨5, 129, [[.vsl (t.map rClass) cl, aProg P clp, x3, xf', I r.2.first]]⟩) b6 = none := by rw [set_other n1]; exact z4
    by_cases hc : r.1.ed = 2 ∧ b = 1
    · rw [if_pos hc]
      simp +contextual -dsimp -implicitDefEqProofs (maxSteps := 5000000) only [go_sem, reduceIte, reduceCtorEq, Nat.reduceEqDiff, Nat.reduceBEq, Nat.reduceAdd, Nat.reduceLeDiff, Nat.reduceMul, Nat.reduceLT, Int.reduceEq, Int.reduceLT, Int.reduceLE, n1, n2, q1, q2, hc.1, hc.2]
      refine retR_less (l := [.agg (rEn .next)]) (H' := G4.set bm _) ?_ (le_set hGf) ⟨rfl, hMf⟩
      simp only [resA, go_sem, reduceIte, reduceCtorEq, Nat.reduceEqDiff, Nat.reduceBEq, Nat.reduceAdd, Nat.reduceLeDiff, Nat.reduceMul, Nat.reduceLT, Int.reduceEq, Int.reduceLT, Int.reduceLE, rEn, En.next]
    · rw [if_neg hc]
      by_cases hc1 : r.1.ed = 2
      · have hc2 : ¬ b = 1 := fun q => hc ⟨hc1, q⟩
        simp +contextual -dsimp -implicitDefEqProofs (maxSteps := 5000000) only [go_sem, reduceIte, reduceCtorEq, Nat.reduceEqDiff, Nat.reduceBEq, Nat.reduceAdd, Nat.reduceLeDiff, Nat.reduceMul, Nat.reduceLT, Int.reduceEq, Int.reduceLT, Int.reduceLE, n1, n2, q1, q2, hc1, hc2]
        refine retR_less (l := [.agg (rEn r.1)]) (H' := G4.set bm _) ?_ (le_set hGf) ⟨rfl, hMf⟩
        simp only [resA, go_sem, reduceIte, reduceCtorEq, Nat.reduceEqDiff, Nat.reduceBEq, Nat.reduceAdd, Nat.reduceLeDiff, Nat.reduceMul, Nat.reduceLT, Int.reduceEq, Int.reduceLT, Int.reduceLE, rEn, hc1]
      · simp +contextual -dsimp -implicitDefEqProofs (maxSteps := 5000000) only [go_sem, reduceIte, reduceCtorEq, Nat.reduceEqDiff, Nat.reduceBEq, Nat.reduceAdd, Nat.reduceLeDiff, Nat.reduceMul, Nat.reduceLT, Int.reduceEq, Int.reduceLT, Int.reduceLE, n1, n2, q1, q2, hc1]
        refine retR_less (l := [.agg (rEn r.1)]) (H' := G4.set bm _) ?_ (le_set hGf) ⟨rfl, hMf⟩
        simp only [resA, go_sem, reduceIte, reduceCtorEq, Nat.reduceEqDiff, Nat.reduceBEq, Nat.reduceAdd, Nat.reduceLeDiff, Nat.reduceMul, Nat.reduceLT, Int.reduceEq, Int.reduceLT, Int.reduceLE, rEn]
  by_cases k12 : k = 12
  · have ha := hno
    unfold numOk at ha
    rw [if_neg (by omega), if_neg (by omega), if_neg (by omega), if_neg (by omega), if_pos k12, Bool.and_eq_true] at ha
    simp only [inR, Bool.and_eq_true, decide_eq_true_eq] at ha
    rw [if_pos k12] at hl hf
    have e : lineR k a b i h (fun s => runF t kids (i + 1) none h s) s = loopS (fun s => runF t kids (i + 1) none h s) a.toNat s := by
      unfold lineR; rw [if_neg (by omega), if_pos k12]
    rw [e]
    simp +contextual -dsimp -implicitDefEqProofs (maxSteps := 5000000) only [go_sem, reduceIte, reduceCtorEq, Nat.reduceEqDiff, Nat.reduceBEq, Nat.reduceAdd, Nat.reduceLeDiff, Nat.reduceMul, Nat.reduceLT, Int.reduceEq, Int.reduceLT, Int.reduceLE, hi, hx, n1, n2, k12, show jumpsK 12 = false from rfl]
    refine aloop mixed (fz := fun r => if r = 1 then [7] else if r = 21 then [8] else if r = 29 then [9] else []) (im := fun _ => false) (by kernel_rfl) (fun m tm H' => ∃ (s' : RS) (H'' : AHeap), m ≤ a.toNat ∧ H' = H''.set b6 ⟨2, 88, [[I 0, I 0]]⟩ ∧ H'' b6 = none ∧ MachS F H'' bm t cl P clp s' ∧ FsOk t s'.fs ∧ s.fs.length ≤ s'.fs.length ∧ s'.fs.length ≤ s.fs.length + (a.toNat - m) * cost kids ∧ s'.log.length ≤ s.log.length + (a.toNat - m) * cost kids ∧ loopS (fun s => runF t kids (i + 1) none h s) a.toNat s = loopS (fun s => runF t kids (i + 1) none h s) m s' ∧ tm 0 = .ptr bm 5 0 0 ∧ tm 1 = I i ∧ tm 2 = I h ∧ tm 6 = .ptr b6 2 0 0 ∧ tm 117 = I a ∧ tm 118 = I (a.toNat - m : Nat)) a.toNat ⟨s, H2.set bm _, Nat.le_refl _, rfl, nb6 _, hM, hs, Nat.le_refl _, by omega, by omega, rfl, ?_⟩ ?_
    · simp +contextual -dsimp -implicitDefEqProofs (maxSteps := 5000000) only [go_sem, reduceIte, reduceCtorEq, Nat.reduceEqDiff, Nat.reduceBEq, Nat.reduceAdd, Nat.reduceLeDiff, Nat.reduceMul, Nat.reduceLT, Int.reduceEq, Int.reduceLT, Int.reduceLE, n1, n2]
      rw [Nat.sub_self]; rfl
    · rintro m tm _ ⟨s', H'', hm, rfl, hb6, hM', hs', g1, g2, g3, he, t0, t1, t2, t6, t117, t118⟩
      cases m with
      | zero =>
        have z : ¬ ((a.toNat - 0 : Nat) : Int) < a := by omega
        simp +contextual -dsimp -implicitDefEqProofs (maxSteps := 5000000) only [go_sem, reduceIte, reduceCtorEq, Nat.reduceEqDiff, Nat.reduceBEq, Nat.reduceAdd, Nat.reduceLeDiff, Nat.reduceMul, Nat.reduceLT, Int.reduceEq, Int.reduceLT, Int.reduceLE, n1, n2, t0, t1, t2, t6, t117, t118, z]
        rw [he]
        refine retR_less (l := [.agg (rEn .next)]) (H' := H'') ?_ (le_set hb6) ⟨rfl, hM'⟩
        simp only [resA, go_sem, reduceIte, reduceCtorEq, Nat.reduceEqDiff, Nat.reduceBEq, Nat.reduceAdd, Nat.reduceLeDiff, Nat.reduceMul, Nat.reduceLT, Int.reduceEq, Int.reduceLT, Int.reduceLE, rEn, En.next, t6]
      | succ m =>
        have z : ((a.toNat - (m + 1) : Nat) : Int) < a := by omega
        have w1 : (a.toNat - (m + 1)) * cost kids + cost kids ≤ a.toNat * cost kids := by
          rw [← Nat.succ_mul]; exact Nat.mul_le_mul_right _ (by omega)
        have w2 : (a.toNat - m) * cost kids = (a.toNat - (m + 1)) * cost kids + cost kids := by
          rw [← Nat.succ_mul]; congr 1; omega
        simp +contextual -dsimp -implicitDefEqProofs (maxSteps := 5000000) only [go_sem, reduceIte, reduceCtorEq, Nat.reduceEqDiff, Nat.reduceBEq, Nat.reduceAdd, Nat.reduceLeDiff, Nat.reduceMul, Nat.reduceLT, Int.reduceEq, Int.reduceLT, Int.reduceLE, n1, n2, t0, t1, t2, t6, t117, t118, z]
        have hgo := goes_run ht kids (i + 1) none (d + 1) h s' hk hs' (by omega) trivial
        have hgl := hgo.len
        refine (c_block ih hn hat hk (s := s') hs' (by omega) (by omega) (by omega) (mach_in (K := ⟨2, 88, [[I 0, I 0]]⟩) hM' hb6) hp).mono ?_
        rintro _ H3 ⟨rfl, hM3⟩
        simp only [loopS] at he
        generalize runF t kids (i + 1) none h s' = r at hM3 hgo hgl he ⊢
        obtain ⟨H4, rfl, hM4, hn4⟩ := mach_out hM3 hF6
        by_cases c1 : r.1.ed = 1
        · rw [if_pos (.inl c1)] at he
          simp +contextual -dsimp -implicitDefEqProofs (maxSteps := 5000000) only [go_sem, reduceIte, reduceCtorEq, Nat.reduceEqDiff, Nat.reduceBEq, Nat.reduceAdd, Nat.reduceLeDiff, Nat.reduceMul, Nat.reduceLT, Int.reduceEq, Int.reduceLT, Int.reduceLE, rEn, n1, n2, t0, t1, t2, t6, t117, t118, c1]
          rintro b9 hb9
          rw [he]
          refine retR_less (l := [.agg (rEn r.1)]) (H' := H4) ?_ (le_set hn4) ⟨rfl, hM4⟩
          simp only [resA, go_sem, reduceIte, reduceCtorEq, Nat.reduceEqDiff, Nat.reduceBEq, Nat.reduceAdd, Nat.reduceLeDiff, Nat.reduceMul, Nat.reduceLT, Int.reduceEq, Int.reduceLT, Int.reduceLE, rEn, c1, t6]
        by_cases c2 : r.1.ed = 2
        · rw [if_pos (.inr c2)] at he
          simp +contextual -dsimp -implicitDefEqProofs (maxSteps := 5000000) only [go_sem, reduceIte, reduceCtorEq, Nat.reduceEqDiff, Nat.reduceBEq, Nat.reduceAdd, Nat.reduceLeDiff, Nat.reduceMul, Nat.reduceLT, Int.reduceEq, Int.reduceLT, Int.reduceLE, rEn, n1, n2, t0, t1, t2, t6, t117, t118, c2]
          rintro b9 hb9
          rw [he]
          refine retR_less (l := [.agg (rEn r.1)]) (H' := H4) ?_ (le_set hn4) ⟨rfl, hM4⟩
          simp only [resA, go_sem, reduceIte, reduceCtorEq, Nat.reduceEqDiff, Nat.reduceBEq, Nat.reduceAdd, Nat.reduceLeDiff, Nat.reduceMul, Nat.reduceLT, Int.reduceEq, Int.reduceLT, Int.reduceLE, rEn, c2, t6]
        rw [if_neg (fun q => q.elim c1 c2)] at he
        by_cases c3 : r.1.ed = 3
        · rw [if_pos c3] at he
          simp +contextual -dsimp -implicitDefEqProofs (maxSteps := 5000000) only [go_sem, reduceIte, reduceCtorEq, Nat.reduceEqDiff, Nat.reduceBEq, Nat.reduceAdd, Nat.reduceLeDiff, Nat.reduceMul, Nat.reduceLT, Int.reduceEq, Int.reduceLT, Int.reduceLE, rEn, n1, n2, t0, t1, t2, t6, t117, t118, c3]
          rintro b9 hb9
          rw [he]
          refine retR_less (l := [.agg (rEn .next)]) (H' := H4) ?_ (le_set hn4) ⟨rfl, hM4⟩
          simp only [resA, go_sem, reduceIte, reduceCtorEq, Nat.reduceEqDiff, Nat.reduceBEq, Nat.reduceAdd, Nat.reduceLeDiff, Nat.reduceMul, Nat.reduceLT, Int.reduceEq, Int.reduceLT, Int.reduceLE, rEn, En.next, t6]
        · rw [if_neg c3] at he
          simp +contextual -dsimp -implicitDefEqProofs (maxSteps := 5000000) only [go_sem, reduceIte, reduceCtorEq, Nat.reduceEqDiff, Nat.reduceBEq, Nat.reduceAdd, Nat.reduceLeDiff, Nat.reduceMul, Nat.reduceLT, Int.reduceEq, Int.reduceLT, Int.reduceLE, rEn, n1, n2, t0, t1, t2, t6, t117, t118, c1, c2, c3]
          rintro b9 hb9
          exact ⟨m, by omega, r.2, H4, by omega, rfl, hn4, hM4, hgo.ok, by omega, by omega, by omega, he, I_wrap (by omega) (by omega) (by omega)⟩
  · have e : lineR k a b i h (fun s => runF t kids (i + 1) none h s) s = (.next, ⟨s.log, s.fs, s.first⟩) := by
      unfold lineR lineS; rw [jumpn hj, if_neg k11, if_neg k12, if_neg k1, if_neg k2, if_neg k3, if_neg k4, if_neg k5, if_neg k6]
    rw [e]
    simp +contextual -dsimp -implicitDefEqProofs (maxSteps := 5000000) only [go_sem, reduceIte, reduceCtorEq, Nat.reduceEqDiff, Nat.reduceBEq, Nat.reduceAdd, Nat.reduceLeDiff, Nat.reduceMul, Nat.reduceLT, Int.reduceEq, Int.reduceLT, Int.reduceLE, hi, hx, n1, n2, k1, k2, k3, k4, k5, k6, k11, k12, hj]
    refine retR_less (l := [.agg (rEn .next)]) (H' := H2.set bm _) ?_ (le_set (nb6 _)) ⟨rfl, hMi s.first⟩
    simp only [resA, go_sem, reduceIte, reduceCtorEq, Nat.reduceEqDiff, Nat.reduceBEq, Nat.reduceAdd, Nat.reduceLeDiff, Nat.reduceMul, Nat.reduceLT, Int.reduceEq, Int.reduceLT, Int.reduceLE, rEn, En.next]
end
end
end Go.Proofs.YtjpfgafdjlkblaaGreat
