/- Walks and plain laws that the claims of this seat lean on. No condition. -/
import Derived.Test.YtckipeopgimenaaGreatFacts
set_option linter.unusedVariables false
set_option linter.unusedSimpArgs false
namespace Go.Proofs.YtckipeopgimenaaGreat
open Go Go.Sim
section
set_option maxRecDepth 100000
attribute [local go_sem ↓] aw_skip aw_ret aw_exit aw_region aw_draw aw_seq aw_block aw_loop aw_cond frz_nil frz_cons sq_normal sq_ret sq_exit exB_normal exB_ret exB_same exB_other retQ_ret retQ_normal ret0_ret ret0_normal ao_nil go1 g_move g_assign g_pick g_build g_load g_binOp g_unOp g_convert g_fieldAddr g_field g_indexAddr g_index g_extract g_lookup g_slice g_nilCheck g_len g_makeFunc h_call h_append h_alloc h_box h_buildSlice h_makeSlice h_store gV i_box i_buildSlice i_move i_assign i_build i_load i_binOp i_unOp i_convert i_fieldAddr i_field i_indexAddr i_index i_extract i_lookup i_makeMap i_mapUpdate i_slice i_nilCheck i_makeFunc i_len i_max i_min i_alloc i_makeSlice i_store i_append i_call i_pick boxI boxA buildSliceI buildSliceA makeSliceA makeMapA allocA storeA p_move p_assign p_pick p_build p_load p_binOp p_unOp p_convert p_fieldAddr p_field p_indexAddr p_index p_extract p_lookup p_makeMap p_mapUpdate p_slice p_nilCheck p_makeFunc p_len p_max p_min p_alloc p_box p_buildSlice p_makeSlice p_store p_append p_call x_nil x_go1 x_g0 x_g1 x_g2 x_g3 x_s0 x_s1 x_s2 x_s3 u_move u_assign u_pick u_build u_load u_binOp u_unOp u_convert u_fieldAddr u_field u_indexAddr u_index u_extract u_lookup u_slice u_nilCheck u_makeFunc u_len u_buildSlice
attribute [local go_sem] frzV_ptr frzV_sl frzK_some set_none set_other AHeap.set_self set_del set_set cnd_t cnd_f cnd_b retA_one retA_two retA_three retA_four retA_nil gIf_b mrgV_b mrgV_wh mrgV_U gIf_U gIf_wh mrgB_f mrgB_some mrgB_if wh_true wh_false keepA_some keepA_if gD_zero gD_succ gT_some bxA_t bxA_f callA_fn ev_tmp ev_const ev_global ev_func oc_bool oc_int oc_string oc_nil oc_nilptr oc_nilfunc cl_bool cl_int cl_string cl_nil updO_some updO_none upd_same upd_other init_at pickA_b pickA_wh selA_t selA_f selA_and selA_or selA_orn selA_orm selA_bb selA_ii beqt b_add b_sub b_mul b_and b_or b_xor b_eql b_neq b_lss b_leq b_gtr b_geq b_quo b_rem b_shr b_seql b_sneq b_sadd b_beql b_bneq b_aeql b_aneq u_not u_neg isConstOp eqA eqCellV List.getD_cons_zero List.getD_cons_succ List.map_cons List.map_nil List.nil_append List.cons_append List.append_nil if_true if_false Option.map_some Option.map_none ne_eq not_false_eq_true oneA ldv ld1v ld1s wr1s ldRow stRow row_lit row_agg row_vsl row_sl row_ptr row_fn one_I one_B one_S one_vsl one_sl one_ptr one_fn extractA okA rI rS rU rClass rFault rExit rStart rLine Int.toNat_natCast List.length_cons List.length_nil List.length_map List.all_cons List.all_nil Bool.and_true Nat.zero_add List.getElem?_cons_zero List.getElem?_cons_succ List.take_succ_cons List.take_zero List.drop_succ_cons List.drop_zero and_self true_and and_true implies_true decide_eq_true_eq decide_eq_false_iff_not Bool.or_eq_true Bool.or_eq_false_iff Bool.and_eq_true Bool.not_eq_true' Bool.not_eq_false' beq_false decide_true decide_false Int.ofNat_lt Int.ofNat_le Int.natCast_nonneg Bool.or_true Bool.or_false Bool.true_or Bool.false_or beq_self_eq_true List.drop_one Bool.not_true Bool.not_false Bool.not_not Bool.false_eq_true Bool.true_eq_false false_implies true_implies Bool.true_and Bool.false_and Bool.and_false not_true_eq_false Int.natCast_eq_zero Int.natCast_pos Int.natCast_zero false_and and_false or_false false_or or_true true_or Bool.or_self none_le_iff List.replicate_zero Int.toNat_zero List.replicate_succ buildRows List.set_cons_zero List.set_cons_succ List.set_nil List.mapM_nil maxLen_eq Nat.zero_le Nat.mul_one Nat.one_mul bldA fillA spliceA List.take_nil List.drop_nil List.getElem?_nil ld1o wr1o bldSliceA le_same ti1 ti2 tk2 ti3 te3 ts3 tk3 tz3 ti4 tb4 ti5 tk5 tz5 ti9 te9 ts9 tk9 tz9 ti12 tk12 ti13 tp13 tf13_0 tf13_1 ti20 ti21 tk21 tz21 ti22 te22 tz22 ti23 te23 ti24 tp24 tf24_0 ti25 tp25 tf25_0 ti26 te26 ti28 ti29 te29 ti30 te30 ti31 tp31 tf31_0 ti32 tp32 tf32_0 ti33 tp33 tf33_0 tf33_1 tf33_2 tf33_3 ti34 tp34 tf34_0 tf34_1 tf34_2 tf34_3 ti35 ti36 ti37 ti38 ti40 ti42 ti43 ti44 tq44 tp44 tf44_0 tf44_1 tf44_2 ti45 tq45 tp45 tf45_0 tf45_1 tf45_2 ti47 ti48 ti49 tq49 tp49 tf49_0 tf49_1 tf49_2 tf49_3 ti50 tq50 tp50 tf50_0 tf50_1 tf50_2 tf50_3 ti51 ti52 ti54 ti55 ti56 ti57 te57 ti59 ti60 ti61 ti62 ti63 ti64 ti65 ti66 ti67 ti68 tq68 tp68 tf68_0 tf68_1 ti69 tq69 tp69 tf69_0 tf69_1 ti70 ti71 ti72 ti73 ti74 ti75 ti77 ti78 ti79 ti80 ti81 ti82 ti83 ti84 ti85 tq85 tp85 tf85_0 tf85_1 tf85_2 tf85_3 tf85_4 ti86 tq86 tp86 tf86_0 tf86_1 tf86_2 tf86_3 tf86_4 ti87 ti88 ti89 ti90 ti91 ti93 ti94 ti95 ti96 ti97 tq97 tp97 tf97_0 tf97_1 tf97_2 ti98 tq98 tp98 tf98_0 tf98_1 tf98_2 ti99 ti100 ti101 ti102 ti103 ti104 ti105 ti106 ti107 tp107 tf107_0 tf107_1 ti108 tp108 tf108_0 tf108_1 ti109 tp109 tf109_0 tf109_1 tf109_2 tf109_3 tf109_4 ti110 tp110 tf110_0 tf110_1 tf110_2 tf110_3 tf110_4 ti111 ti113 ti114 ti115 ti116 ti117 ti118 ti119 ti120 tp120 tf120_0 tf120_1 tf120_2 tf120_3 ti121 tp121 tf121_0 tf121_1 tf121_2 tf121_3 ti122 tq122 tp122 tf122_0 tf122_1 ti123 tq123 tp123 tf123_0 tf123_1 ti124 ti125 ti126 tq126 tp126 tf126_0 tf126_1 ti127 tq127 tp127 tf127_0 tf127_1 ti128 ti129 ti130 ti131 ti132 ti133 te133 ti134 ti135 ti136 ti137 ti138 ti139 ti140 ti141 ti142 ti143 ti144 tp144 tf144_0 tf144_1 tf144_2 ti145 tp145 tf145_0 tf145_1 tf145_2 ti146 ti147 ti148 ti149 ti150 te150 ti151 ti152 ti153 ti154 ti155 ti156 ti157 ti158 ti159 ti160 ti161 ti162 ti163 ti164 ti165 ti166 ti167 ti168 ti169 ti170 ti171 ti172 ti173 ti174 ti175 tk175 tz175 ti176 ti177 ti178 ti179 ti180 tk180 ti182 ti183 ti184 ti186 ti187 ti188 tk188 tz188 ti189 ti190 tk190 tz190 ti191 tk191 ti192 ti193 ti194 ti195 ti196 ti197 ti199 ti200 ti206 ti210 ti215 fp13_0 fv13_0 fp13_1 fv13_1 fp24_0 fv24_0 fp25_0 fv25_0 fp31_0 fv31_0 fp32_0 fv32_0 fp33_0 fv33_0 fp33_1 fv33_1 fp33_2 fv33_2 fp33_3 fv33_3 fp34_0 fv34_0 fp34_1 fv34_1 fp34_2 fv34_2 fp34_3 fv34_3 fp44_0 fv44_0 fp44_1 fv44_1 fp44_2 fv44_2 fp45_0 fv45_0 fp45_1 fv45_1 fp45_2 fv45_2 fp49_0 fv49_0 fp49_1 fv49_1 fp49_2 fv49_2 fp49_3 fv49_3 fp50_0 fv50_0 fp50_1 fv50_1 fp50_2 fv50_2 fp50_3 fv50_3 fp68_0 fv68_0 fp68_1 fv68_1 fp69_0 fv69_0 fp69_1 fv69_1 fp85_0 fv85_0 fp85_1 fv85_1 fp85_2 fv85_2 fp85_3 fv85_3 fp85_4 fv85_4 fp86_0 fv86_0 fp86_1 fv86_1 fp86_2 fv86_2 fp86_3 fv86_3 fp86_4 fv86_4 fp97_0 fv97_0 fp97_1 fv97_1 fp97_2 fv97_2 fp98_0 fv98_0 fp98_1 fv98_1 fp98_2 fv98_2 fp107_0 fv107_0 fp107_1 fv107_1 fp108_0 fv108_0 fp108_1 fv108_1 fp109_0 fv109_0 fp109_1 fv109_1 fp109_2 fv109_2 fp109_3 fv109_3 fp109_4 fv109_4 fp110_0 fv110_0 fp110_1 fv110_1 fp110_2 fv110_2 fp110_3 fv110_3 fp110_4 fv110_4 fp120_0 fv120_0 fp120_1 fv120_1 fp120_2 fv120_2 fp120_3 fv120_3 fp121_0 fv121_0 fp121_1 fv121_1 fp121_2 fv121_2 fp121_3 fv121_3 fp122_0 fv122_0 fp122_1 fv122_1 fp123_0 fv123_0 fp123_1 fv123_1 fp126_0 fv126_0 fp126_1 fv126_1 fp127_0 fv127_0 fp127_1 fv127_1 fp144_0 fv144_0 fp144_1 fv144_1 fp144_2 fv144_2 fp145_0 fv145_0 fp145_1 fv145_1 fp145_2 fv145_2 lv22 ll22 is22 ix22 sh22 so22 sb22 sm22 sp22 lv23 ll23 is23 ix23 sh23 so23 sb23 sm23 sp23 lv26 ll26 is26 ix26 sh26 so26 sb26 sm26 sp26 lv29 ll29 is29 ix29 sh29 so29 sb29 sm29 sp29 lv30 ll30 is30 ix30 sh30 so30 sb30 sm30 sp30 lv57 ll57 is57 ix57 sh57 so57 sb57 sm57 sp57 lv133 ll133 is133 sp133 lv150 ll150 is150 ix150 sh150 so150 sb150 sm150 sp150 xs9 ls9 sx9 sy9 sz9
section
open Go Go.Sim
set_option maxRecDepth 100000

def inR (n lo hi : Int) : Bool := decide (lo ≤ n) && decide (n ≤ hi)
theorem c_within (n lo hi : Int) (H : AHeap) : ACalls Tryz.prog 42 [I n, I lo, I hi] H fun r H' => r = B (inR n lo hi) ∧ H' = H := by
  refine acalls_of0 Tryz.func42 rfl (by kernel_rfl) rfl rfl (awp_sound (fz := fun _ => []) (im := fun _ => false) mixed _ _ _ _ (by kernel_rfl) ?_)
  simp +contextual -dsimp -implicitDefEqProofs (maxSteps := 5000000) only [go_sem, reduceIte, reduceCtorEq, Nat.reduceEqDiff, Nat.reduceBEq, Nat.reduceAdd, Nat.reduceLeDiff, Nat.reduceMul, Nat.reduceLT, Int.reduceEq, Int.reduceLT, Int.reduceLE, inR]
theorem c_inRange (n lo hi : Int) (H : AHeap) : ACalls Tryz.prog 103 [I n, I lo, I hi] H fun r H' => r = B (inR n lo hi) ∧ H' = H := by
  refine acalls_of0 Tryz.func103 rfl (by kernel_rfl) rfl rfl (awp_sound (fz := fun _ => []) (im := fun _ => false) mixed _ _ _ _ (by kernel_rfl) ?_)
  simp +contextual -dsimp -implicitDefEqProofs (maxSteps := 5000000) only [go_sem, reduceIte, reduceCtorEq, Nat.reduceEqDiff, Nat.reduceBEq, Nat.reduceAdd, Nat.reduceLeDiff, Nat.reduceMul, Nat.reduceLT, Int.reduceEq, Int.reduceLT, Int.reduceLE, inR]
theorem c_codeOk (n : Int) (H : AHeap) : ACalls Tryz.prog 86 [I n] H fun r H' => r = B (inR n 0 99) ∧ H' = H := by
  refine acalls_of0 Tryz.func86 rfl (by kernel_rfl) rfl rfl (awp_sound (fz := fun _ => []) (im := fun _ => false) mixed _ _ _ _ (by kernel_rfl) ?_)
  simp +contextual -dsimp -implicitDefEqProofs (maxSteps := 5000000) only [go_sem, reduceIte, reduceCtorEq, Nat.reduceEqDiff, Nat.reduceBEq, Nat.reduceAdd, Nat.reduceLeDiff, Nat.reduceMul, Nat.reduceLT, Int.reduceEq, Int.reduceLT, Int.reduceLE]
  refine (c_within _ _ _ _).det ?_
  simp +contextual -dsimp -implicitDefEqProofs (maxSteps := 5000000) only [go_sem, reduceIte, reduceCtorEq, Nat.reduceEqDiff, Nat.reduceBEq, Nat.reduceAdd, Nat.reduceLeDiff, Nat.reduceMul, Nat.reduceLT, Int.reduceEq, Int.reduceLT, Int.reduceLE]

def letter (c : UInt8) : Bool := decide (97 ≤ c.toNat) && decide (c.toNat ≤ 122)
def nameF (s : Str) : Bool := s.all letter && inR s.length 1 6
theorem c_nameOk (s : Str) (H : AHeap) (hs : s.length < 4611686018427387904) : ACalls Tryz.prog 84 [S s] H fun r H' => r = B (nameF s) ∧ H' = H := by
  refine acalls_of0 Tryz.func84 rfl (by kernel_rfl) rfl rfl (awp_sound (fz := fun _ => []) (im := fun _ => false) mixed _ _ _ _ (by kernel_rfl) ?_)
  simp +contextual -dsimp -implicitDefEqProofs (maxSteps := 5000000) only [go_sem, reduceIte, reduceCtorEq, Nat.reduceEqDiff, Nat.reduceBEq, Nat.reduceAdd, Nat.reduceLeDiff, Nat.reduceMul, Nat.reduceLT, Int.reduceEq, Int.reduceLT, Int.reduceLE]
  refine aloop mixed (fz := fun _ => []) (im := fun _ => false) (by kernel_rfl) (fun m tm H' => ∃ k : Nat, m = s.length - k ∧ k ≤ s.length ∧ H' = H ∧ tm 0 = S s ∧ tm 5 = I s.length ∧ tm 6 = I k ∧ (s.take k).all letter = true) s.length ⟨0, ?_⟩ ?_
  · simp +contextual -dsimp -implicitDefEqProofs (maxSteps := 5000000) only [go_sem, reduceIte, reduceCtorEq, Nat.reduceEqDiff, Nat.reduceBEq, Nat.reduceAdd, Nat.reduceLeDiff, Nat.reduceMul, Nat.reduceLT, Int.reduceEq, Int.reduceLT, Int.reduceLE]
    simp
  · rintro m tm _ ⟨k, rfl, hk, rfl, h0, h5, h6, hl⟩
    simp +contextual -dsimp -implicitDefEqProofs (maxSteps := 5000000) only [go_sem, reduceIte, reduceCtorEq, Nat.reduceEqDiff, Nat.reduceBEq, Nat.reduceAdd, Nat.reduceLeDiff, Nat.reduceMul, Nat.reduceLT, Int.reduceEq, Int.reduceLT, Int.reduceLE, h0, h5, h6]
    refine ⟨fun h => ⟨fun hb => ?_, fun h1 => ⟨_, ?_, k + 1, rfl, h, ?_, ?_⟩⟩, fun h => ?_⟩
    · have : letter (s.getD k 0) = false := by simp only [letter, Bool.and_eq_false_iff, decide_eq_false_iff_not]; omega
      simp [nameF, all_not h this]
    · omega
    · rw [w64 (by omega) (by omega)]; rfl
    · exact all_take h hl (d := 0) (by simp only [letter, Bool.and_eq_true, decide_eq_true_eq]; omega)
    · refine (c_within _ _ _ _).det ?_
      have : k = s.length := by omega
      subst this
      rw [List.take_length] at hl
      simp +contextual -dsimp -implicitDefEqProofs (maxSteps := 5000000) only [go_sem, reduceIte, reduceCtorEq, Nat.reduceEqDiff, Nat.reduceBEq, Nat.reduceAdd, Nat.reduceLeDiff, Nat.reduceMul, Nat.reduceLT, Int.reduceEq, Int.reduceLT, Int.reduceLE, nameF, hl, Bool.true_and]
theorem c_validName (s : Str) (H : AHeap) (hs : s.length < 4611686018427387904) : ACalls Tryz.prog 101 [S s] H fun r H' => r = B (nameF s) ∧ H' = H := by
  refine acalls_of0 Tryz.func101 rfl (by kernel_rfl) rfl rfl (awp_sound (fz := fun _ => []) (im := fun _ => false) mixed _ _ _ _ (by kernel_rfl) ?_)
  simp +contextual -dsimp -implicitDefEqProofs (maxSteps := 5000000) only [go_sem, reduceIte, reduceCtorEq, Nat.reduceEqDiff, Nat.reduceBEq, Nat.reduceAdd, Nat.reduceLeDiff, Nat.reduceMul, Nat.reduceLT, Int.reduceEq, Int.reduceLT, Int.reduceLE]
  refine aloop mixed (fz := fun _ => []) (im := fun _ => false) (by kernel_rfl) (fun m tm H' => ∃ k : Nat, m = s.length - k ∧ k ≤ s.length ∧ H' = H ∧ tm 0 = S s ∧ tm 3 = I k ∧ (s.take k).all letter = true) s.length ⟨0, ?_⟩ ?_
  · simp +contextual -dsimp -implicitDefEqProofs (maxSteps := 5000000) only [go_sem, reduceIte, reduceCtorEq, Nat.reduceEqDiff, Nat.reduceBEq, Nat.reduceAdd, Nat.reduceLeDiff, Nat.reduceMul, Nat.reduceLT, Int.reduceEq, Int.reduceLT, Int.reduceLE]
    simp
  · rintro m tm _ ⟨k, rfl, hk, rfl, h0, h3, hl⟩
    simp +contextual -dsimp -implicitDefEqProofs (maxSteps := 5000000) only [go_sem, reduceIte, reduceCtorEq, Nat.reduceEqDiff, Nat.reduceBEq, Nat.reduceAdd, Nat.reduceLeDiff, Nat.reduceMul, Nat.reduceLT, Int.reduceEq, Int.reduceLT, Int.reduceLE, h0, h3]
    refine ⟨fun h => ⟨fun hb => ?_, fun h1 => ⟨_, ?_, k + 1, rfl, h, ?_, ?_⟩⟩, fun h => ?_⟩
    · have : letter (s.getD k 0) = false := by simp only [letter, Bool.and_eq_false_iff, decide_eq_false_iff_not]; omega
      simp [nameF, all_not h this]
    · omega
    · rw [w64 (by omega) (by omega)]; rfl
    · exact all_take h hl (d := 0) (by simp only [letter, Bool.and_eq_true, decide_eq_true_eq]; omega)
    · refine (c_inRange _ _ _ _).det ?_
      have : k = s.length := by omega
      subst this
      rw [List.take_length] at hl
      simp +contextual -dsimp -implicitDefEqProofs (maxSteps := 5000000) only [go_sem, reduceIte, reduceCtorEq, Nat.reduceEqDiff, Nat.reduceBEq, Nat.reduceAdd, Nat.reduceLeDiff, Nat.reduceMul, Nat.reduceLT, Int.reduceEq, Int.reduceLT, Int.reduceLE, nameF, hl, Bool.true_and]
end
section
open Go Go.Sim
set_option maxRecDepth 100000

abbrev aTree (t : List Class) (cl : Bool) : AV := .agg [.vsl (t.map rClass) cl]
def hasF (t : List Class) (a : Int) : Bool := inR a 0 (t.length - 1)
theorem c_has (t : List Class) (cl : Bool) (a : Int) (H : AHeap) : ACalls Tryz.prog 87 [aTree t cl, I a] H fun r H' => r = B (hasF t a) ∧ H' = H := by
  refine acalls_len1 (by kernel_rfl) (List.mem_cons_self ..) fun hl => ?_
  rw [List.length_map] at hl
  refine acalls_of0 Tryz.func87 rfl (by kernel_rfl) rfl rfl (awp_sound (fz := fun _ => []) (im := fun s => s == 2) mixed _ _ _ _ (by kernel_rfl) ?_)
  simp +contextual -dsimp -implicitDefEqProofs (maxSteps := 5000000) only [go_sem, reduceIte, reduceCtorEq, Nat.reduceEqDiff, Nat.reduceBEq, Nat.reduceAdd, Nat.reduceLeDiff, Nat.reduceMul, Nat.reduceLT, Int.reduceEq, Int.reduceLT, Int.reduceLE]
  rw [w64 (by omega) (by omega)]
  exact (c_within _ _ _ _).det (by simp +contextual -dsimp -implicitDefEqProofs (maxSteps := 5000000) only [go_sem, reduceIte, reduceCtorEq, Nat.reduceEqDiff, Nat.reduceBEq, Nat.reduceAdd, Nat.reduceLeDiff, Nat.reduceMul, Nat.reduceLT, Int.reduceEq, Int.reduceLT, Int.reduceLE, hasF])
theorem c_hasClass (t : List Class) (cl : Bool) (a : Int) (H : AHeap) : ACalls Tryz.prog 139 [aTree t cl, I a] H fun r H' => r = B (hasF t a) ∧ H' = H := by
  refine acalls_len1 (by kernel_rfl) (List.mem_cons_self ..) fun hl => ?_
  rw [List.length_map] at hl
  refine acalls_of0 Tryz.func139 rfl (by kernel_rfl) rfl rfl (awp_sound (fz := fun _ => []) (im := fun s => s == 2) mixed _ _ _ _ (by kernel_rfl) ?_)
  simp +contextual -dsimp -implicitDefEqProofs (maxSteps := 5000000) only [go_sem, reduceIte, reduceCtorEq, Nat.reduceEqDiff, Nat.reduceBEq, Nat.reduceAdd, Nat.reduceLeDiff, Nat.reduceMul, Nat.reduceLT, Int.reduceEq, Int.reduceLT, Int.reduceLE]
  rw [w64 (by omega) (by omega)]
  exact (c_inRange _ _ _ _).det (by simp +contextual -dsimp -implicitDefEqProofs (maxSteps := 5000000) only [go_sem, reduceIte, reduceCtorEq, Nat.reduceEqDiff, Nat.reduceBEq, Nat.reduceAdd, Nat.reduceLeDiff, Nat.reduceMul, Nat.reduceLT, Int.reduceEq, Int.reduceLT, Int.reduceLE, hasF])

theorem c_named1 (c : Class) (s : Str) (H : AHeap) : ACalls Tryz.prog 135 [.agg (rClass c), .vptr [rS s] 0 0] H fun r H' => r = B (decide (c.name = s)) ∧ H' = H := by
  refine acalls_of0 Tryz.func135 rfl (by kernel_rfl) rfl rfl (awp_sound (fz := fun _ => []) (im := fun s => s == 2) mixed _ _ _ _ (by kernel_rfl) ?_)
  simp +contextual -dsimp -implicitDefEqProofs (maxSteps := 5000000) only [go_sem, reduceIte, reduceCtorEq, Nat.reduceEqDiff, Nat.reduceBEq, Nat.reduceAdd, Nat.reduceLeDiff, Nat.reduceMul, Nat.reduceLT, Int.reduceEq, Int.reduceLT, Int.reduceLE]

theorem c_IndexFuncClass (l : List Class) (cl : Bool) (g : FuncId) (caps : List AV) (p : Class → Bool) (H : AHeap)
    (hp : ∀ c, ACalls Tryz.prog g (.agg (rClass c) :: caps) H fun r H' => r = B (p c) ∧ H' = H) :
    ACalls Tryz.prog 134 [.vsl (l.map rClass) cl, .fn g [] caps] H fun r H' => r = I (idxF p l) ∧ H' = H := by
  refine acalls_len (by kernel_rfl) (List.mem_cons_self ..) fun hl => ?_
  rw [List.length_map] at hl
  refine acalls_of0 Tryz.func134 rfl (by kernel_rfl) rfl rfl (awp_sound (fz := fun _ => []) (im := fun _ => false) mixed _ _ _ _ (by kernel_rfl) ?_)
  simp +contextual -dsimp -implicitDefEqProofs (maxSteps := 5000000) only [go_sem, reduceIte, reduceCtorEq, Nat.reduceEqDiff, Nat.reduceBEq, Nat.reduceAdd, Nat.reduceLeDiff, Nat.reduceMul, Nat.reduceLT, Int.reduceEq, Int.reduceLT, Int.reduceLE]
  refine aloop mixed (fz := fun _ => []) (im := fun _ => false) (by kernel_rfl) (fun m tm H' => ∃ k : Nat, m = l.length - k ∧ k ≤ l.length ∧ H' = H ∧ tm 0 = .vsl (l.map rClass) cl ∧ tm 1 = .fn g [] caps ∧ tm 7 = I l.length ∧ tm 8 = I k ∧ (l.take k).any p = false) l.length ⟨0, ?_⟩ ?_
  · simp +contextual -dsimp -implicitDefEqProofs (maxSteps := 5000000) only [go_sem, reduceIte, reduceCtorEq, Nat.reduceEqDiff, Nat.reduceBEq, Nat.reduceAdd, Nat.reduceLeDiff, Nat.reduceMul, Nat.reduceLT, Int.reduceEq, Int.reduceLT, Int.reduceLE]
    simp
  · rintro m tm _ ⟨k, rfl, hk, rfl, h0, h1, h7, h8, hn⟩
    simp +contextual -dsimp -implicitDefEqProofs (maxSteps := 5000000) only [go_sem, reduceIte, reduceCtorEq, Nat.reduceEqDiff, Nat.reduceBEq, Nat.reduceAdd, Nat.reduceLeDiff, Nat.reduceMul, Nat.reduceLT, Int.reduceEq, Int.reduceLT, Int.reduceLE, h0, h1, h7, h8]
    refine ⟨fun h => (hp _).det ?_, fun h => ?_⟩
    · simp +contextual -dsimp -implicitDefEqProofs (maxSteps := 5000000) only [go_sem, reduceIte, reduceCtorEq, Nat.reduceEqDiff, Nat.reduceBEq, Nat.reduceAdd, Nat.reduceLeDiff, Nat.reduceMul, Nat.reduceLT, Int.reduceEq, Int.reduceLT, Int.reduceLE, h0, h1, h7, h8]
      refine ⟨fun hb => ?_, fun hb => ⟨_, ?_, k + 1, rfl, h, I_wrap (by omega) (by omega) (by omega), any_take h hn hb⟩⟩
      · rw [idxF_at h hn hb]
      · omega
    · rw [idxF_none (by omega) hn]
theorem c_named (t : List Class) (cl : Bool) (s : Str) (H : AHeap) : ACalls Tryz.prog 85 [aTree t cl, S s] H fun r H' => r = I (idxF (fun c => decide (c.name = s)) t) ∧ H' = H := by
  refine acalls_of0 Tryz.func85 rfl (by kernel_rfl) rfl rfl (awp_sound (fz := fun _ => []) (im := fun s => s == 2 || s == 3) mixed _ _ _ _ (by kernel_rfl) ?_)
  simp +contextual -dsimp -implicitDefEqProofs (maxSteps := 5000000) only [go_sem, reduceIte, reduceCtorEq, Nat.reduceEqDiff, Nat.reduceBEq, Nat.reduceAdd, Nat.reduceLeDiff, Nat.reduceMul, Nat.reduceLT, Int.reduceEq, Int.reduceLT, Int.reduceLE]
  exact (c_IndexFuncClass t cl _ _ _ H fun c => c_named1 c s H).det (by simp +contextual -dsimp -implicitDefEqProofs (maxSteps := 5000000) only [go_sem, reduceIte, reduceCtorEq, Nat.reduceEqDiff, Nat.reduceBEq, Nat.reduceAdd, Nat.reduceLeDiff, Nat.reduceMul, Nat.reduceLT, Int.reduceEq, Int.reduceLT, Int.reduceLE])
theorem c_classNamed (l : List Class) (cl : Bool) (s : Str) (H : AHeap) : ACalls Tryz.prog 102 [.vsl (l.map rClass) cl, S s] H fun r H' => r = I (idxF (fun c => decide (c.name = s)) l) ∧ H' = H := by
  refine acalls_len (by kernel_rfl) (List.mem_cons_self ..) fun hl => ?_
  rw [List.length_map] at hl
  refine acalls_of0 Tryz.func102 rfl (by kernel_rfl) rfl rfl (awp_sound (fz := fun _ => []) (im := fun _ => false) mixed _ _ _ _ (by kernel_rfl) ?_)
  simp +contextual -dsimp -implicitDefEqProofs (maxSteps := 5000000) only [go_sem, reduceIte, reduceCtorEq, Nat.reduceEqDiff, Nat.reduceBEq, Nat.reduceAdd, Nat.reduceLeDiff, Nat.reduceMul, Nat.reduceLT, Int.reduceEq, Int.reduceLT, Int.reduceLE]
  refine aloop mixed (fz := fun _ => []) (im := fun _ => false) (by kernel_rfl) (fun m tm H' => ∃ k : Nat, m = l.length - k ∧ k ≤ l.length ∧ H' = H ∧ tm 0 = .vsl (l.map rClass) cl ∧ tm 1 = S s ∧ tm 5 = I k ∧ (l.take k).any (fun c => decide (c.name = s)) = false) l.length ⟨0, ?_⟩ ?_
  · simp +contextual -dsimp -implicitDefEqProofs (maxSteps := 5000000) only [go_sem, reduceIte, reduceCtorEq, Nat.reduceEqDiff, Nat.reduceBEq, Nat.reduceAdd, Nat.reduceLeDiff, Nat.reduceMul, Nat.reduceLT, Int.reduceEq, Int.reduceLT, Int.reduceLE]
    simp
  · rintro m tm _ ⟨k, rfl, hk, rfl, h0, h1, h5, hn⟩
    simp +contextual -dsimp -implicitDefEqProofs (maxSteps := 5000000) only [go_sem, reduceIte, reduceCtorEq, Nat.reduceEqDiff, Nat.reduceBEq, Nat.reduceAdd, Nat.reduceLeDiff, Nat.reduceMul, Nat.reduceLT, Int.reduceEq, Int.reduceLT, Int.reduceLE, h0, h1, h5]
    refine ⟨fun h => ⟨fun hb => ?_, fun hb => ⟨_, ?_, k + 1, rfl, h, I_wrap (by omega) (by omega) (by omega), any_take h hn (d := default) (by simpa using hb)⟩⟩, fun h => ?_⟩
    · rw [idxF_at h hn (d := default) (by simpa using hb)]
    · omega
    · rw [idxF_none (by omega) hn]
theorem c_Index (l : List Int) (cl : Bool) (n : Int) (H : AHeap) : ACalls Tryz.prog 119 [.vsl (l.map rI) cl, I n] H fun r H' => r = I (idxF (fun x => decide (n = x)) l) ∧ H' = H := by
  refine acalls_len (by kernel_rfl) (List.mem_cons_self ..) fun hl => ?_
  rw [List.length_map] at hl
  refine acalls_of0 Tryz.func119 rfl (by kernel_rfl) rfl rfl (awp_sound (fz := fun _ => []) (im := fun _ => false) mixed _ _ _ _ (by kernel_rfl) ?_)
  simp +contextual -dsimp -implicitDefEqProofs (maxSteps := 5000000) only [go_sem, reduceIte, reduceCtorEq, Nat.reduceEqDiff, Nat.reduceBEq, Nat.reduceAdd, Nat.reduceLeDiff, Nat.reduceMul, Nat.reduceLT, Int.reduceEq, Int.reduceLT, Int.reduceLE]
  refine aloop mixed (fz := fun _ => []) (im := fun _ => false) (by kernel_rfl) (fun m tm H' => ∃ k : Nat, m = l.length - k ∧ k ≤ l.length ∧ H' = H ∧ tm 0 = .vsl (l.map rI) cl ∧ tm 1 = I n ∧ tm 7 = I l.length ∧ tm 8 = I k ∧ (l.take k).any (fun x => decide (n = x)) = false) l.length ⟨0, ?_⟩ ?_
  · simp +contextual -dsimp -implicitDefEqProofs (maxSteps := 5000000) only [go_sem, reduceIte, reduceCtorEq, Nat.reduceEqDiff, Nat.reduceBEq, Nat.reduceAdd, Nat.reduceLeDiff, Nat.reduceMul, Nat.reduceLT, Int.reduceEq, Int.reduceLT, Int.reduceLE]
    simp
  · rintro m tm _ ⟨k, rfl, hk, rfl, h0, h1, h7, h8, hn⟩
    simp +contextual -dsimp -implicitDefEqProofs (maxSteps := 5000000) only [go_sem, reduceIte, reduceCtorEq, Nat.reduceEqDiff, Nat.reduceBEq, Nat.reduceAdd, Nat.reduceLeDiff, Nat.reduceMul, Nat.reduceLT, Int.reduceEq, Int.reduceLT, Int.reduceLE, h0, h1, h7, h8]
    refine ⟨fun h => ⟨fun hb => ?_, fun hb => ⟨_, ?_, k + 1, rfl, h, I_wrap (by omega) (by omega) (by omega), any_take h hn (d := default) (by simpa using hb)⟩⟩, fun h => ?_⟩
    · rw [← hb, idxF_at h hn (d := default) (by simpa using hb)]
    · omega
    · rw [idxF_none (by omega) hn]
theorem c_Contains (l : List Int) (cl : Bool) (n : Int) (H : AHeap) : ACalls Tryz.prog 99 [.vsl (l.map rI) cl, I n] H fun r H' => r = B (l.any fun x => decide (n = x)) ∧ H' = H := by
  refine acalls_of0 Tryz.func99 rfl (by kernel_rfl) rfl rfl (awp_sound (fz := fun _ => []) (im := fun _ => false) mixed _ _ _ _ (by kernel_rfl) ?_)
  simp +contextual -dsimp -implicitDefEqProofs (maxSteps := 5000000) only [go_sem, reduceIte, reduceCtorEq, Nat.reduceEqDiff, Nat.reduceBEq, Nat.reduceAdd, Nat.reduceLeDiff, Nat.reduceMul, Nat.reduceLT, Int.reduceEq, Int.reduceLT, Int.reduceLE]
  refine (c_Index l cl n H).det ?_
  simp +contextual -dsimp -implicitDefEqProofs (maxSteps := 5000000) only [go_sem, reduceIte, reduceCtorEq, Nat.reduceEqDiff, Nat.reduceBEq, Nat.reduceAdd, Nat.reduceLeDiff, Nat.reduceMul, Nat.reduceLT, Int.reduceEq, Int.reduceLT, Int.reduceLE]
  have h1 := idxF_ge (fun x => decide (n = x)) l
  have h2 := @idxF_neg _ (fun x => decide (n = x)) l
  cases hb : l.any fun x => decide (n = x)
  · rw [h2.2 hb]; rfl
  · have : idxF (fun x => decide (n = x)) l ≠ -1 := fun e => by rw [h2.1 e] at hb; cases hb
    simp; omega
end
section
open Go Go.Sim
set_option maxRecDepth 100000

def namesOk (t : List Class) : Prop := ∀ c ∈ t, c.name.length < 4611686018427387904
theorem namesOk_at {t : List Class} (h : namesOk t) {k : Nat} (hk : k < t.length) : (t.getD k default).name.length < 4611686018427387904 := by
  apply h
  simp [List.getD_eq_getElem?_getD, hk]
def clsOk (t : List Class) (i : Nat) (c : Class) : Bool :=
  nameF c.name && decide (idxF (fun d => decide (d.name = c.name)) t = i) && (if i = 0 then decide (c.parent = -1) else inR c.parent 0 (i - 1))
def validT (t : List Class) : Bool := (List.range t.length).all (fun i => clsOk t i (t.getD i default)) && inR t.length 1 8

theorem c_ValidTree (t : List Class) (cl : Bool) (H : AHeap) (hn : namesOk t) : ACalls Tryz.prog 40 [aTree t cl] H fun r H' => r = B (validT t) ∧ H' = H := by
  refine acalls_len1 (by kernel_rfl) (List.mem_cons_self ..) fun hl => ?_
  rw [List.length_map] at hl
  refine acalls_of0 Tryz.func40 rfl (by kernel_rfl) rfl rfl (awp_sound (fz := fun r => if r = 3 then [4] else []) (im := fun s => s == 1) mixed _ _ _ _ (by kernel_rfl) ?_)
  simp +contextual -dsimp -implicitDefEqProofs (maxSteps := 5000000) only [go_sem, reduceIte, reduceCtorEq, Nat.reduceEqDiff, Nat.reduceBEq, Nat.reduceAdd, Nat.reduceLeDiff, Nat.reduceMul, Nat.reduceLT, Int.reduceEq, Int.reduceLT, Int.reduceLE]
  refine aloop mixed (fz := fun r => if r = 3 then [4] else []) (im := fun s => s == 1) (by kernel_rfl) (fun m tm H' => ∃ k : Nat, m = t.length - k ∧ k ≤ t.length ∧ H' = H ∧ tm 1 = .vptr [[.vsl (t.map rClass) cl]] 0 0 ∧ tm 6 = .vsl (t.map rClass) cl ∧ tm 7 = I t.length ∧ tm 8 = I k ∧ (List.range k).all (fun i => clsOk t i (t.getD i default)) = true) t.length ⟨0, ?_⟩ ?_
  · simp +contextual -dsimp -implicitDefEqProofs (maxSteps := 5000000) only [go_sem, reduceIte, reduceCtorEq, Nat.reduceEqDiff, Nat.reduceBEq, Nat.reduceAdd, Nat.reduceLeDiff, Nat.reduceMul, Nat.reduceLT, Int.reduceEq, Int.reduceLT, Int.reduceLE]
    simp
  · rintro m tm _ ⟨k, rfl, hk, rfl, h1, h6, h7, h8, hv⟩
    simp +contextual -dsimp -implicitDefEqProofs (maxSteps := 5000000) only [go_sem, reduceIte, reduceCtorEq, Nat.reduceEqDiff, Nat.reduceBEq, Nat.reduceAdd, Nat.reduceLeDiff, Nat.reduceMul, Nat.reduceLT, Int.reduceEq, Int.reduceLT, Int.reduceLE, h1, h6, h7, h8]
    refine ⟨fun h b hb => ?_, fun h => ?_⟩
    · refine (c_nameOk _ _ (namesOk_at hn h)).det ?_
      have bad : clsOk t k (t.getD k default) = false → validT t = false := fun e => by
        simp only [validT, Bool.and_eq_false_iff]
        left
        rw [List.all_eq_false]
        exact ⟨k, by simp [h], by simp only [e]; decide⟩
      cases hN : nameF (t.getD k default).name
      · simp +contextual -dsimp -implicitDefEqProofs (maxSteps := 5000000) only [go_sem, reduceIte, reduceCtorEq, Nat.reduceEqDiff, Nat.reduceBEq, Nat.reduceAdd, Nat.reduceLeDiff, Nat.reduceMul, Nat.reduceLT, Int.reduceEq, Int.reduceLT, Int.reduceLE, h1, h6, h7, h8, hb]
        rw [bad (by simp only [clsOk, hN, Bool.false_and])]
      · simp +contextual -dsimp -implicitDefEqProofs (maxSteps := 5000000) only [go_sem, reduceIte, reduceCtorEq, Nat.reduceEqDiff, Nat.reduceBEq, Nat.reduceAdd, Nat.reduceLeDiff, Nat.reduceMul, Nat.reduceLT, Int.reduceEq, Int.reduceLT, Int.reduceLE, h1, h6, h7, h8, hb]
        refine (c_named _ _ _ _).det ?_
        simp +contextual -dsimp -implicitDefEqProofs (maxSteps := 5000000) only [go_sem, reduceIte, reduceCtorEq, Nat.reduceEqDiff, Nat.reduceBEq, Nat.reduceAdd, Nat.reduceLeDiff, Nat.reduceMul, Nat.reduceLT, Int.reduceEq, Int.reduceLT, Int.reduceLE, h1, h6, h7, h8, hb]
        have hp := bad
        simp only [clsOk, hN, Bool.true_and] at hp
        by_cases hI : idxF (fun c => decide (c.name = (t.getD k default).name)) t = k
        · have nxt : clsOk t k (t.getD k default) = true → ∃ m', m' < t.length - k ∧ ∃ k_1 : Nat, m' = t.length - k_1 ∧ k_1 ≤ t.length ∧ AV.lit (Value.int IntKind.i64 (IntKind.i64.wrap (↑k + 1))) = I ↑k_1 ∧ ((List.range k_1).all fun i => clsOk t i (t.getD i default)) = true := fun e =>
            ⟨_, by omega, k + 1, rfl, h, I_wrap (by omega) (by omega) (by omega), by rw [List.range_succ, List.all_append, hv]; simp only [List.all_cons, e, List.all_nil]; rfl⟩
          simp only [clsOk, hN, hI, decide_true, Bool.true_and] at nxt hp
          rcases Nat.eq_zero_or_pos k with rfl | hk0
          · by_cases hP : (t.getD 0 default).parent = -1
            · simp +contextual -dsimp -implicitDefEqProofs (maxSteps := 5000000) only [go_sem, reduceIte, reduceCtorEq, Nat.reduceEqDiff, Nat.reduceBEq, Nat.reduceAdd, Nat.reduceLeDiff, Nat.reduceMul, Nat.reduceLT, Int.reduceEq, Int.reduceLT, Int.reduceLE, h1, h6, h7, h8, hb, hI, hP]
              exact nxt (by simp only [hP, if_true, decide_true])
            · simp +contextual -dsimp -implicitDefEqProofs (maxSteps := 5000000) only [go_sem, reduceIte, reduceCtorEq, Nat.reduceEqDiff, Nat.reduceBEq, Nat.reduceAdd, Nat.reduceLeDiff, Nat.reduceMul, Nat.reduceLT, Int.reduceEq, Int.reduceLT, Int.reduceLE, h1, h6, h7, h8, hb, hI, hP]
              rw [hp (by simp only [hP, if_true, decide_false])]
          · have hk1 : ¬ k = 0 := by omega
            simp +contextual -dsimp -implicitDefEqProofs (maxSteps := 5000000) only [go_sem, reduceIte, reduceCtorEq, Nat.reduceEqDiff, Nat.reduceBEq, Nat.reduceAdd, Nat.reduceLeDiff, Nat.reduceMul, Nat.reduceLT, Int.reduceEq, Int.reduceLT, Int.reduceLE, h1, h6, h7, h8, hb, hI, hk0, hk1]
            rw [w64 (by omega) (by omega)]
            refine (c_within _ _ _ _).det ?_
            simp +contextual -dsimp -implicitDefEqProofs (maxSteps := 5000000) only [go_sem, reduceIte, reduceCtorEq, Nat.reduceEqDiff, Nat.reduceBEq, Nat.reduceAdd, Nat.reduceLeDiff, Nat.reduceMul, Nat.reduceLT, Int.reduceEq, Int.reduceLT, Int.reduceLE, h1, h6, h7, h8, hb, hI, hk0, hk1]
            simp only [hk1, if_false] at nxt hp
            exact ⟨fun e => by rw [hp e], nxt⟩
        · simp +contextual -dsimp -implicitDefEqProofs (maxSteps := 5000000) only [go_sem, reduceIte, reduceCtorEq, Nat.reduceEqDiff, Nat.reduceBEq, Nat.reduceAdd, Nat.reduceLeDiff, Nat.reduceMul, Nat.reduceLT, Int.reduceEq, Int.reduceLT, Int.reduceLE, h1, h6, h7, h8, hb, hI]
          rw [hp (by simp only [hI, decide_false, Bool.false_and])]
    · refine (c_within _ _ _ _).det ?_
      simp +contextual -dsimp -implicitDefEqProofs (maxSteps := 5000000) only [go_sem, reduceIte, reduceCtorEq, Nat.reduceEqDiff, Nat.reduceBEq, Nat.reduceAdd, Nat.reduceLeDiff, Nat.reduceMul, Nat.reduceLT, Int.reduceEq, Int.reduceLT, Int.reduceLE, h1, h6, h7, h8]
      have : k = t.length := by omega
      subst this
      simp only [validT, hv, Bool.true_and]
theorem idxF_take {α : Type} {p : α → Bool} {l : List α} {k : Nat} {d : α} (hk : k < l.length) (hp : p (l.getD k d) = true) : (idxF p l = k) ↔ idxF p (l.take k) < 0 := by
  have h1 := idxF_ge p (l.take k)
  have h2 := @idxF_neg _ p (l.take k)
  constructor
  · intro e
    have : (l.take k).any p = false := by
      rw [← Bool.not_eq_true]
      intro ha
      have h3 : ∀ (l : List α) (k : Nat), (l.take k).any p = true → idxF p l < k := by
        intro l
        induction l with
        | nil => intro k h; simp at h
        | cons x l ih =>
          intro k h
          cases k with
          | zero => simp at h
          | succ k =>
            simp only [List.take_succ_cons, List.any_cons, Bool.or_eq_true] at h
            have := idxF_ge p l
            simp only [idxF]
            split
            · omega
            · rename_i hx
              have := ih k (h.resolve_left (by simpa using hx))
              split <;> omega
      have := h3 l k ha
      omega
    rw [h2.2 this]; omega
  · intro e
    have : idxF p (l.take k) = -1 := by omega
    exact idxF_at hk (h2.1 this) hp
theorem c_validTree (t : List Class) (cl : Bool) (H : AHeap) (hn : namesOk t) : ACalls Tryz.prog 59 [aTree t cl] H fun r H' => r = B (validT t) ∧ H' = H := by
  refine acalls_len1 (by kernel_rfl) (List.mem_cons_self ..) fun hl => ?_
  rw [List.length_map] at hl
  refine acalls_of0 Tryz.func59 rfl (by kernel_rfl) rfl rfl (awp_sound (fz := fun r => if r = 4 then [4] else []) (im := fun s => s == 1) mixed _ _ _ _ (by kernel_rfl) ?_)
  simp +contextual -dsimp -implicitDefEqProofs (maxSteps := 5000000) only [go_sem, reduceIte, reduceCtorEq, Nat.reduceEqDiff, Nat.reduceBEq, Nat.reduceAdd, Nat.reduceLeDiff, Nat.reduceMul, Nat.reduceLT, Int.reduceEq, Int.reduceLT, Int.reduceLE]
  refine aloop mixed (fz := fun r => if r = 4 then [4] else []) (im := fun s => s == 1) (by kernel_rfl) (fun m tm H' => ∃ k : Nat, m = t.length - k ∧ k ≤ t.length ∧ H' = H ∧ tm 1 = .vptr [[.vsl (t.map rClass) cl]] 0 0 ∧ tm 3 = I k ∧ (List.range k).all (fun i => clsOk t i (t.getD i default)) = true) t.length ⟨0, ?_⟩ ?_
  · simp +contextual -dsimp -implicitDefEqProofs (maxSteps := 5000000) only [go_sem, reduceIte, reduceCtorEq, Nat.reduceEqDiff, Nat.reduceBEq, Nat.reduceAdd, Nat.reduceLeDiff, Nat.reduceMul, Nat.reduceLT, Int.reduceEq, Int.reduceLT, Int.reduceLE]
    simp
  · rintro m tm _ ⟨k, rfl, hk, rfl, h1, h3, hv⟩
    simp +contextual -dsimp -implicitDefEqProofs (maxSteps := 5000000) only [go_sem, reduceIte, reduceCtorEq, Nat.reduceEqDiff, Nat.reduceBEq, Nat.reduceAdd, Nat.reduceLeDiff, Nat.reduceMul, Nat.reduceLT, Int.reduceEq, Int.reduceLT, Int.reduceLE, h1, h3]
    refine ⟨fun h b hb => ?_, fun h => ?_⟩
    · refine draw_intro [0, 0, 2, 0, 0, 0, 0, 0, 0, 0, 0, 2, 0, 0, 0, 0, 0, 0, 0, 0, 0, 0, 0, 0, 0, 0, 0, 0, 0, 0, 0, 2, 0, 0, 0] AHeap.none (by kernel_rfl) none_le ?_
      simp +contextual -dsimp -implicitDefEqProofs (maxSteps := 5000000) only [go_sem, reduceIte, reduceCtorEq, Nat.reduceEqDiff, Nat.reduceBEq, Nat.reduceAdd, Nat.reduceLeDiff, Nat.reduceMul, Nat.reduceLT, Int.reduceEq, Int.reduceLT, Int.reduceLE, h1, h3, hb]
      refine (c_validName _ _ (namesOk_at hn h)).det ?_
      have bad : clsOk t k (t.getD k default) = false → validT t = false := fun e => by
        simp only [validT, Bool.and_eq_false_iff]
        left
        rw [List.all_eq_false]
        exact ⟨k, by simp [h], by simp only [e]; decide⟩
      cases hN : nameF (t.getD k default).name
      · simp +contextual -dsimp -implicitDefEqProofs (maxSteps := 5000000) only [go_sem, reduceIte, reduceCtorEq, Nat.reduceEqDiff, Nat.reduceBEq, Nat.reduceAdd, Nat.reduceLeDiff, Nat.reduceMul, Nat.reduceLT, Int.reduceEq, Int.reduceLT, Int.reduceLE, h1, h3, hb]
        rw [bad (by simp only [clsOk, hN, Bool.false_and])]
      · simp +contextual -dsimp -implicitDefEqProofs (maxSteps := 5000000) only [go_sem, reduceIte, reduceCtorEq, Nat.reduceEqDiff, Nat.reduceBEq, Nat.reduceAdd, Nat.reduceLeDiff, Nat.reduceMul, Nat.reduceLT, Int.reduceEq, Int.reduceLT, Int.reduceLE, h1, h3, hb]
        refine ⟨hk, (c_classNamed _ _ _ _).det ?_⟩
        simp +contextual -dsimp -implicitDefEqProofs (maxSteps := 5000000) only [go_sem, reduceIte, reduceCtorEq, Nat.reduceEqDiff, Nat.reduceBEq, Nat.reduceAdd, Nat.reduceLeDiff, Nat.reduceMul, Nat.reduceLT, Int.reduceEq, Int.reduceLT, Int.reduceLE, h1, h3, hb]
        have hp := bad
        have hI' := idxF_take (p := fun c => decide (c.name = (t.getD k default).name)) h (d := default) (by simp)
        by_cases hI : idxF (fun c => decide (c.name = (t.getD k default).name)) t = k
        · have hJ : ¬ 0 ≤ idxF (fun c => decide (c.name = (t.getD k default).name)) (t.take k) := by have := hI'.1 hI; omega
          have nxt : clsOk t k (t.getD k default) = true → ∃ m', m' < t.length - k ∧ ∃ k_1 : Nat, m' = t.length - k_1 ∧ k_1 ≤ t.length ∧ AV.lit (Value.int IntKind.i64 (IntKind.i64.wrap (↑k + 1))) = I ↑k_1 ∧ ((List.range k_1).all fun i => clsOk t i (t.getD i default)) = true := fun e =>
            ⟨_, by omega, k + 1, rfl, h, I_wrap (by omega) (by omega) (by omega), by rw [List.range_succ, List.all_append, hv]; simp only [List.all_cons, e, List.all_nil]; rfl⟩
          simp only [clsOk, hN, hI, decide_true, Bool.true_and] at nxt hp
          rcases Nat.eq_zero_or_pos k with rfl | hk0
          · have hJ : ¬ 0 ≤ idxF (fun c : Class => decide (c.name = (t.getD 0 default).name)) [] := by simp [idxF]
            by_cases hP : (t.getD 0 default).parent = -1
            · simp +contextual -dsimp -implicitDefEqProofs (maxSteps := 5000000) only [go_sem, reduceIte, reduceCtorEq, Nat.reduceEqDiff, Nat.reduceBEq, Nat.reduceAdd, Nat.reduceLeDiff, Nat.reduceMul, Nat.reduceLT, Int.reduceEq, Int.reduceLT, Int.reduceLE, h1, h3, hb, hJ, hP]
              exact nxt (by simp only [hP, if_true, decide_true])
            · simp +contextual -dsimp -implicitDefEqProofs (maxSteps := 5000000) only [go_sem, reduceIte, reduceCtorEq, Nat.reduceEqDiff, Nat.reduceBEq, Nat.reduceAdd, Nat.reduceLeDiff, Nat.reduceMul, Nat.reduceLT, Int.reduceEq, Int.reduceLT, Int.reduceLE, h1, h3, hb, hJ, hP]
              rw [hp (by simp only [hP, if_true, decide_false])]
          · have hk1 : ¬ k = 0 := by omega
            simp +contextual -dsimp -implicitDefEqProofs (maxSteps := 5000000) only [go_sem, reduceIte, reduceCtorEq, Nat.reduceEqDiff, Nat.reduceBEq, Nat.reduceAdd, Nat.reduceLeDiff, Nat.reduceMul, Nat.reduceLT, Int.reduceEq, Int.reduceLT, Int.reduceLE, h1, h3, hb, hJ, hk0, hk1]
            rw [w64 (by omega) (by omega)]
            refine (c_inRange _ _ _ _).det ?_
            simp +contextual -dsimp -implicitDefEqProofs (maxSteps := 5000000) only [go_sem, reduceIte, reduceCtorEq, Nat.reduceEqDiff, Nat.reduceBEq, Nat.reduceAdd, Nat.reduceLeDiff, Nat.reduceMul, Nat.reduceLT, Int.reduceEq, Int.reduceLT, Int.reduceLE, h1, h3, hb, hJ, hk0, hk1]
            simp only [hk1, if_false] at nxt hp
            exact ⟨fun e => by rw [hp e], nxt⟩
        · have hJ : 0 ≤ idxF (fun c => decide (c.name = (t.getD k default).name)) (t.take k) := by
            have := fun q => hI (hI'.2 q)
            omega
          simp +contextual -dsimp -implicitDefEqProofs (maxSteps := 5000000) only [go_sem, reduceIte, reduceCtorEq, Nat.reduceEqDiff, Nat.reduceBEq, Nat.reduceAdd, Nat.reduceLeDiff, Nat.reduceMul, Nat.reduceLT, Int.reduceEq, Int.reduceLT, Int.reduceLE, h1, h3, hb, hJ]
          rw [hp (by simp only [clsOk, hI, decide_false, Bool.and_false, Bool.false_and])]
    · refine (c_inRange _ _ _ _).det ?_
      simp +contextual -dsimp -implicitDefEqProofs (maxSteps := 5000000) only [go_sem, reduceIte, reduceCtorEq, Nat.reduceEqDiff, Nat.reduceBEq, Nat.reduceAdd, Nat.reduceLeDiff, Nat.reduceMul, Nat.reduceLT, Int.reduceEq, Int.reduceLT, Int.reduceLE, h1, h3]
      have : k = t.length := by omega
      subst this
      simp only [validT, hv, Bool.true_and]
end
section
open Go Go.Sim
set_option maxRecDepth 100000

theorem validT_len {t : List Class} (h : validT t = true) : 1 ≤ t.length ∧ t.length ≤ 8 := by
  simp only [validT, inR, Bool.and_eq_true, decide_eq_true_eq] at h
  omega
theorem validT_at {t : List Class} (h : validT t = true) {k : Nat} (hk : k < t.length) : clsOk t k (t.getD k default) = true := by
  simp only [validT, Bool.and_eq_true, List.all_eq_true] at h
  exact h.1 k (by simp [hk])
theorem validT_parent {t : List Class} (h : validT t = true) {k : Nat} (hk : k < t.length) : -1 ≤ (t.getD k default).parent ∧ (t.getD k default).parent < k := by
  have := validT_at h hk
  simp only [clsOk, Bool.and_eq_true] at this
  have h2 := this.2
  split at h2
  · simp only [decide_eq_true_eq] at h2; omega
  · simp only [inR, Bool.and_eq_true, decide_eq_true_eq] at h2; omega

def aboveG (t : List Class) : Nat → Int → List Int
  | 0, _ => []
  | n + 1, a => if 0 ≤ a then a :: aboveG t n (t.getD a.toNat default).parent else []
/-- A class and all above it. -/
def aboveF (t : List Class) (a : Int) : List Int := aboveG t (a + 1).toNat a
theorem aboveG_neg {t : List Class} {n : Nat} {a : Int} (h : a < 0) : aboveG t n a = [] := by
  cases n with
  | zero => rfl
  | succ n => simp only [aboveG]; rw [if_neg (by omega)]
theorem aboveG_eq {t : List Class} (h : validT t = true) : ∀ (n m : Nat) (a : Int), a < t.length → a < n → a < m → aboveG t n a = aboveG t m a
  | 0, m, a, _, h1, _ => by rw [aboveG_neg (by omega), aboveG_neg (by omega)]
  | n + 1, 0, a, _, _, h2 => by rw [aboveG_neg (by omega), aboveG_neg (by omega)]
  | n + 1, m + 1, a, h0, h1, h2 => by
    simp only [aboveG]
    split
    · rename_i ha
      have := validT_parent h (show a.toNat < t.length by omega)
      rw [aboveG_eq h n m _ (by omega) (by omega) (by omega)]
    · rfl
theorem aboveF_step {t : List Class} (h : validT t = true) {a : Int} (h0 : 0 ≤ a) (h1 : a < t.length) : aboveF t a = a :: aboveF t (t.getD a.toNat default).parent := by
  have := validT_parent h (show a.toNat < t.length by omega)
  have e : (a + 1).toNat = a.toNat + 1 := by omega
  simp only [aboveF, e, aboveG]
  rw [if_pos h0]
  exact congrArg _ (aboveG_eq h _ _ _ (by omega) (by omega) (by omega))
theorem aboveF_neg {t : List Class} {a : Int} (h : a < 0) : aboveF t a = [] := aboveG_neg h

theorem c_above (t : List Class) (cl : Bool) (a : Int) (H : AHeap) (hv : validT t = true) (ha : a < t.length) : ACalls Tryz.prog 100 [aTree t cl, I a] H fun r H' => (∃ cl', r = .vsl ((aboveF t a).map rI) cl') ∧ H' = H := by
  have hl := validT_len hv
  refine acalls_of1 Tryz.func100 rfl (by kernel_rfl) rfl rfl (awp_sound (fz := fun _ => []) (im := fun s => s == 2 || s == 20) mixed _ _ _ _ (by kernel_rfl) ?_)
  simp +contextual -dsimp -implicitDefEqProofs (maxSteps := 5000000) only [go_sem, reduceIte, reduceCtorEq, Nat.reduceEqDiff, Nat.reduceBEq, Nat.reduceAdd, Nat.reduceLeDiff, Nat.reduceMul, Nat.reduceLT, Int.reduceEq, Int.reduceLT, Int.reduceLE]
  refine ⟨by omega, by omega, fun b hb => ?_⟩
  refine aloop mixed (fz := fun _ => []) (im := fun s => s == 2 || s == 20) (by kernel_rfl) (fun m tm H' => ∃ (out : List Int) (c : Int), m = (c + 1).toNat ∧ c < t.length ∧ out.length + (c + 1).toNat ≤ 8 ∧ tm 1 = I c ∧ tm 2 = .vptr [[.vsl (t.map rClass) cl]] 0 0 ∧ Grow rI 1 3 H H' (tm 5) out ∧ out ++ aboveF t c = aboveF t a) (a + 1).toNat ⟨[], a, rfl, ha, by simp; omega, ?_⟩ ?_
  · simp +contextual -dsimp -implicitDefEqProofs (maxSteps := 5000000) only [go_sem, reduceIte, reduceCtorEq, Nat.reduceEqDiff, Nat.reduceBEq, Nat.reduceAdd, Nat.reduceLeDiff, Nat.reduceMul, Nat.reduceLT, Int.reduceEq, Int.reduceLT, Int.reduceLE]
    exact grow_new hb
  · rintro m tm H' ⟨out, c, rfl, hc, ho, h1, h2, hg, he⟩
    simp +contextual -dsimp -implicitDefEqProofs (maxSteps := 5000000) only [go_sem, reduceIte, reduceCtorEq, Nat.reduceEqDiff, Nat.reduceBEq, Nat.reduceAdd, Nat.reduceLeDiff, Nat.reduceMul, Nat.reduceLT, Int.reduceEq, Int.reduceLT, Int.reduceLE, h1, h2]
    refine ⟨fun h => ?_, fun h => ?_⟩
    · refine grow_append (m := [c]) te29 ti3 rI_len (by decide) hg (by simp; omega) (by simp; omega) rfl fun x' H'' hg' => ?_
      simp +contextual -dsimp -implicitDefEqProofs (maxSteps := 5000000) only [go_sem, reduceIte, reduceCtorEq, Nat.reduceEqDiff, Nat.reduceBEq, Nat.reduceAdd, Nat.reduceLeDiff, Nat.reduceMul, Nat.reduceLT, Int.reduceEq, Int.reduceLT, Int.reduceLE, h1, h2]
      have hp := validT_parent hv (show c.toNat < t.length by omega)
      refine ⟨by omega, by omega, _, ?_, out ++ [c], _, rfl, ?_, ?_, rfl, hg', ?_⟩
      · omega
      · omega
      · simp only [List.length_append, List.length_cons, List.length_nil]; omega
      · rw [← he, aboveF_step hv h hc]; simp
    · have hn := grow_len te29 hg
      obtain ⟨x', hx, hg'⟩ := grow_slice (ka := .i64) (kb := .i64) te29 ti3 rI_len hg
      simp +contextual -dsimp -implicitDefEqProofs (maxSteps := 5000000) only [go_sem, reduceIte, reduceCtorEq, Nat.reduceEqDiff, Nat.reduceBEq, Nat.reduceAdd, Nat.reduceLeDiff, Nat.reduceMul, Nat.reduceLT, Int.reduceEq, Int.reduceLT, Int.reduceLE, h1, h2, hn, hx]
      rw [aboveF_neg (by omega), List.append_nil] at he
      subst he
      exact grow_frz (t := 4) hg' fun cl => retR_one ⟨⟨cl, rfl⟩, rfl⟩
theorem c_is (t : List Class) (cl : Bool) (a b : Int) (H : AHeap) (hv : validT t = true) (ha : a < t.length) : ACalls Tryz.prog 56 [aTree t cl, I a, I b] H fun r H' => r = B ((aboveF t a).any fun x => decide (b = x)) ∧ H' = H := by
  refine acalls_of0 Tryz.func56 rfl (by kernel_rfl) rfl rfl (awp_sound (fz := fun _ => []) (im := fun s => s == 3) mixed _ _ _ _ (by kernel_rfl) ?_)
  simp +contextual -dsimp -implicitDefEqProofs (maxSteps := 5000000) only [go_sem, reduceIte, reduceCtorEq, Nat.reduceEqDiff, Nat.reduceBEq, Nat.reduceAdd, Nat.reduceLeDiff, Nat.reduceMul, Nat.reduceLT, Int.reduceEq, Int.reduceLT, Int.reduceLE]
  refine (c_above _ _ _ _ hv ha).detV fun cl' => ?_
  simp +contextual -dsimp -implicitDefEqProofs (maxSteps := 5000000) only [go_sem, reduceIte, reduceCtorEq, Nat.reduceEqDiff, Nat.reduceBEq, Nat.reduceAdd, Nat.reduceLeDiff, Nat.reduceMul, Nat.reduceLT, Int.reduceEq, Int.reduceLT, Int.reduceLE]
  refine (c_Contains _ _ _ _).det ?_
  simp +contextual -dsimp -implicitDefEqProofs (maxSteps := 5000000) only [go_sem, reduceIte, reduceCtorEq, Nat.reduceEqDiff, Nat.reduceBEq, Nat.reduceAdd, Nat.reduceLeDiff, Nat.reduceMul, Nat.reduceLT, Int.reduceEq, Int.reduceLT, Int.reduceLE]
end
section
open Go Go.Sim
set_option maxRecDepth 100000

def exitOk (t : List Class) (x : Exi) : Bool :=
  if x.kind = 0 then inR x.a 0 99 && decide (x.b = 0) else if x.kind = 1 then inR x.a 0 99 && decide (x.b = 0)
  else if x.kind = 2 then hasF t x.a && decide (x.b = 0) else if x.kind = 3 then hasF t x.a && inR x.b 0 99 else false
def validX (t : List Class) (l : List Exi) : Bool := validT t && decide (l.length ≤ 8) && l.all (exitOk t)
def startOk (t : List Class) (x : Sta) : Bool :=
  if x.has then hasF t x.cls && inR x.code 0 99 else decide (x.cls = 0) && decide (x.code = 0)

theorem c_exitValid (t : List Class) (cl : Bool) (x : Exi) (H : AHeap) : ACalls Tryz.prog 69 [.agg (rExit x), aTree t cl] H fun r H' => r = B (exitOk t x) ∧ H' = H := by
  refine acalls_of0 Tryz.func69 rfl (by kernel_rfl) rfl rfl (awp_sound (fz := fun _ => []) (im := fun s => s == 2 || s == 3) mixed _ _ _ _ (by kernel_rfl) ?_)
  by_cases h0 : x.kind = 0
  · simp +contextual -dsimp -implicitDefEqProofs (maxSteps := 5000000) only [go_sem, reduceIte, reduceCtorEq, Nat.reduceEqDiff, Nat.reduceBEq, Nat.reduceAdd, Nat.reduceLeDiff, Nat.reduceMul, Nat.reduceLT, Int.reduceEq, Int.reduceLT, Int.reduceLE, h0]
    exact (c_codeOk _ _).det (by simp +contextual -dsimp -implicitDefEqProofs (maxSteps := 5000000) only [go_sem, reduceIte, reduceCtorEq, Nat.reduceEqDiff, Nat.reduceBEq, Nat.reduceAdd, Nat.reduceLeDiff, Nat.reduceMul, Nat.reduceLT, Int.reduceEq, Int.reduceLT, Int.reduceLE, exitOk, h0])
  by_cases h1 : x.kind = 1
  · simp +contextual -dsimp -implicitDefEqProofs (maxSteps := 5000000) only [go_sem, reduceIte, reduceCtorEq, Nat.reduceEqDiff, Nat.reduceBEq, Nat.reduceAdd, Nat.reduceLeDiff, Nat.reduceMul, Nat.reduceLT, Int.reduceEq, Int.reduceLT, Int.reduceLE, h0, h1, Int.reduceEq]
    exact (c_codeOk _ _).det (by simp +contextual -dsimp -implicitDefEqProofs (maxSteps := 5000000) only [go_sem, reduceIte, reduceCtorEq, Nat.reduceEqDiff, Nat.reduceBEq, Nat.reduceAdd, Nat.reduceLeDiff, Nat.reduceMul, Nat.reduceLT, Int.reduceEq, Int.reduceLT, Int.reduceLE, exitOk, h1, Int.reduceEq])
  by_cases h2 : x.kind = 2
  · simp +contextual -dsimp -implicitDefEqProofs (maxSteps := 5000000) only [go_sem, reduceIte, reduceCtorEq, Nat.reduceEqDiff, Nat.reduceBEq, Nat.reduceAdd, Nat.reduceLeDiff, Nat.reduceMul, Nat.reduceLT, Int.reduceEq, Int.reduceLT, Int.reduceLE, h0, h1, h2, Int.reduceEq]
    exact (c_has _ _ _ _).det (by simp +contextual -dsimp -implicitDefEqProofs (maxSteps := 5000000) only [go_sem, reduceIte, reduceCtorEq, Nat.reduceEqDiff, Nat.reduceBEq, Nat.reduceAdd, Nat.reduceLeDiff, Nat.reduceMul, Nat.reduceLT, Int.reduceEq, Int.reduceLT, Int.reduceLE, exitOk, h2, Int.reduceEq])
  by_cases h3 : x.kind = 3
  · simp +contextual -dsimp -implicitDefEqProofs (maxSteps := 5000000) only [go_sem, reduceIte, reduceCtorEq, Nat.reduceEqDiff, Nat.reduceBEq, Nat.reduceAdd, Nat.reduceLeDiff, Nat.reduceMul, Nat.reduceLT, Int.reduceEq, Int.reduceLT, Int.reduceLE, h0, h1, h2, h3, Int.reduceEq]
    refine (c_has _ _ _ _).det ?_
    cases hh : hasF t x.a
    · simp +contextual -dsimp -implicitDefEqProofs (maxSteps := 5000000) only [go_sem, reduceIte, reduceCtorEq, Nat.reduceEqDiff, Nat.reduceBEq, Nat.reduceAdd, Nat.reduceLeDiff, Nat.reduceMul, Nat.reduceLT, Int.reduceEq, Int.reduceLT, Int.reduceLE, exitOk, h3, Int.reduceEq, hh]
    · simp +contextual -dsimp -implicitDefEqProofs (maxSteps := 5000000) only [go_sem, reduceIte, reduceCtorEq, Nat.reduceEqDiff, Nat.reduceBEq, Nat.reduceAdd, Nat.reduceLeDiff, Nat.reduceMul, Nat.reduceLT, Int.reduceEq, Int.reduceLT, Int.reduceLE, h3, Int.reduceEq]
      exact (c_codeOk _ _).det (by simp +contextual -dsimp -implicitDefEqProofs (maxSteps := 5000000) only [go_sem, reduceIte, reduceCtorEq, Nat.reduceEqDiff, Nat.reduceBEq, Nat.reduceAdd, Nat.reduceLeDiff, Nat.reduceMul, Nat.reduceLT, Int.reduceEq, Int.reduceLT, Int.reduceLE, exitOk, h3, Int.reduceEq, hh])
  · simp +contextual -dsimp -implicitDefEqProofs (maxSteps := 5000000) only [go_sem, reduceIte, reduceCtorEq, Nat.reduceEqDiff, Nat.reduceBEq, Nat.reduceAdd, Nat.reduceLeDiff, Nat.reduceMul, Nat.reduceLT, Int.reduceEq, Int.reduceLT, Int.reduceLE, h0, h1, h2, h3]
    simp only [exitOk, h0, h1, h2, h3, if_false]
theorem c_validExit (t : List Class) (cl : Bool) (x : Exi) (H : AHeap) : ACalls Tryz.prog 143 [aTree t cl, .agg (rExit x)] H fun r H' => r = B (exitOk t x) ∧ H' = H := by
  refine acalls_of0 Tryz.func143 rfl (by kernel_rfl) rfl rfl (awp_sound (fz := fun _ => []) (im := fun s => s == 2 || s == 3) mixed _ _ _ _ (by kernel_rfl) ?_)
  by_cases h0 : x.kind = 0
  · simp +contextual -dsimp -implicitDefEqProofs (maxSteps := 5000000) only [go_sem, reduceIte, reduceCtorEq, Nat.reduceEqDiff, Nat.reduceBEq, Nat.reduceAdd, Nat.reduceLeDiff, Nat.reduceMul, Nat.reduceLT, Int.reduceEq, Int.reduceLT, Int.reduceLE, h0]
    exact (c_inRange _ _ _ _).det (by simp +contextual -dsimp -implicitDefEqProofs (maxSteps := 5000000) only [go_sem, reduceIte, reduceCtorEq, Nat.reduceEqDiff, Nat.reduceBEq, Nat.reduceAdd, Nat.reduceLeDiff, Nat.reduceMul, Nat.reduceLT, Int.reduceEq, Int.reduceLT, Int.reduceLE, exitOk, h0])
  by_cases h1 : x.kind = 1
  · simp +contextual -dsimp -implicitDefEqProofs (maxSteps := 5000000) only [go_sem, reduceIte, reduceCtorEq, Nat.reduceEqDiff, Nat.reduceBEq, Nat.reduceAdd, Nat.reduceLeDiff, Nat.reduceMul, Nat.reduceLT, Int.reduceEq, Int.reduceLT, Int.reduceLE, h0, h1, Int.reduceEq]
    exact (c_inRange _ _ _ _).det (by simp +contextual -dsimp -implicitDefEqProofs (maxSteps := 5000000) only [go_sem, reduceIte, reduceCtorEq, Nat.reduceEqDiff, Nat.reduceBEq, Nat.reduceAdd, Nat.reduceLeDiff, Nat.reduceMul, Nat.reduceLT, Int.reduceEq, Int.reduceLT, Int.reduceLE, exitOk, h1, Int.reduceEq])
  by_cases h2 : x.kind = 2
  · simp +contextual -dsimp -implicitDefEqProofs (maxSteps := 5000000) only [go_sem, reduceIte, reduceCtorEq, Nat.reduceEqDiff, Nat.reduceBEq, Nat.reduceAdd, Nat.reduceLeDiff, Nat.reduceMul, Nat.reduceLT, Int.reduceEq, Int.reduceLT, Int.reduceLE, h0, h1, h2, Int.reduceEq]
    exact (c_hasClass _ _ _ _).det (by simp +contextual -dsimp -implicitDefEqProofs (maxSteps := 5000000) only [go_sem, reduceIte, reduceCtorEq, Nat.reduceEqDiff, Nat.reduceBEq, Nat.reduceAdd, Nat.reduceLeDiff, Nat.reduceMul, Nat.reduceLT, Int.reduceEq, Int.reduceLT, Int.reduceLE, exitOk, h2, Int.reduceEq])
  by_cases h3 : x.kind = 3
  · simp +contextual -dsimp -implicitDefEqProofs (maxSteps := 5000000) only [go_sem, reduceIte, reduceCtorEq, Nat.reduceEqDiff, Nat.reduceBEq, Nat.reduceAdd, Nat.reduceLeDiff, Nat.reduceMul, Nat.reduceLT, Int.reduceEq, Int.reduceLT, Int.reduceLE, h0, h1, h2, h3, Int.reduceEq]
    refine (c_hasClass _ _ _ _).det ?_
    cases hh : hasF t x.a
    · simp +contextual -dsimp -implicitDefEqProofs (maxSteps := 5000000) only [go_sem, reduceIte, reduceCtorEq, Nat.reduceEqDiff, Nat.reduceBEq, Nat.reduceAdd, Nat.reduceLeDiff, Nat.reduceMul, Nat.reduceLT, Int.reduceEq, Int.reduceLT, Int.reduceLE, exitOk, h3, Int.reduceEq, hh]
    · simp +contextual -dsimp -implicitDefEqProofs (maxSteps := 5000000) only [go_sem, reduceIte, reduceCtorEq, Nat.reduceEqDiff, Nat.reduceBEq, Nat.reduceAdd, Nat.reduceLeDiff, Nat.reduceMul, Nat.reduceLT, Int.reduceEq, Int.reduceLT, Int.reduceLE, h3, Int.reduceEq]
      exact (c_inRange _ _ _ _).det (by simp +contextual -dsimp -implicitDefEqProofs (maxSteps := 5000000) only [go_sem, reduceIte, reduceCtorEq, Nat.reduceEqDiff, Nat.reduceBEq, Nat.reduceAdd, Nat.reduceLeDiff, Nat.reduceMul, Nat.reduceLT, Int.reduceEq, Int.reduceLT, Int.reduceLE, exitOk, h3, Int.reduceEq, hh])
  · simp +contextual -dsimp -implicitDefEqProofs (maxSteps := 5000000) only [go_sem, reduceIte, reduceCtorEq, Nat.reduceEqDiff, Nat.reduceBEq, Nat.reduceAdd, Nat.reduceLeDiff, Nat.reduceMul, Nat.reduceLT, Int.reduceEq, Int.reduceLT, Int.reduceLE, h0, h1, h2, h3]
    simp only [exitOk, h0, h1, h2, h3, if_false]

theorem c_validExitsF (t : List Class) (cl : Bool) (x : Exi) (H : AHeap) : ACalls Tryz.prog 68 [.agg (rExit x), .vptr [[.vsl (t.map rClass) cl]] 0 0] H fun r H' => r = B (!exitOk t x) ∧ H' = H := by
  refine acalls_of0 Tryz.func68 rfl (by kernel_rfl) rfl rfl (awp_sound (fz := fun _ => []) (im := fun s => s == 2) mixed _ _ _ _ (by kernel_rfl) ?_)
  simp +contextual -dsimp -implicitDefEqProofs (maxSteps := 5000000) only [go_sem, reduceIte, reduceCtorEq, Nat.reduceEqDiff, Nat.reduceBEq, Nat.reduceAdd, Nat.reduceLeDiff, Nat.reduceMul, Nat.reduceLT, Int.reduceEq, Int.reduceLT, Int.reduceLE]
  exact (c_exitValid _ _ _ _).det (by simp +contextual -dsimp -implicitDefEqProofs (maxSteps := 5000000) only [go_sem, reduceIte, reduceCtorEq, Nat.reduceEqDiff, Nat.reduceBEq, Nat.reduceAdd, Nat.reduceLeDiff, Nat.reduceMul, Nat.reduceLT, Int.reduceEq, Int.reduceLT, Int.reduceLE])
theorem c_IndexFuncExit (l : List Exi) (cl : Bool) (g : FuncId) (caps : List AV) (p : Exi → Bool) (H : AHeap)
    (hp : ∀ c, ACalls Tryz.prog g (.agg (rExit c) :: caps) H fun r H' => r = B (p c) ∧ H' = H) :
    ACalls Tryz.prog 112 [.vsl (l.map rExit) cl, .fn g [] caps] H fun r H' => r = I (idxF p l) ∧ H' = H := by
  refine acalls_len (by kernel_rfl) (List.mem_cons_self ..) fun hl => ?_
  rw [List.length_map] at hl
  refine acalls_of0 Tryz.func112 rfl (by kernel_rfl) rfl rfl (awp_sound (fz := fun _ => []) (im := fun _ => false) mixed _ _ _ _ (by kernel_rfl) ?_)
  simp +contextual -dsimp -implicitDefEqProofs (maxSteps := 5000000) only [go_sem, reduceIte, reduceCtorEq, Nat.reduceEqDiff, Nat.reduceBEq, Nat.reduceAdd, Nat.reduceLeDiff, Nat.reduceMul, Nat.reduceLT, Int.reduceEq, Int.reduceLT, Int.reduceLE]
  refine aloop mixed (fz := fun _ => []) (im := fun _ => false) (by kernel_rfl) (fun m tm H' => ∃ k : Nat, m = l.length - k ∧ k ≤ l.length ∧ H' = H ∧ tm 0 = .vsl (l.map rExit) cl ∧ tm 1 = .fn g [] caps ∧ tm 7 = I l.length ∧ tm 8 = I k ∧ (l.take k).any p = false) l.length ⟨0, ?_⟩ ?_
  · simp +contextual -dsimp -implicitDefEqProofs (maxSteps := 5000000) only [go_sem, reduceIte, reduceCtorEq, Nat.reduceEqDiff, Nat.reduceBEq, Nat.reduceAdd, Nat.reduceLeDiff, Nat.reduceMul, Nat.reduceLT, Int.reduceEq, Int.reduceLT, Int.reduceLE]
    simp
  · rintro m tm _ ⟨k, rfl, hk, rfl, h0, h1, h7, h8, hn⟩
    simp +contextual -dsimp -implicitDefEqProofs (maxSteps := 5000000) only [go_sem, reduceIte, reduceCtorEq, Nat.reduceEqDiff, Nat.reduceBEq, Nat.reduceAdd, Nat.reduceLeDiff, Nat.reduceMul, Nat.reduceLT, Int.reduceEq, Int.reduceLT, Int.reduceLE, h0, h1, h7, h8]
    refine ⟨fun h => (hp _).det ?_, fun h => ?_⟩
    · simp +contextual -dsimp -implicitDefEqProofs (maxSteps := 5000000) only [go_sem, reduceIte, reduceCtorEq, Nat.reduceEqDiff, Nat.reduceBEq, Nat.reduceAdd, Nat.reduceLeDiff, Nat.reduceMul, Nat.reduceLT, Int.reduceEq, Int.reduceLT, Int.reduceLE, h0, h1, h7, h8]
      refine ⟨fun hb => ?_, fun hb => ⟨_, ?_, k + 1, rfl, h, I_wrap (by omega) (by omega) (by omega), any_take h hn hb⟩⟩
      · rw [idxF_at h hn hb]
      · omega
    · rw [idxF_none (by omega) hn]
theorem c_ContainsFuncExit (l : List Exi) (cl : Bool) (g : FuncId) (caps : List AV) (p : Exi → Bool) (H : AHeap)
    (hp : ∀ c, ACalls Tryz.prog g (.agg (rExit c) :: caps) H fun r H' => r = B (p c) ∧ H' = H) :
    ACalls Tryz.prog 67 [.vsl (l.map rExit) cl, .fn g [] caps] H fun r H' => r = B (l.any p) ∧ H' = H := by
  refine acalls_of0 Tryz.func67 rfl (by kernel_rfl) rfl rfl (awp_sound (fz := fun _ => []) (im := fun _ => false) mixed _ _ _ _ (by kernel_rfl) ?_)
  simp +contextual -dsimp -implicitDefEqProofs (maxSteps := 5000000) only [go_sem, reduceIte, reduceCtorEq, Nat.reduceEqDiff, Nat.reduceBEq, Nat.reduceAdd, Nat.reduceLeDiff, Nat.reduceMul, Nat.reduceLT, Int.reduceEq, Int.reduceLT, Int.reduceLE]
  refine (c_IndexFuncExit l cl g caps p H hp).det ?_
  simp +contextual -dsimp -implicitDefEqProofs (maxSteps := 5000000) only [go_sem, reduceIte, reduceCtorEq, Nat.reduceEqDiff, Nat.reduceBEq, Nat.reduceAdd, Nat.reduceLeDiff, Nat.reduceMul, Nat.reduceLT, Int.reduceEq, Int.reduceLT, Int.reduceLE, idxF_nonneg]
theorem c_ValidExits (t : List Class) (cl : Bool) (l : List Exi) (cl' : Bool) (H : AHeap) (hn : namesOk t) : ACalls Tryz.prog 28 [aTree t cl, .vsl (l.map rExit) cl'] H fun r H' => r = B (validX t l) ∧ H' = H := by
  refine acalls_of0 Tryz.func28 rfl (by kernel_rfl) rfl rfl (awp_sound (fz := fun _ => []) (im := fun s => s == 2) mixed _ _ _ _ (by kernel_rfl) ?_)
  simp +contextual -dsimp -implicitDefEqProofs (maxSteps := 5000000) only [go_sem, reduceIte, reduceCtorEq, Nat.reduceEqDiff, Nat.reduceBEq, Nat.reduceAdd, Nat.reduceLeDiff, Nat.reduceMul, Nat.reduceLT, Int.reduceEq, Int.reduceLT, Int.reduceLE]
  refine (c_ValidTree _ _ _ hn).det ?_
  cases hv : validT t
  · simp +contextual -dsimp -implicitDefEqProofs (maxSteps := 5000000) only [go_sem, reduceIte, reduceCtorEq, Nat.reduceEqDiff, Nat.reduceBEq, Nat.reduceAdd, Nat.reduceLeDiff, Nat.reduceMul, Nat.reduceLT, Int.reduceEq, Int.reduceLT, Int.reduceLE, validX, hv]
  · by_cases h8 : l.length ≤ 8
    · have h8' : (l.length : Int) ≤ 8 := by omega
      simp +contextual -dsimp -implicitDefEqProofs (maxSteps := 5000000) only [go_sem, reduceIte, reduceCtorEq, Nat.reduceEqDiff, Nat.reduceBEq, Nat.reduceAdd, Nat.reduceLeDiff, Nat.reduceMul, Nat.reduceLT, Int.reduceEq, Int.reduceLT, Int.reduceLE, h8']
      refine (c_ContainsFuncExit l _ _ _ _ _ fun c => c_validExitsF t cl c _).det ?_
      simp +contextual -dsimp -implicitDefEqProofs (maxSteps := 5000000) only [go_sem, reduceIte, reduceCtorEq, Nat.reduceEqDiff, Nat.reduceBEq, Nat.reduceAdd, Nat.reduceLeDiff, Nat.reduceMul, Nat.reduceLT, Int.reduceEq, Int.reduceLT, Int.reduceLE, validX, hv, h8]
      rw [List.any_eq_not_all_not]
      simp
    · have h8' : ¬ (l.length : Int) ≤ 8 := by omega
      simp +contextual -dsimp -implicitDefEqProofs (maxSteps := 5000000) only [go_sem, reduceIte, reduceCtorEq, Nat.reduceEqDiff, Nat.reduceBEq, Nat.reduceAdd, Nat.reduceLeDiff, Nat.reduceMul, Nat.reduceLT, Int.reduceEq, Int.reduceLT, Int.reduceLE, validX, hv, h8, h8']
theorem c_validExits (t : List Class) (cl : Bool) (l : List Exi) (cl' : Bool) (H : AHeap) (hn : namesOk t) : ACalls Tryz.prog 108 [aTree t cl, .vsl (l.map rExit) cl'] H fun r H' => r = B (validX t l) ∧ H' = H := by
  refine acalls_len (es := l.map rExit) (cl := cl') (by kernel_rfl) (by simp) fun hl => ?_
  rw [List.length_map] at hl
  refine acalls_of0 Tryz.func108 rfl (by kernel_rfl) rfl rfl (awp_sound (fz := fun _ => []) (im := fun s => s == 2) mixed _ _ _ _ (by kernel_rfl) ?_)
  simp +contextual -dsimp -implicitDefEqProofs (maxSteps := 5000000) only [go_sem, reduceIte, reduceCtorEq, Nat.reduceEqDiff, Nat.reduceBEq, Nat.reduceAdd, Nat.reduceLeDiff, Nat.reduceMul, Nat.reduceLT, Int.reduceEq, Int.reduceLT, Int.reduceLE]
  refine aloop mixed (fz := fun _ => []) (im := fun s => s == 2) (by kernel_rfl) (fun m tm H' => ∃ k : Nat, m = l.length - k ∧ k ≤ l.length ∧ H' = H ∧ tm 1 = .vsl (l.map rExit) cl' ∧ tm 2 = .vptr [[.vsl (t.map rClass) cl]] 0 0 ∧ tm 5 = I k ∧ (l.take k).all (exitOk t) = true) l.length ⟨0, ?_⟩ ?_
  · simp +contextual -dsimp -implicitDefEqProofs (maxSteps := 5000000) only [go_sem, reduceIte, reduceCtorEq, Nat.reduceEqDiff, Nat.reduceBEq, Nat.reduceAdd, Nat.reduceLeDiff, Nat.reduceMul, Nat.reduceLT, Int.reduceEq, Int.reduceLT, Int.reduceLE]
    simp
  · rintro m tm _ ⟨k, rfl, hk, rfl, h1, h2, h5, hn'⟩
    simp +contextual -dsimp -implicitDefEqProofs (maxSteps := 5000000) only [go_sem, reduceIte, reduceCtorEq, Nat.reduceEqDiff, Nat.reduceBEq, Nat.reduceAdd, Nat.reduceLeDiff, Nat.reduceMul, Nat.reduceLT, Int.reduceEq, Int.reduceLT, Int.reduceLE, h1, h2, h5]
    refine ⟨fun h => ?_, fun h => ?_⟩
    · refine draw_intro [0, 0, 0, 0, 0, 2, 0] AHeap.none (by kernel_rfl) none_le ?_
      simp +contextual -dsimp -implicitDefEqProofs (maxSteps := 5000000) only [go_sem, reduceIte, reduceCtorEq, Nat.reduceEqDiff, Nat.reduceBEq, Nat.reduceAdd, Nat.reduceLeDiff, Nat.reduceMul, Nat.reduceLT, Int.reduceEq, Int.reduceLT, Int.reduceLE, h1, h2, h5, h]
      refine (c_validExit _ _ _ _).det ?_
      simp +contextual -dsimp -implicitDefEqProofs (maxSteps := 5000000) only [go_sem, reduceIte, reduceCtorEq, Nat.reduceEqDiff, Nat.reduceBEq, Nat.reduceAdd, Nat.reduceLeDiff, Nat.reduceMul, Nat.reduceLT, Int.reduceEq, Int.reduceLT, Int.reduceLE, h1, h2, h5, h]
      refine ⟨fun hb => ?_, fun hb => ⟨_, ?_, k + 1, rfl, h, I_wrap (by omega) (by omega) (by omega), all_take h hn' hb⟩⟩
      · simp only [validX, all_not h hb, Bool.and_false]
      · omega
    · refine (c_validTree _ _ _ hn).det ?_
      rw [List.take_of_length_le (by omega)] at hn'
      cases hv : validT t
      · simp +contextual -dsimp -implicitDefEqProofs (maxSteps := 5000000) only [go_sem, reduceIte, reduceCtorEq, Nat.reduceEqDiff, Nat.reduceBEq, Nat.reduceAdd, Nat.reduceLeDiff, Nat.reduceMul, Nat.reduceLT, Int.reduceEq, Int.reduceLT, Int.reduceLE, h1, h2, h5, validX, hv]
      · by_cases h8 : l.length ≤ 8
        · have h8' : (l.length : Int) ≤ 8 := by omega
          simp +contextual -dsimp -implicitDefEqProofs (maxSteps := 5000000) only [go_sem, reduceIte, reduceCtorEq, Nat.reduceEqDiff, Nat.reduceBEq, Nat.reduceAdd, Nat.reduceLeDiff, Nat.reduceMul, Nat.reduceLT, Int.reduceEq, Int.reduceLT, Int.reduceLE, h1, h2, h5, validX, hv, h8, h8', hn']
        · have h8' : ¬ (l.length : Int) ≤ 8 := by omega
          simp +contextual -dsimp -implicitDefEqProofs (maxSteps := 5000000) only [go_sem, reduceIte, reduceCtorEq, Nat.reduceEqDiff, Nat.reduceBEq, Nat.reduceAdd, Nat.reduceLeDiff, Nat.reduceMul, Nat.reduceLT, Int.reduceEq, Int.reduceLT, Int.reduceLE, h1, h2, h5, validX, hv, h8, h8', hn']
theorem c_startValid (t : List Class) (cl : Bool) (x : Sta) (H : AHeap) : ACalls Tryz.prog 61 [.agg (rStart x), aTree t cl] H fun r H' => r = B (startOk t x) ∧ H' = H := by
  refine acalls_of0 Tryz.func61 rfl (by kernel_rfl) rfl rfl (awp_sound (fz := fun _ => []) (im := fun s => s == 2 || s == 3) mixed _ _ _ _ (by kernel_rfl) ?_)
  cases hx : x.has
  · simp +contextual -dsimp -implicitDefEqProofs (maxSteps := 5000000) only [go_sem, reduceIte, reduceCtorEq, Nat.reduceEqDiff, Nat.reduceBEq, Nat.reduceAdd, Nat.reduceLeDiff, Nat.reduceMul, Nat.reduceLT, Int.reduceEq, Int.reduceLT, Int.reduceLE, hx]
    simp only [startOk, hx]
    cases decide (x.cls = 0) <;> cases decide (x.code = 0) <;> rfl
  · simp +contextual -dsimp -implicitDefEqProofs (maxSteps := 5000000) only [go_sem, reduceIte, reduceCtorEq, Nat.reduceEqDiff, Nat.reduceBEq, Nat.reduceAdd, Nat.reduceLeDiff, Nat.reduceMul, Nat.reduceLT, Int.reduceEq, Int.reduceLT, Int.reduceLE, hx]
    refine (c_has _ _ _ _).det ?_
    cases hh : hasF t x.cls
    · simp +contextual -dsimp -implicitDefEqProofs (maxSteps := 5000000) only [go_sem, reduceIte, reduceCtorEq, Nat.reduceEqDiff, Nat.reduceBEq, Nat.reduceAdd, Nat.reduceLeDiff, Nat.reduceMul, Nat.reduceLT, Int.reduceEq, Int.reduceLT, Int.reduceLE, hx, startOk, hh]
    · simp +contextual -dsimp -implicitDefEqProofs (maxSteps := 5000000) only [go_sem, reduceIte, reduceCtorEq, Nat.reduceEqDiff, Nat.reduceBEq, Nat.reduceAdd, Nat.reduceLeDiff, Nat.reduceMul, Nat.reduceLT, Int.reduceEq, Int.reduceLT, Int.reduceLE, hx]
      exact (c_codeOk _ _).det (by simp +contextual -dsimp -implicitDefEqProofs (maxSteps := 5000000) only [go_sem, reduceIte, reduceCtorEq, Nat.reduceEqDiff, Nat.reduceBEq, Nat.reduceAdd, Nat.reduceLeDiff, Nat.reduceMul, Nat.reduceLT, Int.reduceEq, Int.reduceLT, Int.reduceLE, hx, startOk, hh])
theorem c_validStart (t : List Class) (cl : Bool) (x : Sta) (H : AHeap) : ACalls Tryz.prog 109 [aTree t cl, .agg (rStart x)] H fun r H' => r = B (startOk t x) ∧ H' = H := by
  refine acalls_of0 Tryz.func109 rfl (by kernel_rfl) rfl rfl (awp_sound (fz := fun _ => []) (im := fun s => s == 2 || s == 3) mixed _ _ _ _ (by kernel_rfl) ?_)
  cases hx : x.has
  · simp +contextual -dsimp -implicitDefEqProofs (maxSteps := 5000000) only [go_sem, reduceIte, reduceCtorEq, Nat.reduceEqDiff, Nat.reduceBEq, Nat.reduceAdd, Nat.reduceLeDiff, Nat.reduceMul, Nat.reduceLT, Int.reduceEq, Int.reduceLT, Int.reduceLE, hx, startOk]
  · simp +contextual -dsimp -implicitDefEqProofs (maxSteps := 5000000) only [go_sem, reduceIte, reduceCtorEq, Nat.reduceEqDiff, Nat.reduceBEq, Nat.reduceAdd, Nat.reduceLeDiff, Nat.reduceMul, Nat.reduceLT, Int.reduceEq, Int.reduceLT, Int.reduceLE, hx]
    refine (c_hasClass _ _ _ _).det ?_
    cases hh : hasF t x.cls
    · simp +contextual -dsimp -implicitDefEqProofs (maxSteps := 5000000) only [go_sem, reduceIte, reduceCtorEq, Nat.reduceEqDiff, Nat.reduceBEq, Nat.reduceAdd, Nat.reduceLeDiff, Nat.reduceMul, Nat.reduceLT, Int.reduceEq, Int.reduceLT, Int.reduceLE, hx, startOk, hh]
    · simp +contextual -dsimp -implicitDefEqProofs (maxSteps := 5000000) only [go_sem, reduceIte, reduceCtorEq, Nat.reduceEqDiff, Nat.reduceBEq, Nat.reduceAdd, Nat.reduceLeDiff, Nat.reduceMul, Nat.reduceLT, Int.reduceEq, Int.reduceLT, Int.reduceLE, hx]
      exact (c_inRange _ _ _ _).det (by simp +contextual -dsimp -implicitDefEqProofs (maxSteps := 5000000) only [go_sem, reduceIte, reduceCtorEq, Nat.reduceEqDiff, Nat.reduceBEq, Nat.reduceAdd, Nat.reduceLeDiff, Nat.reduceMul, Nat.reduceLT, Int.reduceEq, Int.reduceLT, Int.reduceLE, hx, startOk, hh])
theorem c_goodClose (t : List Class) (cl : Bool) (l : List Exi) (cl' : Bool) (x : Sta) (H : AHeap) (hn : namesOk t) : ACalls Tryz.prog 65 [aTree t cl, .vsl (l.map rExit) cl', .agg (rStart x)] H fun r H' => r = B (validX t l && startOk t x) ∧ H' = H := by
  refine acalls_of0 Tryz.func65 rfl (by kernel_rfl) rfl rfl (awp_sound (fz := fun _ => []) (im := fun s => s == 3 || s == 5) mixed _ _ _ _ (by kernel_rfl) ?_)
  simp +contextual -dsimp -implicitDefEqProofs (maxSteps := 5000000) only [go_sem, reduceIte, reduceCtorEq, Nat.reduceEqDiff, Nat.reduceBEq, Nat.reduceAdd, Nat.reduceLeDiff, Nat.reduceMul, Nat.reduceLT, Int.reduceEq, Int.reduceLT, Int.reduceLE]
  refine (c_validExits _ _ _ _ _ hn).det ?_
  cases hv : validX t l
  · simp +contextual -dsimp -implicitDefEqProofs (maxSteps := 5000000) only [go_sem, reduceIte, reduceCtorEq, Nat.reduceEqDiff, Nat.reduceBEq, Nat.reduceAdd, Nat.reduceLeDiff, Nat.reduceMul, Nat.reduceLT, Int.reduceEq, Int.reduceLT, Int.reduceLE, hv]
  · simp +contextual -dsimp -implicitDefEqProofs (maxSteps := 5000000) only [go_sem, reduceIte, reduceCtorEq, Nat.reduceEqDiff, Nat.reduceBEq, Nat.reduceAdd, Nat.reduceLeDiff, Nat.reduceMul, Nat.reduceLT, Int.reduceEq, Int.reduceLT, Int.reduceLE]
    exact (c_validStart _ _ _ _).det (by simp +contextual -dsimp -implicitDefEqProofs (maxSteps := 5000000) only [go_sem, reduceIte, reduceCtorEq, Nat.reduceEqDiff, Nat.reduceBEq, Nat.reduceAdd, Nat.reduceLeDiff, Nat.reduceMul, Nat.reduceLT, Int.reduceEq, Int.reduceLT, Int.reduceLE, hv])

/-! ### Comparisons -/
theorem list_eq_of {α : Type} [DecidableEq α] [Inhabited α] {a b : List α} (h : a.length = b.length) {k : Nat} (hk : a.length ≤ k) (e : ∀ i, i < k → i < a.length → a.getD i default = b.getD i default) : a = b := by
  apply List.ext_getElem h
  intro i h1 h2
  have := e i (by omega) h1
  simpa [List.getD_eq_getElem?_getD, h1, h2] using this
theorem c_equalInts (a b : List Int) (ca cb : Bool) (H : AHeap) : ACalls Tryz.prog 20 [.vsl (a.map rI) ca, .vsl (b.map rI) cb] H fun r H' => r = B (decide (a = b)) ∧ H' = H := by
  refine acalls_len (by kernel_rfl) (List.mem_cons_self ..) fun hl => ?_
  rw [List.length_map] at hl
  refine acalls_of0 Tryz.func20 rfl (by kernel_rfl) rfl rfl (awp_sound (fz := fun _ => []) (im := fun _ => false) mixed _ _ _ _ (by kernel_rfl) ?_)
  by_cases hab : a.length = b.length
  · simp +contextual -dsimp -implicitDefEqProofs (maxSteps := 5000000) only [go_sem, reduceIte, reduceCtorEq, Nat.reduceEqDiff, Nat.reduceBEq, Nat.reduceAdd, Nat.reduceLeDiff, Nat.reduceMul, Nat.reduceLT, Int.reduceEq, Int.reduceLT, Int.reduceLE, hab]
    refine aloop mixed (fz := fun _ => []) (im := fun _ => false) (by kernel_rfl) (fun m tm H' => ∃ k : Nat, m = a.length - k ∧ k ≤ a.length ∧ H' = H ∧ tm 0 = .vsl (a.map rI) ca ∧ tm 1 = .vsl (b.map rI) cb ∧ tm 5 = I k ∧ ∀ i, i < k → i < a.length → a.getD i default = b.getD i default) a.length ⟨0, ?_⟩ ?_
    · simp +contextual -dsimp -implicitDefEqProofs (maxSteps := 5000000) only [go_sem, reduceIte, reduceCtorEq, Nat.reduceEqDiff, Nat.reduceBEq, Nat.reduceAdd, Nat.reduceLeDiff, Nat.reduceMul, Nat.reduceLT, Int.reduceEq, Int.reduceLT, Int.reduceLE]
      simp
    · rintro m tm _ ⟨k, rfl, hk, rfl, h0, h1, h5, he⟩
      simp +contextual -dsimp -implicitDefEqProofs (maxSteps := 5000000) only [go_sem, reduceIte, reduceCtorEq, Nat.reduceEqDiff, Nat.reduceBEq, Nat.reduceAdd, Nat.reduceLeDiff, Nat.reduceMul, Nat.reduceLT, Int.reduceEq, Int.reduceLT, Int.reduceLE, h0, h1, h5]
      refine ⟨fun h => ?_, fun h => ?_⟩
      · refine draw_intro [0, 0, 0, 0, 0, 0, 0, 0, 0] AHeap.none (by kernel_rfl) none_le ?_
        have h' : k < b.length := by omega
        simp +contextual -dsimp -implicitDefEqProofs (maxSteps := 5000000) only [go_sem, reduceIte, reduceCtorEq, Nat.reduceEqDiff, Nat.reduceBEq, Nat.reduceAdd, Nat.reduceLeDiff, Nat.reduceMul, Nat.reduceLT, Int.reduceEq, Int.reduceLT, Int.reduceLE, h0, h1, h5, h, h']
        refine ⟨fun hb => ?_, fun hb => ⟨_, ?_, k + 1, rfl, h, I_wrap (by omega) (by omega) (by omega), ?_⟩⟩
        · rw [decide_eq_false (fun e => hb (by rw [e]))]
        · omega
        · intro i hi hi'
          rcases Nat.lt_or_ge i k with q | q
          · exact he i q hi'
          · have : i = k := by omega
            subst this; exact hb
      · rw [decide_eq_true (list_eq_of hab (Nat.le_of_not_lt h) he)]
  · have hab' : ¬ (a.length : Int) = b.length := by omega
    simp +contextual -dsimp -implicitDefEqProofs (maxSteps := 5000000) only [go_sem, reduceIte, reduceCtorEq, Nat.reduceEqDiff, Nat.reduceBEq, Nat.reduceAdd, Nat.reduceLeDiff, Nat.reduceMul, Nat.reduceLT, Int.reduceEq, Int.reduceLT, Int.reduceLE, hab']
    rw [decide_eq_false (fun e => hab (by rw [e]))]
theorem fault_eq (a b : Fault) : (decide (a.cls = b.cls) && (decide (a.code = b.code) && (decide (a.cause = b.cause) && (decide (a.ctx = b.ctx) && (a.hide == b.hide))))) = decide (a = b) := by
  cases a; cases b
  simp only [Fault.mk.injEq]
  rw [Bool.eq_iff_iff]
  simp
theorem c_equalHeap (a b : List Fault) (ca cb : Bool) (H : AHeap) : ACalls Tryz.prog 37 [.agg [.vsl (a.map rFault) ca], .agg [.vsl (b.map rFault) cb]] H fun r H' => r = B (decide (a = b)) ∧ H' = H := by
  refine acalls_len1 (by kernel_rfl) (List.mem_cons_self ..) fun hl => ?_
  rw [List.length_map] at hl
  refine acalls_of0 Tryz.func37 rfl (by kernel_rfl) rfl rfl (awp_sound (fz := fun _ => []) (im := fun s => s == 2 || s == 3) mixed _ _ _ _ (by kernel_rfl) ?_)
  by_cases hab : a.length = b.length
  · simp +contextual -dsimp -implicitDefEqProofs (maxSteps := 5000000) only [go_sem, reduceIte, reduceCtorEq, Nat.reduceEqDiff, Nat.reduceBEq, Nat.reduceAdd, Nat.reduceLeDiff, Nat.reduceMul, Nat.reduceLT, Int.reduceEq, Int.reduceLT, Int.reduceLE, hab]
    refine aloop mixed (fz := fun _ => []) (im := fun s => s == 2 || s == 3) (by kernel_rfl) (fun m tm H' => ∃ k : Nat, m = a.length - k ∧ k ≤ a.length ∧ H' = H ∧ tm 2 = .vptr [[.vsl (a.map rFault) ca]] 0 0 ∧ tm 3 = .vptr [[.vsl (b.map rFault) cb]] 0 0 ∧ tm 5 = I k ∧ ∀ i, i < k → i < a.length → a.getD i default = b.getD i default) a.length ⟨0, ?_⟩ ?_
    · simp +contextual -dsimp -implicitDefEqProofs (maxSteps := 5000000) only [go_sem, reduceIte, reduceCtorEq, Nat.reduceEqDiff, Nat.reduceBEq, Nat.reduceAdd, Nat.reduceLeDiff, Nat.reduceMul, Nat.reduceLT, Int.reduceEq, Int.reduceLT, Int.reduceLE]
      simp
    · rintro m tm _ ⟨k, rfl, hk, rfl, h0, h1, h5, he⟩
      simp +contextual -dsimp -implicitDefEqProofs (maxSteps := 5000000) only [go_sem, reduceIte, reduceCtorEq, Nat.reduceEqDiff, Nat.reduceBEq, Nat.reduceAdd, Nat.reduceLeDiff, Nat.reduceMul, Nat.reduceLT, Int.reduceEq, Int.reduceLT, Int.reduceLE, h0, h1, h5]
      refine ⟨fun h => ?_, fun h => ?_⟩
      · refine draw_intro [0, 0, 0, 0, 0, 0, 0, 0, 0, 0, 0] AHeap.none (by kernel_rfl) none_le ?_
        have h' : k < b.length := by omega
        simp +contextual -dsimp -implicitDefEqProofs (maxSteps := 5000000) only [go_sem, reduceIte, reduceCtorEq, Nat.reduceEqDiff, Nat.reduceBEq, Nat.reduceAdd, Nat.reduceLeDiff, Nat.reduceMul, Nat.reduceLT, Int.reduceEq, Int.reduceLT, Int.reduceLE, h0, h1, h5, h, h', fault_eq]
        refine ⟨fun hb => ?_, fun hb => ⟨_, ?_, k + 1, rfl, h, I_wrap (by omega) (by omega) (by omega), ?_⟩⟩
        · rw [decide_eq_false (fun e => hb (by rw [e]))]
        · omega
        · intro i hi hi'
          rcases Nat.lt_or_ge i k with q | q
          · exact he i q hi'
          · have : i = k := by omega
            subst this; exact hb
      · rw [decide_eq_true (list_eq_of hab (Nat.le_of_not_lt h) he)]
  · have hab' : ¬ (a.length : Int) = b.length := by omega
    simp +contextual -dsimp -implicitDefEqProofs (maxSteps := 5000000) only [go_sem, reduceIte, reduceCtorEq, Nat.reduceEqDiff, Nat.reduceBEq, Nat.reduceAdd, Nat.reduceLeDiff, Nat.reduceMul, Nat.reduceLT, Int.reduceEq, Int.reduceLT, Int.reduceLE, hab']
    rw [decide_eq_false (fun e => hab (by rw [e]))]
abbrev aHeap (h : List Fault) (c : Bool) : AV := .agg [.vsl (h.map rFault) c]
end
section
open Go Go.Sim
set_option maxRecDepth 100000
def resEq (a b : Res) : Bool := decide (a.log = b.log) && (decide (a.ed = b.ed) && (decide (a.val = b.val) && decide (a.heap = b.heap)))
theorem c_equalResult (a b : Res) (c1 c2 c3 c4 : Bool) (H : AHeap) : ACalls Tryz.prog 11 [.agg [.vsl (a.log.map rI) c1, I a.ed, I a.val, .vsl (a.heap.map rFault) c2], .agg [.vsl (b.log.map rI) c3, I b.ed, I b.val, .vsl (b.heap.map rFault) c4]] H fun r H' => r = B (resEq a b) ∧ H' = H := by
  refine acalls_of0 Tryz.func11 rfl (by kernel_rfl) rfl rfl (awp_sound (fz := fun _ => []) (im := fun s => s == 2 || s == 3) mixed _ _ _ _ (by kernel_rfl) ?_)
  simp +contextual -dsimp -implicitDefEqProofs (maxSteps := 5000000) only [go_sem, reduceIte, reduceCtorEq, Nat.reduceEqDiff, Nat.reduceBEq, Nat.reduceAdd, Nat.reduceLeDiff, Nat.reduceMul, Nat.reduceLT, Int.reduceEq, Int.reduceLT, Int.reduceLE]
  refine (c_equalInts _ _ _ _ _).det ?_
  unfold resEq
  generalize decide (a.log = b.log) = b1
  cases b1
  · simp +contextual -dsimp -implicitDefEqProofs (maxSteps := 5000000) only [go_sem, reduceIte, reduceCtorEq, Nat.reduceEqDiff, Nat.reduceBEq, Nat.reduceAdd, Nat.reduceLeDiff, Nat.reduceMul, Nat.reduceLT, Int.reduceEq, Int.reduceLT, Int.reduceLE]
  · by_cases he : a.ed = b.ed
    · by_cases hv : a.val = b.val
      · simp +contextual -dsimp -implicitDefEqProofs (maxSteps := 5000000) only [go_sem, reduceIte, reduceCtorEq, Nat.reduceEqDiff, Nat.reduceBEq, Nat.reduceAdd, Nat.reduceLeDiff, Nat.reduceMul, Nat.reduceLT, Int.reduceEq, Int.reduceLT, Int.reduceLE, he, hv]
        refine (c_equalHeap _ _ _ _ _).det ?_
        simp +contextual -dsimp -implicitDefEqProofs (maxSteps := 5000000) only [go_sem, reduceIte, reduceCtorEq, Nat.reduceEqDiff, Nat.reduceBEq, Nat.reduceAdd, Nat.reduceLeDiff, Nat.reduceMul, Nat.reduceLT, Int.reduceEq, Int.reduceLT, Int.reduceLE, he, hv]
      · simp +contextual -dsimp -implicitDefEqProofs (maxSteps := 5000000) only [go_sem, reduceIte, reduceCtorEq, Nat.reduceEqDiff, Nat.reduceBEq, Nat.reduceAdd, Nat.reduceLeDiff, Nat.reduceMul, Nat.reduceLT, Int.reduceEq, Int.reduceLT, Int.reduceLE, he, hv]
    · simp +contextual -dsimp -implicitDefEqProofs (maxSteps := 5000000) only [go_sem, reduceIte, reduceCtorEq, Nat.reduceEqDiff, Nat.reduceBEq, Nat.reduceAdd, Nat.reduceLeDiff, Nat.reduceMul, Nat.reduceLT, Int.reduceEq, Int.reduceLT, Int.reduceLE, he]
end
section
open Go Go.Sim
set_option maxRecDepth 100000

theorem c_ClipV (l : List Int) (cl : Bool) (H : AHeap) : ACalls Tryz.prog 75 [.vsl (l.map rI) cl] H fun r H' => r = .vsl (l.map rI) true ∧ H' = H := by
  refine acalls_of0 Tryz.func75 rfl (by kernel_rfl) rfl rfl (awp_sound (fz := fun _ => []) (im := fun _ => false) mixed _ _ _ _ (by kernel_rfl) ?_)
  simp +contextual -dsimp -implicitDefEqProofs (maxSteps := 5000000) only [go_sem, reduceIte, reduceCtorEq, Nat.reduceEqDiff, Nat.reduceBEq, Nat.reduceAdd, Nat.reduceLeDiff, Nat.reduceMul, Nat.reduceLT, Int.reduceEq, Int.reduceLT, Int.reduceLE]
  simp
theorem c_ClipG (l : List Int) (x : AV) (H0 H : AHeap) (hg : Grow rI 1 3 H0 H x l) : ACalls Tryz.prog 75 [x] H fun r H' => Grow rI 1 3 H0 H' r l := by
  have hn := grow_len te29 hg
  obtain ⟨x', hx, hg'⟩ := grow_slice (ka := .i64) (kb := .i64) te29 ti3 rI_len hg
  refine acalls_of0 Tryz.func75 rfl (by kernel_rfl) rfl rfl (awp_sound (fz := fun _ => []) (im := fun _ => false) mixed _ _ _ _ (by kernel_rfl) ?_)
  simp +contextual -dsimp -implicitDefEqProofs (maxSteps := 5000000) only [go_sem, reduceIte, reduceCtorEq, Nat.reduceEqDiff, Nat.reduceBEq, Nat.reduceAdd, Nat.reduceLeDiff, Nat.reduceMul, Nat.reduceLT, Int.reduceEq, Int.reduceLT, Int.reduceLE, hn, hx]
  exact hg'

/-- How many of the first n numbers are not in a list. -/
def freeN (n : Nat) (out : List Int) : Nat := (List.range n).countP fun (i : Nat) => !out.any fun x => decide ((i : Int) = x)
theorem freeN_lt {n : Nat} {out : List Int} {f : Int} (h0 : 0 ≤ f) (h1 : f < n) (h2 : (out.any fun x => decide (f = x)) = false) : freeN n (out ++ [f]) < freeN n out := by
  induction n with
  | zero => omega
  | succ n ih =>
    have e : ∀ o, freeN (n + 1) o = freeN n o + (if (!o.any fun x => decide ((n : Int) = x)) = true then 1 else 0) := by
      intro o
      simp only [freeN, List.range_succ, List.countP_append, List.countP_singleton]
    have le : freeN n (out ++ [f]) ≤ freeN n out := by
      apply List.countP_mono_left
      intro x _ hx
      simp only [List.any_append, Bool.not_eq_true', Bool.or_eq_false_iff] at hx ⊢
      exact hx.1
    rw [e, e]
    by_cases hf : f = n
    · subst hf
      simp only [List.any_append, h2, List.any_cons, List.any_nil, decide_true]
      simp
      omega
    · have := ih (by omega)
      have e2 : ((out ++ [f]).any fun x => decide ((n : Int) = x)) = (out.any fun x => decide ((n : Int) = x)) := by
        rw [List.any_append]
        have : decide ((n : Int) = f) = false := by simp; omega
        simp [this]
      rw [e2]
      omega
def walkG (nx : Int → Int) : Nat → List Int → Int → List Int
  | 0, out, _ => out
  | n + 1, out, f => if 0 ≤ f ∧ (out.any fun x => decide (f = x)) = false then walkG nx n (out ++ [f]) (nx f) else out
/-- A number, the next one, and so on. -/
def walkF (nx : Int → Int) (n : Nat) (f : Int) : List Int := walkG nx (n + 1) [] f

theorem freeN_nil (n : Nat) : freeN n [] ≤ n := by
  unfold freeN
  exact Nat.le_trans List.countP_le_length (by simp)
theorem c_ContainsG (l : List Int) (x : AV) (n : Int) (H0 H : AHeap) (hg : Grow rI 1 3 H0 H x l) : ACalls Tryz.prog 99 [x, I n] H fun r H' => r = B (l.any fun x => decide (n = x)) ∧ H' = H := by
  obtain ⟨cl, hz⟩ := grow_froz hg
  exact acalls_borrow [.vsl (l.map rI) cl, I n] (.cons hz (.cons (.same _) .nil)) (c_Contains _ _ _ _) rfl ⟨rfl, rfl⟩
theorem c_walk (n : Nat) (hN : n ≤ 1000000) (nx : Int → Int) (g : FuncId) (caps : List AV) (f : Int) (H : AHeap) (hf : f < n) (hnx : ∀ a : Int, 0 ≤ a → a < n → nx a < n)
    (hp : ∀ (a : Int) H, 0 ≤ a → a < n → ACalls Tryz.prog g (I a :: caps) H fun r H' => r = I (nx a) ∧ H' = H) : ACalls Tryz.prog 159 [I f, .fn g [] caps] H fun r H' => Grow rI 1 3 H H' r (walkF nx n f) := by
  refine acalls_of0 Tryz.func159 rfl (by kernel_rfl) rfl rfl (awp_sound (fz := fun _ => []) (im := fun s => s == 6 || s == 20) mixed _ _ _ _ (by kernel_rfl) ?_)
  simp +contextual -dsimp -implicitDefEqProofs (maxSteps := 5000000) only [go_sem, reduceIte, reduceCtorEq, Nat.reduceEqDiff, Nat.reduceBEq, Nat.reduceAdd, Nat.reduceLeDiff, Nat.reduceMul, Nat.reduceLT, Int.reduceEq, Int.reduceLT, Int.reduceLE]
  refine aloop mixed (fz := fun _ => []) (im := fun s => s == 6 || s == 20) (by kernel_rfl) (fun m tm H' => ∃ (out : List Int) (c : Int), c < n ∧ freeN n out < m ∧ out.length + m ≤ n + 1 ∧ tm 0 = I c ∧ tm 1 = .fn g [] caps ∧ Grow rI 1 3 H H' (tm 5) out ∧ walkG nx m out c = walkF nx n f) (n + 1) ⟨[], f, hf, ?_, ?_, ?_⟩ ?_
  · have := freeN_nil n; omega
  · simp
  · simp +contextual -dsimp -implicitDefEqProofs (maxSteps := 5000000) only [go_sem, reduceIte, reduceCtorEq, Nat.reduceEqDiff, Nat.reduceBEq, Nat.reduceAdd, Nat.reduceLeDiff, Nat.reduceMul, Nat.reduceLT, Int.reduceEq, Int.reduceLT, Int.reduceLE]
    exact ⟨grow_nil, rfl⟩
  · rintro m tm H' ⟨out, c, hc, hfr, hlen, h0, h1, hg, he⟩
    simp +contextual -dsimp -implicitDefEqProofs (maxSteps := 5000000) only [go_sem, reduceIte, reduceCtorEq, Nat.reduceEqDiff, Nat.reduceBEq, Nat.reduceAdd, Nat.reduceLeDiff, Nat.reduceMul, Nat.reduceLT, Int.reduceEq, Int.reduceLT, Int.reduceLE, h0, h1]
    have hm : m = (m - 1) + 1 := by omega
    rw [hm, walkG] at he
    have stop : ¬ (0 ≤ c ∧ (out.any fun x => decide (c = x)) = false) → out = walkF nx n f := fun h => by rw [if_neg h] at he; exact he
    refine ⟨fun h => ?_, fun h => ?_⟩
    · refine (c_ContainsG out _ c H H' hg).det ?_
      cases ha : out.any fun x => decide (c = x)
      · rw [if_pos ⟨h, ha⟩] at he
        simp +contextual -dsimp -implicitDefEqProofs (maxSteps := 5000000) only [go_sem, reduceIte, reduceCtorEq, Nat.reduceEqDiff, Nat.reduceBEq, Nat.reduceAdd, Nat.reduceLeDiff, Nat.reduceMul, Nat.reduceLT, Int.reduceEq, Int.reduceLT, Int.reduceLE, h0, h1, h]
        refine grow_append (m := [c]) te29 ti3 rI_len (by decide) hg (by simp; omega) (by simp; omega) rfl fun x' H'' hg' => ?_
        simp +contextual -dsimp -implicitDefEqProofs (maxSteps := 5000000) only [go_sem, reduceIte, reduceCtorEq, Nat.reduceEqDiff, Nat.reduceBEq, Nat.reduceAdd, Nat.reduceLeDiff, Nat.reduceMul, Nat.reduceLT, Int.reduceEq, Int.reduceLT, Int.reduceLE, h0, h1, h]
        refine (hp c H'' h hc).det ?_
        simp +contextual -dsimp -implicitDefEqProofs (maxSteps := 5000000) only [go_sem, reduceIte, reduceCtorEq, Nat.reduceEqDiff, Nat.reduceBEq, Nat.reduceAdd, Nat.reduceLeDiff, Nat.reduceMul, Nat.reduceLT, Int.reduceEq, Int.reduceLT, Int.reduceLE, h0, h1, h]
        exact ⟨m - 1, by omega, out ++ [c], _, hnx c h hc, by have := freeN_lt h hc ha; omega, by simp; omega, rfl, hg', he⟩
      · simp +contextual -dsimp -implicitDefEqProofs (maxSteps := 5000000) only [go_sem, reduceIte, reduceCtorEq, Nat.reduceEqDiff, Nat.reduceBEq, Nat.reduceAdd, Nat.reduceLeDiff, Nat.reduceMul, Nat.reduceLT, Int.reduceEq, Int.reduceLT, Int.reduceLE, h0, h1, h]
        refine (c_ClipG out _ H H' hg).mono fun r H'' hg' => ?_
        simp +contextual -dsimp -implicitDefEqProofs (maxSteps := 5000000) only [go_sem, reduceIte, reduceCtorEq, Nat.reduceEqDiff, Nat.reduceBEq, Nat.reduceAdd, Nat.reduceLeDiff, Nat.reduceMul, Nat.reduceLT, Int.reduceEq, Int.reduceLT, Int.reduceLE, h0, h1, h]
        rw [← stop (fun q => by rw [ha] at q; cases q.2)]
        exact hg'
    · refine (c_ClipG out _ H H' hg).mono fun r H'' hg' => ?_
      simp +contextual -dsimp -implicitDefEqProofs (maxSteps := 5000000) only [go_sem, reduceIte, reduceCtorEq, Nat.reduceEqDiff, Nat.reduceBEq, Nat.reduceAdd, Nat.reduceLeDiff, Nat.reduceMul, Nat.reduceLT, Int.reduceEq, Int.reduceLT, Int.reduceLE, h0, h1, h]
      rw [← stop (fun q => h q.1)]
      exact hg'

/-- The context of a fault. -/
def ctxOf (h : List Fault) (a : Int) : Int := (h.getD a.toNat default).ctx
theorem c_contexts1 (h : List Fault) (cl : Bool) (a : Int) (H : AHeap) (h0 : 0 ≤ a) (h1 : a < h.length) : ACalls Tryz.prog 160 [I a, .vptr [[.vsl (h.map rFault) cl]] 0 0] H fun r H' => r = I (ctxOf h a) ∧ H' = H := by
  refine acalls_of0 Tryz.func160 rfl (by kernel_rfl) rfl rfl (awp_sound (fz := fun _ => []) (im := fun _ => false) mixed _ _ _ _ (by kernel_rfl) ?_)
  have h2 : a.toNat < h.length := by omega
  simp +contextual -dsimp -implicitDefEqProofs (maxSteps := 5000000) only [go_sem, reduceIte, reduceCtorEq, Nat.reduceEqDiff, Nat.reduceBEq, Nat.reduceAdd, Nat.reduceLeDiff, Nat.reduceMul, Nat.reduceLT, Int.reduceEq, Int.reduceLT, Int.reduceLE, h0, h1, h2, ctxOf]
def chainF (h : List Fault) (f : Int) : List Int := walkF (ctxOf h) h.length f
theorem c_contexts (h : List Fault) (cl : Bool) (f : Int) (H : AHeap) (hl : h.length ≤ 1000000) (hf : f < h.length) (hc : ∀ k, k < h.length → (h.getD k default).ctx < h.length) :
    ACalls Tryz.prog 137 [.agg [.vsl (h.map rFault) cl], I f] H fun r H' => Grow rI 1 3 H H' r (chainF h f) := by
  refine acalls_of0 Tryz.func137 rfl (by kernel_rfl) rfl rfl (awp_sound (fz := fun _ => []) (im := fun s => s == 2) mixed _ _ _ _ (by kernel_rfl) ?_)
  simp +contextual -dsimp -implicitDefEqProofs (maxSteps := 5000000) only [go_sem, reduceIte, reduceCtorEq, Nat.reduceEqDiff, Nat.reduceBEq, Nat.reduceAdd, Nat.reduceLeDiff, Nat.reduceMul, Nat.reduceLT, Int.reduceEq, Int.reduceLT, Int.reduceLE]
  refine (c_walk h.length hl (ctxOf h) _ _ f H hf (fun a h0 h1 => hc a.toNat (by omega)) (fun a H h0 h1 => c_contexts1 h cl a H h0 h1)).mono fun r H' hg => ?_
  simp +contextual -dsimp -implicitDefEqProofs (maxSteps := 5000000) only [go_sem, reduceIte, reduceCtorEq, Nat.reduceEqDiff, Nat.reduceBEq, Nat.reduceAdd, Nat.reduceLeDiff, Nat.reduceMul, Nat.reduceLT, Int.reduceEq, Int.reduceLT, Int.reduceLE]
  exact hg
end
section
open Go Go.Sim
set_option maxRecDepth 100000

/-- The machine, beside other blocks 'F'. -/
def Mach (F H : AHeap) (bm : Nat) (t p : AV) (log : List Int) (fs : List Fault) (first : Int) : Prop :=
  ∃ (xl xf : AV) (H1 H2 : AHeap), F bm = none ∧ Grow rI 1 3 F H1 xl log ∧ Grow rFault 5 86 H1 H2 xf fs ∧ H2 bm = none ∧ H = H2.set bm ⟨5, 110, [[t, p, xl, xf, I first]]⟩
theorem one_grow {α : Type} {f : α → List AV} {sz : Nat} {ty : TypeId} {H0 H : AHeap} {x : AV} {l : List α} (hg : Grow f sz ty H0 H x l) : x.row = [x] ∧ x.one = true := by
  rcases hg with ⟨rfl, rfl, rfl⟩ | ⟨b, cl, hb, rfl, rfl⟩ <;> exact ⟨rfl, rfl⟩
theorem c_heapRaise (F H : AHeap) (bm : Nat) (t p : AV) (log : List Int) (fs : List Fault) (first : Int) (cls code : Int) (hM : Mach F H bm t p log fs first) (hl : fs.length < 1000000) :
    ACalls Tryz.prog 150 [.ptr bm 5 0 3, I cls, I code] H fun r H' => r = I fs.length ∧ Mach F H' bm t p log (fs ++ [⟨cls, code, -1, -1, false⟩]) first := by
  obtain ⟨xl, xf, H1, H2, hF, hg1, hg2, hb, rfl⟩ := hM
  have hH1 : H1 bm = none := by
    cases h : H1 bm with
    | none => rfl
    | some k => rw [grow_le hg2 bm k h] at hb; cases hb
  refine acalls_of0 Tryz.func150 rfl (by kernel_rfl) rfl rfl (awp_sound (fz := fun _ => []) (im := fun s => s == 15) mixed _ _ _ _ (by kernel_rfl) ?_)
  simp +contextual -dsimp -implicitDefEqProofs (maxSteps := 5000000) only [go_sem, reduceIte, reduceCtorEq, Nat.reduceEqDiff, Nat.reduceBEq, Nat.reduceAdd, Nat.reduceLeDiff, Nat.reduceMul, Nat.reduceLT, Int.reduceEq, Int.reduceLT, Int.reduceLE]
  refine grow_append (m := [⟨cls, code, -1, -1, false⟩]) te30 ti86 rFault_len (by decide) (grow_in hg2 hb) (by simp; omega) (by simp; omega) rfl fun x' H' hg' => ?_
  obtain ⟨H2', hg'', rfl, hb'⟩ := grow_out hg' hH1
  obtain ⟨r1, r2⟩ := one_grow hg''
  have hn := grow_len te30 hg''
  simp +contextual -dsimp -implicitDefEqProofs (maxSteps := 5000000) only [go_sem, reduceIte, reduceCtorEq, Nat.reduceEqDiff, Nat.reduceBEq, Nat.reduceAdd, Nat.reduceLeDiff, Nat.reduceMul, Nat.reduceLT, Int.reduceEq, Int.reduceLT, Int.reduceLE, r1, r2, hn]
  exact ⟨I_wrap (by simp) (by omega) (by omega), xl, x', H1, H2', hF, hg1, hg'', hb', rfl⟩

/-- Heaps as machines make them: contexts are older. -/
def heapOk (h : List Fault) : Prop := ∀ k, k < h.length → (h.getD k default).cause = -1 ∧ -1 ≤ (h.getD k default).ctx ∧ (h.getD k default).ctx < k
theorem walkG_mem {nx : Int → Int} {p : Int → Prop} (hp : ∀ a, 0 ≤ a → p a → p (nx a)) : ∀ (n : Nat) (out : List Int) (f : Int), p f → ∀ a, a ∈ walkG nx n out f → a ∈ out ∨ (0 ≤ a ∧ p a)
  | 0, out, f, _, a, ha => .inl ha
  | n + 1, out, f, hf, a, ha => by
    simp only [walkG] at ha
    split at ha
    · rename_i hc
      rcases walkG_mem hp n _ _ (hp f hc.1 hf) a ha with h | h
      · simp only [List.mem_append, List.mem_singleton] at h
        rcases h with h | rfl
        · exact .inl h
        · exact .inr ⟨hc.1, hf⟩
      · exact .inr h
    · exact .inl ha
theorem chainF_mem {h : List Fault} (ho : heapOk h) {g : Int} (hg : g < h.length) {a : Int} (ha : a ∈ chainF h g) : 0 ≤ a ∧ a ≤ g := by
  have hp : ∀ a : Int, 0 ≤ a → a ≤ g → ctxOf h a ≤ g := by
    intro a h0 h1
    have := ho a.toNat (by omega)
    unfold ctxOf
    omega
  rcases walkG_mem hp _ [] g (Int.le_refl g) a ha with h | h
  · cases h
  · exact h
theorem chainF_ne {h : List Fault} {g : Int} (h0 : 0 ≤ g) : chainF h g ≠ [] := by
  unfold chainF walkF
  have key : ∀ (n : Nat) (out : List Int) (f : Int), out ≠ [] → walkG (ctxOf h) n out f ≠ [] := by
    intro n
    induction n with
    | zero => intro out f h; exact h
    | succ n ih =>
      intro out f h
      simp only [walkG]
      split
      · exact ih _ _ (by simp)
      · exact h
  simp only [walkG]
  rw [if_pos ⟨h0, by simp⟩]
  exact key _ _ _ (by simp)

theorem c_while (F H : AHeap) (bm : Nat) (t p : AV) (log : List Int) (fs : List Fault) (first : Int) (f g : Int) (hM : Mach F H bm t p log fs first) (hl : fs.length < 1000000) (ho : heapOk fs) (hf : f = fs.length - 1) (hg0 : 0 ≤ g) (hg : g < f) :
    ACalls Tryz.prog 151 [.ptr bm 5 0 3, I f, I g] H fun r H' => r = .tup [] ∧ Mach F H' bm t p log (fs.set f.toNat { fs.getD f.toNat default with ctx := g }) first := by
  obtain ⟨xl, xf, H1, H2, hF, hg1, hg2, hb, rfl⟩ := hM
  obtain ⟨cl0, hz⟩ := grow_froz (grow_in (c := bm) (K := ⟨5, 110, [[t, p, xl, xf, I first]]⟩) hg2 hb)
  refine acalls_of0 Tryz.func151 rfl (by kernel_rfl) rfl rfl (awp_sound (fz := fun _ => []) (im := fun _ => false) mixed _ _ _ _ (by kernel_rfl) ?_)
  have hfg : ¬ f = g := by omega
  simp +contextual -dsimp -implicitDefEqProofs (maxSteps := 5000000) only [go_sem, reduceIte, reduceCtorEq, Nat.reduceEqDiff, Nat.reduceBEq, Nat.reduceAdd, Nat.reduceLeDiff, Nat.reduceMul, Nat.reduceLT, Int.reduceEq, Int.reduceLT, Int.reduceLE, hfg]
  refine acalls_frz (acalls_borrowG [.agg [.vsl (fs.map rFault) cl0], I g] (.cons (.agg rfl ?_) (.cons (.same _) .nil)) (c_contexts fs cl0 g _ (by omega) (by omega) ?_) (fun x => rfl) (chainF_ne hg0) fun r H' h => h) fun cl => ?_
  · intro i c c' h1 h2
    cases i with
    | zero => simp at h1 h2; subst h1; subst h2; exact hz
    | succ i => simp at h1
  · intro k hk; have := ho k hk; omega
  · simp +contextual -dsimp -implicitDefEqProofs (maxSteps := 5000000) only [go_sem, reduceIte, reduceCtorEq, Nat.reduceEqDiff, Nat.reduceBEq, Nat.reduceAdd, Nat.reduceLeDiff, Nat.reduceMul, Nat.reduceLT, Int.reduceEq, Int.reduceLT, Int.reduceLE]
    rcases hg2 with ⟨e, _, _⟩ | ⟨bf, clf, hbf, rfl, rfl⟩
    · rw [e] at hf; simp at hf; omega
    have hb' := hb
    rw [set_none] at hb'
    obtain ⟨n1, n2, hH1⟩ := hb'
    have hbK : ((H1.set bf ⟨5, 86, fs.map rFault⟩).set bm ⟨5, 110, [[t, p, xl, .sl bf 5 0 fs.length clf, I first]]⟩) bf = some ⟨5, 86, fs.map rFault⟩ := by
      rw [set_other n2, AHeap.set_self]
    generalize hHH : (H1.set bf ⟨5, 86, fs.map rFault⟩).set bm ⟨5, 110, [[t, p, xl, .sl bf 5 0 fs.length clf, I first]]⟩ = HH at hbK ⊢
    have hld : ∀ (t : TypeId) (i j : Nat), ldA Tryz.prog HH t (.ptr bf 5 i j) = if i < fs.length then ldRow Tryz.prog t (rFault (fs.getD i default)) j else none := fun t i j => ldp hbK
    have hlm : ∀ (t' : TypeId) (j : Nat), ldA Tryz.prog HH t' (.ptr bm 5 0 j) = ldRow Tryz.prog t' [t, p, xl, .sl bf 5 0 fs.length clf, I first] j := fun t' j => by rw [← hHH]; exact ld1s
    have hmem := fun a => @chainF_mem fs ho g (by omega) a
    generalize chainF fs g = L at hmem ⊢
    refine sim_len (t := 15) rfl fun hlen => ?_
    rw [List.length_map] at hlen
    refine aloop mixed (fz := fun _ => []) (im := fun _ => false) (by kernel_rfl) (fun m tm H' => ∃ k : Nat, m = L.length - k ∧ k ≤ L.length ∧ H' = HH ∧ tm 0 = .ptr bm 5 0 3 ∧ tm 1 = I f ∧ tm 2 = I g ∧ tm 15 = .vsl (L.map rI) cl ∧ tm 16 = I L.length ∧ tm 17 = I k) L.length ⟨0, ?_⟩ ?_
    · simp +contextual -dsimp -implicitDefEqProofs (maxSteps := 5000000) only [go_sem, reduceIte, reduceCtorEq, Nat.reduceEqDiff, Nat.reduceBEq, Nat.reduceAdd, Nat.reduceLeDiff, Nat.reduceMul, Nat.reduceLT, Int.reduceEq, Int.reduceLT, Int.reduceLE]
      simp
    · rintro m tm _ ⟨k, rfl, hk, rfl, h0, h1, h2, h15, h16, h17⟩
      simp +contextual -dsimp -implicitDefEqProofs (maxSteps := 5000000) only [go_sem, reduceIte, reduceCtorEq, Nat.reduceEqDiff, Nat.reduceBEq, Nat.reduceAdd, Nat.reduceLeDiff, Nat.reduceMul, Nat.reduceLT, Int.reduceEq, Int.reduceLT, Int.reduceLE, h0, h1, h2, h15, h16, h17, hld, hlm]
      refine ⟨fun h => ?_, fun h => ⟨by omega, ?_⟩⟩
      · have hx := hmem (L.getD k default) (by rw [List.getD_eq_getElem?_getD, List.getElem?_eq_getElem h]; exact List.getElem_mem h)
        have hc := ho (L.getD k default).toNat (by omega)
        exact ⟨by omega, by omega, fun q => by omega, fun _ => ⟨_, by omega, k + 1, rfl, h, I_wrap (by omega) (by omega) (by omega)⟩⟩
      · rw [wrP hbK (y := { fs.getD f.toNat default with ctx := g }) (by omega) rfl]
        refine ⟨xl, .sl bf 5 0 fs.length clf, H1, H1.set bf ⟨5, 86, (fs.set f.toNat { fs.getD f.toNat default with ctx := g }).map rFault⟩, hF, hg1, .inr ⟨bf, clf, hbf, by rw [List.length_set], rfl⟩, ?_, ?_⟩
        · rw [set_other n1]; exact hH1
        · rw [← hHH, set_comm n1, set_set]

theorem heapOk_snoc {fs : List Fault} (h : heapOk fs) {x : Fault} (h1 : x.cause = -1) (h2 : -1 ≤ x.ctx) (h3 : x.ctx < fs.length) : heapOk (fs ++ [x]) := by
  intro k hk
  rcases Nat.lt_or_ge k fs.length with q | q
  · have e : (fs ++ [x]).getD k default = fs.getD k default := by
      rw [List.getD_eq_getElem?_getD, List.getD_eq_getElem?_getD, List.getElem?_append_left q]
    rw [e]; exact h k q
  · have : k = fs.length := by simp at hk; omega
    subst this
    have e : (fs ++ [x]).getD fs.length default = x := by simp [List.getD_eq_getElem?_getD]
    rw [e]; exact ⟨h1, h2, h3⟩
theorem heapOk_nil : heapOk [] := fun k hk => by simp at hk
/-- A new fault, raised while another one is handled, if there is one. -/
def raiseF (fs : List Fault) (cls code g : Int) : List Fault := fs ++ [⟨cls, code, -1, if 0 ≤ g then g else -1, false⟩]
theorem raiseF_ok {fs : List Fault} (h : heapOk fs) {cls code g : Int} (hg : g < fs.length) : heapOk (raiseF fs cls code g) := by
  refine heapOk_snoc h rfl ?_ ?_ <;> (simp only; split <;> omega)
theorem raiseF_len {fs : List Fault} {cls code g : Int} : (raiseF fs cls code g).length = fs.length + 1 := by simp [raiseF]
theorem c_raise (F H : AHeap) (bm : Nat) (t p : AV) (log : List Int) (fs : List Fault) (first : Int) (cls code g : Int) (hM : Mach F H bm t p log fs first) (hl : fs.length < 999999) (ho : heapOk fs) (hg : g < fs.length) :
    ACalls Tryz.prog 122 [.ptr bm 5 0 0, I cls, I code, I g] H fun r H' => r = I fs.length ∧ Mach F H' bm t p log (raiseF fs cls code g) first := by
  refine acalls_of0 Tryz.func122 rfl (by kernel_rfl) rfl rfl (awp_sound (fz := fun _ => []) (im := fun _ => false) mixed _ _ _ _ (by kernel_rfl) ?_)
  simp +contextual -dsimp -implicitDefEqProofs (maxSteps := 5000000) only [go_sem, reduceIte, reduceCtorEq, Nat.reduceEqDiff, Nat.reduceBEq, Nat.reduceAdd, Nat.reduceLeDiff, Nat.reduceMul, Nat.reduceLT, Int.reduceEq, Int.reduceLT, Int.reduceLE]
  refine (c_heapRaise F H bm t p log fs first cls code hM (by omega)).mono ?_
  rintro _ H' ⟨rfl, hM'⟩
  by_cases h0 : 0 ≤ g
  · simp +contextual -dsimp -implicitDefEqProofs (maxSteps := 5000000) only [go_sem, reduceIte, reduceCtorEq, Nat.reduceEqDiff, Nat.reduceBEq, Nat.reduceAdd, Nat.reduceLeDiff, Nat.reduceMul, Nat.reduceLT, Int.reduceEq, Int.reduceLT, Int.reduceLE, h0]
    refine (c_while F H' bm t p log _ first fs.length g hM' (by simp; omega) (heapOk_snoc ho rfl (by simp) (by simp; omega)) (by simp) h0 hg).mono ?_
    rintro _ H'' ⟨rfl, hM''⟩
    simp +contextual -dsimp -implicitDefEqProofs (maxSteps := 5000000) only [go_sem, reduceIte, reduceCtorEq, Nat.reduceEqDiff, Nat.reduceBEq, Nat.reduceAdd, Nat.reduceLeDiff, Nat.reduceMul, Nat.reduceLT, Int.reduceEq, Int.reduceLT, Int.reduceLE, h0]
    have e : (fs ++ [(⟨cls, code, -1, -1, false⟩ : Fault)]).set ((fs.length : Int)).toNat { (fs ++ [(⟨cls, code, -1, -1, false⟩ : Fault)]).getD ((fs.length : Int)).toNat default with ctx := g } = raiseF fs cls code g := by
      simp [raiseF, h0, List.getD_eq_getElem?_getD]
    rw [e] at hM''
    exact hM''
  · simp +contextual -dsimp -implicitDefEqProofs (maxSteps := 5000000) only [go_sem, reduceIte, reduceCtorEq, Nat.reduceEqDiff, Nat.reduceBEq, Nat.reduceAdd, Nat.reduceLeDiff, Nat.reduceMul, Nat.reduceLT, Int.reduceEq, Int.reduceLT, Int.reduceLE, h0]
    have e : fs ++ [(⟨cls, code, -1, -1, false⟩ : Fault)] = raiseF fs cls code g := by simp [raiseF, h0]
    rw [← e]; exact hM'
end
section
open Go Go.Sim
set_option maxRecDepth 100000

theorem c_machineOf (t : List Class) (cl : Bool) (F : AHeap) (es : List (List AV)) (cl' : Bool) : ACalls Tryz.prog 34 [aTree t cl, .vsl es cl'] F fun r H' => ∃ bm, r = .ptr bm 5 0 0 ∧ Mach F H' bm (.vsl (t.map rClass) cl) (.vsl es cl') [] [] (-1) := by
  refine acalls_of0 Tryz.func34 rfl (by kernel_rfl) rfl rfl (awp_sound (fz := fun _ => []) (im := fun s => s == 2) mixed _ _ _ _ (by kernel_rfl) ?_)
  simp +contextual -dsimp -implicitDefEqProofs (maxSteps := 5000000) only [go_sem, reduceIte, reduceCtorEq, Nat.reduceEqDiff, Nat.reduceBEq, Nat.reduceAdd, Nat.reduceLeDiff, Nat.reduceMul, Nat.reduceLT, Int.reduceEq, Int.reduceLT, Int.reduceLE]
  intro b hb
  exact ⟨b, rfl, .vsl [] true, .vsl [] true, F, F, hb, grow_nil, grow_nil, hb, rfl⟩
end
section
open Go Go.Sim
set_option maxRecDepth 100000
def dchG (h : List Fault) : Nat → Int → List Int
  | 0, _ => []
  | n + 1, f => if 0 ≤ f then f :: dchG h n (ctxOf h f) else []
/-- A fault and its contexts, each older than the one ahead of it. -/
def dchF (h : List Fault) (f : Int) : List Int := dchG h (f + 1).toNat f
theorem dchG_neg {h : List Fault} {n : Nat} {f : Int} (hf : f < 0) : dchG h n f = [] := by
  cases n with
  | zero => rfl
  | succ n => simp only [dchG]; rw [if_neg (by omega)]
theorem dchG_eq {h : List Fault} (ho : heapOk h) : ∀ (n m : Nat) (f : Int), f < h.length → f < n → f < m → dchG h n f = dchG h m f
  | 0, m, f, _, h1, _ => by rw [dchG_neg (by omega), dchG_neg (by omega)]
  | n + 1, 0, f, _, _, h2 => by rw [dchG_neg (by omega), dchG_neg (by omega)]
  | n + 1, m + 1, f, h0, h1, h2 => by
    simp only [dchG]
    split
    · have := ho f.toNat (by omega)
      unfold ctxOf
      rw [dchG_eq ho n m _ (by omega) (by omega) (by omega)]
    · rfl
theorem dchF_step {h : List Fault} (ho : heapOk h) {f : Int} (h0 : 0 ≤ f) (h1 : f < h.length) : dchF h f = f :: dchF h (ctxOf h f) := by
  have := ho f.toNat (by omega)
  have e : (f + 1).toNat = f.toNat + 1 := by omega
  simp only [dchF, e, dchG]
  rw [if_pos h0]
  have : ctxOf h f < f := by unfold ctxOf; omega
  exact congrArg _ (dchG_eq ho _ _ _ (by omega) (by omega) (by omega))
theorem dchF_neg {h : List Fault} {f : Int} (hf : f < 0) : dchF h f = [] := dchG_neg hf
end
section
open Go Go.Sim
set_option maxRecDepth 100000

/-- A number put to its place in an ascending list. -/
def insK (out : List Int) (v : Int) : Nat := (out.takeWhile fun x => decide (x < v)).length
def insF (out : List Int) (v : Int) : List Int := if insK out v = out.length ∨ out.getD (insK out v) default ≠ v then out.take (insK out v) ++ [v] ++ out.drop (insK out v) else out
def sortedF (l : List Int) : List Int := l.foldl insF []
end
section
open Go Go.Sim
set_option maxRecDepth 100000

def isoAt (h : List Fault) (list : List Int) (g : Int) : Fault :=
  { h.getD g.toNat default with cause := idxF (fun x => decide ((h.getD g.toNat default).cause = x)) list, ctx := idxF (fun x => decide ((h.getD g.toNat default).ctx = x)) list }
def isoL (h : List Fault) (list : List Int) : List Fault := list.map (isoAt h list)
end
section
open Go Go.Sim
set_option maxRecDepth 100000

structure Clo where
  log : List Int
  fs : List Fault
  cur : Int
def isF (t : List Class) (a b : Int) : Bool := (aboveF t a).any fun x => decide (b = x)
def stepX (t : List Class) (s : Clo) (e : Exi) : Clo :=
  if e.kind = 0 then { s with log := s.log ++ [e.a] }
  else if e.kind = 1 then (if 0 ≤ s.cur then { s with log := s.log ++ [e.a] } else s)
  else if e.kind = 2 then (if 0 ≤ s.cur ∧ isF t (s.fs.getD s.cur.toNat default).cls e.a = true then { s with cur := -1 } else s)
  else if e.kind = 3 then { s with fs := raiseF s.fs e.a e.b s.cur, cur := s.fs.length } else s
def startX (x : Sta) : Clo := if x.has then ⟨[], raiseF [] x.cls x.code (-1), 0⟩ else ⟨[], [], -1⟩
/-- Exits are done from the last one to the first one. -/
def closeX (t : List Class) (l : List Exi) (x : Sta) : Clo := l.reverse.foldl (stepX t) (startX x)
def resX (s : Clo) : Res :=
  if 0 ≤ s.cur then ⟨s.log, 2, idxF (fun x => decide (s.cur = x)) (sortedF (dchF s.fs s.cur)), isoL s.fs (sortedF (dchF s.fs s.cur))⟩ else ⟨s.log, 0, 0, []⟩
end
section
open Go Go.Sim
set_option maxRecDepth 100000

/-- What holds of what exits have done. -/
structure CloOk (t : List Class) (s : Clo) (n : Nat) : Prop where
  ho : heapOk s.fs
  cur : s.cur < s.fs.length
  len : s.fs.length ≤ n + 1
  log : s.log.length ≤ n
  cls : ∀ k, k < s.fs.length → 0 ≤ (s.fs.getD k default).cls ∧ (s.fs.getD k default).cls < t.length
theorem validX_at {t : List Class} {l : List Exi} (h : validX t l = true) {i : Nat} (hi : i < l.length) : exitOk t (l.getD i default) = true := by
  simp only [validX, Bool.and_eq_true, List.all_eq_true] at h
  apply h.2
  rw [List.getD_eq_getElem?_getD, List.getElem?_eq_getElem hi]
  exact List.getElem_mem hi
theorem validX_T {t : List Class} {l : List Exi} (h : validX t l = true) : validT t = true ∧ l.length ≤ 8 := by
  simp only [validX, Bool.and_eq_true, decide_eq_true_eq] at h
  exact h.1
theorem rev_take {l : List Exi} {k : Nat} (h : k < l.length) : l.reverse.take (k + 1) = l.reverse.take k ++ [l.getD (l.length - 1 - k) default] := by
  rw [List.take_succ_eq_append_getElem (by simpa using h), List.getElem_reverse]
  have : l.length - 1 - k < l.length := by omega
  simp [List.getD_eq_getElem?_getD, this]
theorem hasF_spec {t : List Class} {a : Int} (h : hasF t a = true) : 0 ≤ a ∧ a < t.length := by
  simp only [hasF, inR, Bool.and_eq_true, decide_eq_true_eq] at h
  omega
theorem raiseF_at {fs : List Fault} {c d g : Int} {k : Nat} (hk : k < (raiseF fs c d g).length) : (k < fs.length ∧ (raiseF fs c d g).getD k default = fs.getD k default) ∨ (k = fs.length ∧ ((raiseF fs c d g).getD k default).cls = c) := by
  rw [raiseF_len] at hk
  unfold raiseF
  rcases Nat.lt_or_ge k fs.length with q | q
  · left; refine ⟨q, ?_⟩
    rw [List.getD_eq_getElem?_getD, List.getD_eq_getElem?_getD, List.getElem?_append_left q]
  · right
    have : k = fs.length := by omega
    subst this
    refine ⟨rfl, ?_⟩
    simp [List.getD_eq_getElem?_getD]
theorem CloOk.raise {t : List Class} {s : Clo} {n : Nat} (h : CloOk t s n) {c d : Int} (hc : hasF t c = true) : CloOk t { s with fs := raiseF s.fs c d s.cur, cur := s.fs.length } (n + 1) := by
  refine ⟨raiseF_ok h.ho h.cur, by simp only [raiseF_len]; omega, by simp only [raiseF_len]; have := h.len; omega, Nat.le_succ_of_le h.log, fun k hk => ?_⟩
  rcases raiseF_at hk with ⟨q1, q2⟩ | ⟨q1, q2⟩
  · simp only [q2]; exact h.cls k q1
  · simp only [q2]; exact hasF_spec hc
theorem CloOk.step {t : List Class} {s : Clo} {n : Nat} (h : CloOk t s n) {e : Exi} (he : exitOk t e = true) : CloOk t (stepX t s e) (n + 1) := by
  unfold stepX
  have wk : CloOk t s (n + 1) := ⟨h.ho, h.cur, Nat.le_succ_of_le h.len, Nat.le_succ_of_le h.log, h.cls⟩
  have lg : CloOk t { s with log := s.log ++ [e.a] } (n + 1) := ⟨h.ho, h.cur, Nat.le_succ_of_le h.len, by simp; exact h.log, h.cls⟩
  split
  · exact lg
  split
  · split
    · exact lg
    · exact wk
  split
  · split
    · exact ⟨h.ho, by show (-1 : Int) < _; omega, Nat.le_succ_of_le h.len, Nat.le_succ_of_le h.log, h.cls⟩
    · exact wk
  split
  · rename_i h0 h1 h2 h3
    apply h.raise
    unfold exitOk at he
    simp only [h3] at he
    simp at he
    exact he.1
  · exact wk
theorem CloOk.start {t : List Class} {x : Sta} (hs : startOk t x = true) : CloOk t (startX x) 0 := by
  unfold startX
  split
  · rename_i hx
    have hc : hasF t x.cls = true := by
      unfold startOk at hs
      simp only [hx, if_true, Bool.and_eq_true] at hs
      exact hs.1
    have h0 : CloOk t ⟨[], [], -1⟩ 0 := ⟨heapOk_nil, by simp, by simp, by simp, fun k hk => by simp at hk⟩
    have := h0.raise (d := x.code) hc
    exact ⟨this.ho, this.cur, by simp [raiseF_len], by simp, this.cls⟩
  · exact ⟨heapOk_nil, by simp, by simp, by simp, fun k hk => by simp at hk⟩
end
section
open Go Go.Sim
set_option maxRecDepth 100000

theorem it_backExit (l : List Exi) (cl : Bool) (hl : l.length ≤ 9223372036854775807) : Iter Tryz.prog 113 [.vptr [[.vsl (l.map rExit) cl]] 0 0] (backL (fun x => .agg (rExit x)) l) := by
  refine back_iter (fn := Tryz.f113) (im := fun _ => false) rfl (by kernel_rfl) rfl rfl rfl (by kernel_rfl) (by kernel_rfl) (by kernel_rfl) (by kernel_rfl) rfl rfl rfl rfl ?_ ?_ ?_ ?_ ?_
  · intro tm H h1
    simp only [List.toList_toArray]
    simp +contextual -dsimp -implicitDefEqProofs (maxSteps := 5000000) only [go_sem, reduceIte, reduceCtorEq, Nat.reduceEqDiff, Nat.reduceBEq, Nat.reduceAdd, Nat.reduceLeDiff, Nat.reduceMul, Nat.reduceLT, Int.reduceEq, Int.reduceLT, Int.reduceLE, h1]
    exact I_wrap rfl (by omega) (by omega)
  · intro tm H i h3
    simp only [List.toList_toArray]
    simp +contextual -dsimp -implicitDefEqProofs (maxSteps := 5000000) only [go_sem, reduceIte, reduceCtorEq, Nat.reduceEqDiff, Nat.reduceBEq, Nat.reduceAdd, Nat.reduceLeDiff, Nat.reduceMul, Nat.reduceLT, Int.reduceEq, Int.reduceLT, Int.reduceLE, h3]
  · intro tm H i h1 h3 h0 hi
    simp only [List.toList_toArray]
    simp +contextual -dsimp -implicitDefEqProofs (maxSteps := 5000000) only [go_sem, reduceIte, reduceCtorEq, Nat.reduceEqDiff, Nat.reduceBEq, Nat.reduceAdd, Nat.reduceLeDiff, Nat.reduceMul, Nat.reduceLT, Int.reduceEq, Int.reduceLT, Int.reduceLE, h1, h3, h0, hi]
    omega
  · intro tm H b h17
    simp only [List.toList_toArray]
    simp +contextual -dsimp -implicitDefEqProofs (maxSteps := 5000000) only [go_sem, reduceIte, reduceCtorEq, Nat.reduceEqDiff, Nat.reduceBEq, Nat.reduceAdd, Nat.reduceLeDiff, Nat.reduceMul, Nat.reduceLT, Int.reduceEq, Int.reduceLT, Int.reduceLE, h17]
  · intro tm H i h3 h0 hi
    simp only [List.toList_toArray]
    simp +contextual -dsimp -implicitDefEqProofs (maxSteps := 5000000) only [go_sem, reduceIte, reduceCtorEq, Nat.reduceEqDiff, Nat.reduceBEq, Nat.reduceAdd, Nat.reduceLeDiff, Nat.reduceMul, Nat.reduceLT, Int.reduceEq, Int.reduceLT, Int.reduceLE, h3]
    exact I_wrap rfl (by omega) (by omega)
theorem c_BackExit (l : List Exi) (cl : Bool) (H : AHeap) : ACalls Tryz.prog 70 [.vsl (l.map rExit) cl] H fun r H' => r = .fn 113 [] [.vptr [[.vsl (l.map rExit) cl]] 0 0] ∧ H' = H := by
  refine acalls_of0 Tryz.func70 rfl (by kernel_rfl) rfl rfl (awp_sound (fz := fun _ => []) (im := fun s => s == 1) mixed _ _ _ _ (by kernel_rfl) ?_)
  simp +contextual -dsimp -implicitDefEqProofs (maxSteps := 5000000) only [go_sem, reduceIte, reduceCtorEq, Nat.reduceEqDiff, Nat.reduceBEq, Nat.reduceAdd, Nat.reduceLeDiff, Nat.reduceMul, Nat.reduceLT, Int.reduceEq, Int.reduceLT, Int.reduceLE]

section
variable {F H : AHeap} {bm c : Nat} {t p : AV} {log : List Int} {fs : List Fault} {first : Int} {K : ABlk}
theorem mach_in (hM : Mach F H bm t p log fs first) (hc : H c = none) : Mach (F.set c K) (H.set c K) bm t p log fs first := by
  obtain ⟨xl, xf, H1, H2, hF, hg1, hg2, hb, rfl⟩ := hM
  rw [set_none] at hc
  have h1 := grow_none hg2 hc.2.2
  refine ⟨xl, xf, H1.set c K, H2.set c K, by rw [set_other (Ne.symm hc.1)]; exact hF, grow_in hg1 h1, grow_in hg2 hc.2.2, by rw [set_other (Ne.symm hc.1)]; exact hb, set_comm (Ne.symm hc.1)⟩
theorem mach_out (hM : Mach (F.set c K) H bm t p log fs first) (hc : F c = none) : ∃ H', H = H'.set c K ∧ Mach F H' bm t p log fs first ∧ H' c = none := by
  obtain ⟨xl, xf, H1, H2, hF, hg1, hg2, hb, rfl⟩ := hM
  obtain ⟨G1, k1, rfl, k2⟩ := grow_out hg1 hc
  obtain ⟨G2, k3, rfl, k4⟩ := grow_out hg2 k2
  rw [set_none] at hF hb
  refine ⟨G2.set bm ⟨5, 110, [[t, p, xl, xf, I first]]⟩, set_comm hF.2.1, ⟨xl, xf, G1, G2, hF.2.2, k1, k3, hb.2.2, rfl⟩, ?_⟩
  rw [set_other hF.2.1]; exact k4
theorem mach_none (hM : Mach F H bm t p log fs first) (hc : H c = none) : F c = none := by
  obtain ⟨xl, xf, H1, H2, hF, hg1, hg2, hb, rfl⟩ := hM
  rw [set_none] at hc
  exact grow_none hg1 (grow_none hg2 hc.2.2)
variable {xl xf : AV} {H1 H2 : AHeap} {M C : ABlk} {a : Int} {cl : Bool} {Kt : AV → AHeap → Prop}
theorem mach_app1 {g : Tag ((H2.set bm M).set c C, Kt)} (hg1 : Grow rI 1 3 F H1 xl log) (hg2 : Grow rFault 5 86 H1 H2 xf fs) (hb : H2 bm = none) (hcb : c ≠ bm) (hc : H2 c = none) (hl : log.length < 1000000)
    (k : ∀ x' G G1, Grow rI 1 3 F G1 x' (log ++ [a]) → Grow rFault 5 86 G1 G xf fs → G bm = none → G c = none → x'.row = [x'] ∧ x'.one = true → Kt x' ((G.set bm M).set c C)) :
    appT Tryz.prog ((H2.set bm M).set c C) 29 xl (.vsl [[I a]] cl) Kt g := by
  obtain ⟨H1', hf', hl'⟩ := grow_swap hg1 hg2
  refine grow_append (m := [a]) te29 ti3 rI_len (by decide) (grow_in (grow_in hl' hb) (by rw [set_other hcb]; exact hc)) (by simp; omega) (by simp; omega) rfl fun x' H' hg' => ?_
  obtain ⟨G', k1, rfl, k2⟩ := grow_out hg' (by rw [set_other hcb]; exact grow_none hl' hc)
  obtain ⟨G, k3, rfl, k4⟩ := grow_out k1 (grow_none hl' hb)
  obtain ⟨G1, k5, k6⟩ := grow_swap hf' k3
  rw [set_other hcb] at k2
  exact k x' G G1 k5 k6 k4 k2 (one_grow k5)
end
end
end
end Go.Proofs.YtckipeopgimenaaGreat
