/- Walks and plain laws that the claims of this seat lean on. No condition. -/
import Derived.Test.YtoacjmckefahcaaGreatFacts
import Derived.Test.YtoacjmckefahcaaGreatShelf
set_option linter.unusedVariables false
set_option linter.unusedSimpArgs false
namespace Go.Proofs.YtoacjmckefahcaaGreat
open Go Go.Sim
section
set_option maxRecDepth 100000
attribute [local go_sem ↓] aw_skip aw_ret aw_exit aw_region aw_draw aw_seq aw_block aw_loop aw_cond frz_nil frz_cons sq_normal sq_ret sq_exit exB_normal exB_ret exB_same exB_other retQ_ret retQ_normal ret0_ret ret0_normal ao_nil go1 g_move g_assign g_pick g_build g_load g_binOp g_unOp g_convert g_fieldAddr g_field g_indexAddr g_index g_extract g_lookup g_slice g_nilCheck g_len g_makeFunc h_call h_append h_alloc h_box h_buildSlice h_makeSlice h_store gV i_box i_buildSlice i_move i_assign i_build i_load i_binOp i_unOp i_convert i_fieldAddr i_field i_indexAddr i_index i_extract i_lookup i_makeMap i_mapUpdate i_slice i_nilCheck i_makeFunc i_len i_max i_min i_alloc i_makeSlice i_store i_append i_call i_pick boxI boxA buildSliceI buildSliceA makeSliceA makeMapA allocA storeA p_move p_assign p_pick p_build p_load p_binOp p_unOp p_convert p_fieldAddr p_field p_indexAddr p_index p_extract p_lookup p_makeMap p_mapUpdate p_slice p_nilCheck p_makeFunc p_len p_max p_min p_alloc p_box p_buildSlice p_makeSlice p_store p_append p_call x_nil x_go1 x_g0 x_g1 x_g2 x_g3 x_s0 x_s1 x_s2 x_s3 u_move u_assign u_pick u_build u_load u_binOp u_unOp u_convert u_fieldAddr u_field u_indexAddr u_index u_extract u_lookup u_slice u_nilCheck u_makeFunc u_len u_buildSlice
attribute [local go_sem] frzV_ptr frzV_sl frzK_some set_none set_other AHeap.set_self set_del set_set cnd_t cnd_f cnd_b retA_one retA_two retA_three retA_four retA_nil gIf_b mrgV_b mrgV_wh mrgV_U gIf_U gIf_wh mrgB_f mrgB_some mrgB_if wh_true wh_false keepA_some keepA_if gD_zero gD_succ gT_some bxA_t bxA_f callA_fn ev_tmp ev_const ev_global ev_func oc_bool oc_int oc_string oc_nil oc_nilptr oc_nilfunc cl_bool cl_int cl_string cl_nil updO_some updO_none upd_same upd_other init_at pickA_b pickA_wh selA_t selA_f selA_and selA_or selA_orn selA_orm selA_bb selA_ii beqt b_add b_sub b_mul b_and b_or b_xor b_eql b_neq b_lss b_leq b_gtr b_geq b_quo b_rem b_shr b_seql b_sneq b_sadd b_beql b_bneq b_aeql b_aneq u_not u_neg isConstOp eqA eqCellV List.getD_cons_zero List.getD_cons_succ List.map_cons List.map_nil List.nil_append List.cons_append List.append_nil if_true if_false Option.map_some Option.map_none ne_eq not_false_eq_true oneA ldv ld1v ld1s wr1s ldRow stRow row_lit row_agg row_vsl row_sl row_ptr row_fn one_I one_B one_S one_vsl one_sl one_ptr one_fn extractA okA rI rS rU rClass rFault rExit rStart rLine Int.toNat_natCast List.length_cons List.length_nil List.length_map List.all_cons List.all_nil Bool.and_true Nat.zero_add List.getElem?_cons_zero List.getElem?_cons_succ List.take_succ_cons List.take_zero List.drop_succ_cons List.drop_zero and_self true_and and_true implies_true decide_eq_true_eq decide_eq_false_iff_not Bool.or_eq_true Bool.or_eq_false_iff Bool.and_eq_true Bool.not_eq_true' Bool.not_eq_false' beq_false decide_true decide_false Int.ofNat_lt Int.ofNat_le Int.natCast_nonneg Bool.or_true Bool.or_false Bool.true_or Bool.false_or beq_self_eq_true List.drop_one Bool.not_true Bool.not_false Bool.not_not Bool.false_eq_true Bool.true_eq_false false_implies true_implies Bool.true_and Bool.false_and Bool.and_false not_true_eq_false Int.natCast_eq_zero Int.natCast_pos Int.natCast_zero false_and and_false or_false false_or or_true true_or Bool.or_self none_le_iff List.replicate_zero Int.toNat_zero List.replicate_succ buildRows List.set_cons_zero List.set_cons_succ List.set_nil List.mapM_nil maxLen_eq Nat.zero_le Nat.mul_one Nat.one_mul bldA fillA spliceA List.take_nil List.drop_nil List.getElem?_nil ld1o wr1o bldSliceA le_same ti1 ti2 tk2 ti3 te3 ts3 tk3 tz3 ti4 tb4 ti5 tk5 tz5 ti9 te9 ts9 tk9 tz9 ti12 tk12 ti13 tp13 tf13_0 tf13_1 ti20 ti21 tk21 tz21 ti22 te22 tz22 ti23 te23 ti24 tp24 tf24_0 ti25 tp25 tf25_0 ti26 te26 ti28 ti29 ti30 ti31 ti32 ti33 te33 ti34 te34 ti35 tp35 tf35_0 ti36 tp36 tf36_0 ti37 tp37 tf37_0 tf37_1 tf37_2 tf37_3 ti38 tp38 tf38_0 tf38_1 tf38_2 tf38_3 ti39 ti40 ti41 ti42 ti43 tq43 tp43 tf43_0 tf43_1 tf43_2 tf43_3 ti44 tq44 tp44 tf44_0 tf44_1 tf44_2 tf44_3 ti45 ti46 ti47 ti48 ti49 ti50 ti51 tq51 tp51 tf51_0 tf51_1 tf51_2 ti52 tq52 tp52 tf52_0 tf52_1 tf52_2 ti54 ti55 ti56 ti57 ti58 ti59 ti60 ti61 ti62 ti63 ti64 ti65 ti66 ti67 ti68 ti69 ti70 tq70 tp70 tf70_0 tf70_1 ti71 tq71 tp71 tf71_0 tf71_1 ti72 ti73 ti74 ti75 ti76 ti77 ti78 ti79 tp79 tf79_0 tf79_1 tf79_2 tf79_3 tf79_4 ti80 tp80 tf80_0 tf80_1 tf80_2 tf80_3 tf80_4 ti81 ti83 ti84 ti85 ti86 tq86 tp86 tf86_0 tf86_1 tf86_2 tf86_3 tf86_4 ti87 tq87 tp87 tf87_0 tf87_1 tf87_2 tf87_3 tf87_4 ti88 ti89 ti90 ti91 ti92 tp92 tf92_0 tf92_1 ti93 tp93 tf93_0 tf93_1 ti94 ti95 ti96 ti97 tq97 tp97 tf97_0 tf97_1 ti98 tq98 tp98 tf98_0 tf98_1 ti99 ti100 ti101 ti103 ti104 ti105 ti106 ti107 ti108 ti109 ti110 ti111 te111 ti112 ti113 ti114 ti115 ti116 ti117 ti118 ti119 ti120 ti121 ti122 ti123 ti124 ti125 ti126 ti127 tk127 tz127 ti128 ti129 ti130 tk130 ti132 ti133 ti134 ti136 ti137 ti138 tk138 tz138 ti139 ti140 tk140 tz140 ti141 tk141 ti142 ti143 ti144 ti145 ti146 ti147 ti148 ti149 ti155 ti159 fp13_0 fv13_0 fp13_1 fv13_1 fp24_0 fv24_0 fp25_0 fv25_0 fp35_0 fv35_0 fp36_0 fv36_0 fp37_0 fv37_0 fp37_1 fv37_1 fp37_2 fv37_2 fp37_3 fv37_3 fp38_0 fv38_0 fp38_1 fv38_1 fp38_2 fv38_2 fp38_3 fv38_3 fp43_0 fv43_0 fp43_1 fv43_1 fp43_2 fv43_2 fp43_3 fv43_3 fp44_0 fv44_0 fp44_1 fv44_1 fp44_2 fv44_2 fp44_3 fv44_3 fp51_0 fv51_0 fp51_1 fv51_1 fp51_2 fv51_2 fp52_0 fv52_0 fp52_1 fv52_1 fp52_2 fv52_2 fp70_0 fv70_0 fp70_1 fv70_1 fp71_0 fv71_0 fp71_1 fv71_1 fp79_0 fv79_0 fp79_1 fv79_1 fp79_2 fv79_2 fp79_3 fv79_3 fp79_4 fv79_4 fp80_0 fv80_0 fp80_1 fv80_1 fp80_2 fv80_2 fp80_3 fv80_3 fp80_4 fv80_4 fp86_0 fv86_0 fp86_1 fv86_1 fp86_2 fv86_2 fp86_3 fv86_3 fp86_4 fv86_4 fp87_0 fv87_0 fp87_1 fv87_1 fp87_2 fv87_2 fp87_3 fv87_3 fp87_4 fv87_4 fp92_0 fv92_0 fp92_1 fv92_1 fp93_0 fv93_0 fp93_1 fv93_1 fp97_0 fv97_0 fp97_1 fv97_1 fp98_0 fv98_0 fp98_1 fv98_1 lv22 ll22 is22 ix22 sh22 so22 sb22 sm22 sp22 lv23 ll23 is23 ix23 sh23 so23 sb23 sm23 sp23 lv26 ll26 is26 ix26 sh26 so26 sb26 sm26 sp26 lv33 ll33 is33 ix33 sh33 so33 sb33 sm33 sp33 lv34 ll34 is34 ix34 sh34 so34 sb34 sm34 sp34 lv111 ll111 is111 ix111 sh111 so111 sb111 sm111 sp111 xs9 ls9 sx9 sy9 sz9
section
open Go Go.Sim
set_option maxRecDepth 100000

def inR (n lo hi : Int) : Bool := decide (lo ≤ n) && decide (n ≤ hi)
theorem c_within (n lo hi : Int) (H : AHeap) : ACalls Tryz.prog 40 [I n, I lo, I hi] H fun r H' => r = B (inR n lo hi) ∧ H' = H := by
  refine acalls_of0 Tryz.func40 rfl (by kernel_rfl) rfl rfl (awp_sound (fz := fun _ => []) (im := fun _ => false) mixed _ _ _ _ (by kernel_rfl) ?_)
  simp +contextual -dsimp -implicitDefEqProofs (maxSteps := 5000000) only [go_sem, reduceIte, reduceCtorEq, Nat.reduceEqDiff, Nat.reduceBEq, Nat.reduceAdd, Nat.reduceLeDiff, Nat.reduceMul, Nat.reduceLT, Int.reduceEq, Int.reduceLT, Int.reduceLE, inR]
theorem c_inRange (n lo hi : Int) (H : AHeap) : ACalls Tryz.prog 102 [I n, I lo, I hi] H fun r H' => r = B (inR n lo hi) ∧ H' = H := by
  refine acalls_of0 Tryz.func102 rfl (by kernel_rfl) rfl rfl (awp_sound (fz := fun _ => []) (im := fun _ => false) mixed _ _ _ _ (by kernel_rfl) ?_)
  simp +contextual -dsimp -implicitDefEqProofs (maxSteps := 5000000) only [go_sem, reduceIte, reduceCtorEq, Nat.reduceEqDiff, Nat.reduceBEq, Nat.reduceAdd, Nat.reduceLeDiff, Nat.reduceMul, Nat.reduceLT, Int.reduceEq, Int.reduceLT, Int.reduceLE, inR]
theorem c_codeOk (n : Int) (H : AHeap) : ACalls Tryz.prog 77 [I n] H fun r H' => r = B (inR n 0 99) ∧ H' = H := by
  refine acalls_of0 Tryz.func77 rfl (by kernel_rfl) rfl rfl (awp_sound (fz := fun _ => []) (im := fun _ => false) mixed _ _ _ _ (by kernel_rfl) ?_)
  simp +contextual -dsimp -implicitDefEqProofs (maxSteps := 5000000) only [go_sem, reduceIte, reduceCtorEq, Nat.reduceEqDiff, Nat.reduceBEq, Nat.reduceAdd, Nat.reduceLeDiff, Nat.reduceMul, Nat.reduceLT, Int.reduceEq, Int.reduceLT, Int.reduceLE]
  refine (c_within _ _ _ _).det ?_
  simp +contextual -dsimp -implicitDefEqProofs (maxSteps := 5000000) only [go_sem, reduceIte, reduceCtorEq, Nat.reduceEqDiff, Nat.reduceBEq, Nat.reduceAdd, Nat.reduceLeDiff, Nat.reduceMul, Nat.reduceLT, Int.reduceEq, Int.reduceLT, Int.reduceLE]

def letter (c : UInt8) : Bool := decide (97 ≤ c.toNat) && decide (c.toNat ≤ 122)
def nameF (s : Str) : Bool := s.all letter && inR s.length 1 6
theorem c_nameOk (s : Str) (H : AHeap) (hs : s.length < 4611686018427387904) : ACalls Tryz.prog 75 [S s] H fun r H' => r = B (nameF s) ∧ H' = H := by
  refine acalls_of0 Tryz.func75 rfl (by kernel_rfl) rfl rfl (awp_sound (fz := fun _ => []) (im := fun _ => false) mixed _ _ _ _ (by kernel_rfl) ?_)
  simp +contextual -dsimp -implicitDefEqProofs (maxSteps := 5000000) only [go_sem, reduceIte, reduceCtorEq, Nat.reduceEqDiff, Nat.reduceBEq, Nat.reduceAdd, Nat.reduceLeDiff, Nat.reduceMul, Nat.reduceLT, Int.reduceEq, Int.reduceLT, Int.reduceLE]
  refine aloop mixed (fz := fun _ => []) (im := fun _ => false) (by kernel_rfl) (fun m tm H' => ∃ k : Nat, m = s.length - k ∧ k ≤ s.length ∧ H' = H ∧ tm 0 = S s ∧ tm 5 = I s.length ∧ tm 6 = I k ∧ (s.take k).all letter = true) s.length ⟨0, ?_⟩ ?_
  · simp +contextual -dsimp -implicitDefEqProofs (maxSteps := 5000000) only [go_sem, reduceIte, reduceCtorEq, Nat.reduceEqDiff, Nat.reduceBEq, Nat.reduceAdd, Nat.reduceLeDiff, Nat.reduceMul, Nat.reduceLT, Int.reduceEq, Int.reduceLT, Int.reduceLE]
    simp
  · rintro m tm _ ⟨k, rfl, hk, rfl, h0, h5, h6, hl⟩
    simp +contextual -dsimp -implicitDefEqProofs (maxSteps := 5000000) only [go_sem, reduceIte, reduceCtorEq, Nat.reduceEqDiff, Nat.reduceBEq, Nat.reduceAdd, Nat.reduceLeDiff, Nat.reduceMul, Nat.reduceLT, Int.reduceEq, Int.reduceLT, Int.reduceLE, h0, h5, h6]
    refine ⟨fun h => ⟨fun hb => ?_, fun h1 => ⟨_, ?_, k + 1, rfl, h, ?_, ?_⟩⟩, fun h => ?_⟩
    · have : letter (s.getD k 0) = false := by simp only [letter, Bool.and_eq_false_iff, decide_eq_false_iff_not]; omega
      simp [nameF, all_not h this]
    · omega
    · rw [w64 (by omega) (by omega)]; rfl
    · exact all_take h hl (d := 0) (by simp only [letter, Bool.and_eq_true, decide_eq_true_eq]; omega)
    · refine (c_within _ _ _ _).det ?_
      have : k = s.length := by omega
      subst this
      rw [List.take_length] at hl
      simp +contextual -dsimp -implicitDefEqProofs (maxSteps := 5000000) only [go_sem, reduceIte, reduceCtorEq, Nat.reduceEqDiff, Nat.reduceBEq, Nat.reduceAdd, Nat.reduceLeDiff, Nat.reduceMul, Nat.reduceLT, Int.reduceEq, Int.reduceLT, Int.reduceLE, nameF, hl, Bool.true_and]
theorem c_validName (s : Str) (H : AHeap) (hs : s.length < 4611686018427387904) : ACalls Tryz.prog 108 [S s] H fun r H' => r = B (nameF s) ∧ H' = H := by
  refine acalls_of0 Tryz.func108 rfl (by kernel_rfl) rfl rfl (awp_sound (fz := fun _ => []) (im := fun _ => false) mixed _ _ _ _ (by kernel_rfl) ?_)
  simp +contextual -dsimp -implicitDefEqProofs (maxSteps := 5000000) only [go_sem, reduceIte, reduceCtorEq, Nat.reduceEqDiff, Nat.reduceBEq, Nat.reduceAdd, Nat.reduceLeDiff, Nat.reduceMul, Nat.reduceLT, Int.reduceEq, Int.reduceLT, Int.reduceLE]
  refine aloop mixed (fz := fun _ => []) (im := fun _ => false) (by kernel_rfl) (fun m tm H' => ∃ k : Nat, m = s.length - k ∧ k ≤ s.length ∧ H' = H ∧ tm 0 = S s ∧ tm 3 = I k ∧ (s.take k).all letter = true) s.length ⟨0, ?_⟩ ?_
  · simp +contextual -dsimp -implicitDefEqProofs (maxSteps := 5000000) only [go_sem, reduceIte, reduceCtorEq, Nat.reduceEqDiff, Nat.reduceBEq, Nat.reduceAdd, Nat.reduceLeDiff, Nat.reduceMul, Nat.reduceLT, Int.reduceEq, Int.reduceLT, Int.reduceLE]
    simp
  · rintro m tm _ ⟨k, rfl, hk, rfl, h0, h3, hl⟩
    simp +contextual -dsimp -implicitDefEqProofs (maxSteps := 5000000) only [go_sem, reduceIte, reduceCtorEq, Nat.reduceEqDiff, Nat.reduceBEq, Nat.reduceAdd, Nat.reduceLeDiff, Nat.reduceMul, Nat.reduceLT, Int.reduceEq, Int.reduceLT, Int.reduceLE, h0, h3]
    refine ⟨fun h => ⟨fun hb => ?_, fun h1 => ⟨_, ?_, k + 1, rfl, h, ?_, ?_⟩⟩, fun h => ?_⟩
    · have : letter (s.getD k 0) = false := by simp only [letter, Bool.and_eq_false_iff, decide_eq_false_iff_not]; omega
      simp [nameF, all_not h this]
    · omega
    · rw [w64 (by omega) (by omega)]; rfl
    · exact all_take h hl (d := 0) (by simp only [letter, Bool.and_eq_true, decide_eq_true_eq]; omega)
    · refine (c_inRange _ _ _ _).det ?_
      have : k = s.length := by omega
      subst this
      rw [List.take_length] at hl
      simp +contextual -dsimp -implicitDefEqProofs (maxSteps := 5000000) only [go_sem, reduceIte, reduceCtorEq, Nat.reduceEqDiff, Nat.reduceBEq, Nat.reduceAdd, Nat.reduceLeDiff, Nat.reduceMul, Nat.reduceLT, Int.reduceEq, Int.reduceLT, Int.reduceLE, nameF, hl, Bool.true_and]
end
section
open Go Go.Sim
set_option maxRecDepth 100000

abbrev aTree (t : List Class) (cl : Bool) : AV := .agg [.vsl (t.map rClass) cl]
def hasF (t : List Class) (a : Int) : Bool := inR a 0 (t.length - 1)
theorem c_has (t : List Class) (cl : Bool) (a : Int) (H : AHeap) : ACalls Tryz.prog 59 [aTree t cl, I a] H fun r H' => r = B (hasF t a) ∧ H' = H := by
  refine acalls_len1 (by kernel_rfl) (List.mem_cons_self ..) fun hl => ?_
  rw [List.length_map] at hl
  refine acalls_of0 Tryz.func59 rfl (by kernel_rfl) rfl rfl (awp_sound (fz := fun _ => []) (im := fun s => s == 2) mixed _ _ _ _ (by kernel_rfl) ?_)
  simp +contextual -dsimp -implicitDefEqProofs (maxSteps := 5000000) only [go_sem, reduceIte, reduceCtorEq, Nat.reduceEqDiff, Nat.reduceBEq, Nat.reduceAdd, Nat.reduceLeDiff, Nat.reduceMul, Nat.reduceLT, Int.reduceEq, Int.reduceLT, Int.reduceLE]
  rw [w64 (by omega) (by omega)]
  exact (c_within _ _ _ _).det (by simp +contextual -dsimp -implicitDefEqProofs (maxSteps := 5000000) only [go_sem, reduceIte, reduceCtorEq, Nat.reduceEqDiff, Nat.reduceBEq, Nat.reduceAdd, Nat.reduceLeDiff, Nat.reduceMul, Nat.reduceLT, Int.reduceEq, Int.reduceLT, Int.reduceLE, hasF])
theorem c_hasClass (t : List Class) (cl : Bool) (a : Int) (H : AHeap) : ACalls Tryz.prog 123 [aTree t cl, I a] H fun r H' => r = B (hasF t a) ∧ H' = H := by
  refine acalls_len1 (by kernel_rfl) (List.mem_cons_self ..) fun hl => ?_
  rw [List.length_map] at hl
  refine acalls_of0 Tryz.func123 rfl (by kernel_rfl) rfl rfl (awp_sound (fz := fun _ => []) (im := fun s => s == 2) mixed _ _ _ _ (by kernel_rfl) ?_)
  simp +contextual -dsimp -implicitDefEqProofs (maxSteps := 5000000) only [go_sem, reduceIte, reduceCtorEq, Nat.reduceEqDiff, Nat.reduceBEq, Nat.reduceAdd, Nat.reduceLeDiff, Nat.reduceMul, Nat.reduceLT, Int.reduceEq, Int.reduceLT, Int.reduceLE]
  rw [w64 (by omega) (by omega)]
  exact (c_inRange _ _ _ _).det (by simp +contextual -dsimp -implicitDefEqProofs (maxSteps := 5000000) only [go_sem, reduceIte, reduceCtorEq, Nat.reduceEqDiff, Nat.reduceBEq, Nat.reduceAdd, Nat.reduceLeDiff, Nat.reduceMul, Nat.reduceLT, Int.reduceEq, Int.reduceLT, Int.reduceLE, hasF])

theorem c_named1 (c : Class) (s : Str) (H : AHeap) : ACalls Tryz.prog 112 [.agg (rClass c), .vptr [rS s] 0 0] H fun r H' => r = B (decide (c.name = s)) ∧ H' = H := by
  refine acalls_of0 Tryz.func112 rfl (by kernel_rfl) rfl rfl (awp_sound (fz := fun _ => []) (im := fun s => s == 2) mixed _ _ _ _ (by kernel_rfl) ?_)
  simp +contextual -dsimp -implicitDefEqProofs (maxSteps := 5000000) only [go_sem, reduceIte, reduceCtorEq, Nat.reduceEqDiff, Nat.reduceBEq, Nat.reduceAdd, Nat.reduceLeDiff, Nat.reduceMul, Nat.reduceLT, Int.reduceEq, Int.reduceLT, Int.reduceLE]

theorem c_IndexFuncClass (l : List Class) (cl : Bool) (g : FuncId) (caps : List AV) (p : Class → Bool) (H : AHeap)
    (hp : ∀ c, ACalls Tryz.prog g (.agg (rClass c) :: caps) H fun r H' => r = B (p c) ∧ H' = H) :
    ACalls Tryz.prog 111 [.vsl (l.map rClass) cl, .fn g [] caps] H fun r H' => r = I (idxF p l) ∧ H' = H := by
  refine acalls_len (by kernel_rfl) (List.mem_cons_self ..) fun hl => ?_
  rw [List.length_map] at hl
  refine acalls_of0 Tryz.func111 rfl (by kernel_rfl) rfl rfl (awp_sound (fz := fun _ => []) (im := fun _ => false) mixed _ _ _ _ (by kernel_rfl) ?_)
  simp +contextual -dsimp -implicitDefEqProofs (maxSteps := 5000000) only [go_sem, reduceIte, reduceCtorEq, Nat.reduceEqDiff, Nat.reduceBEq, Nat.reduceAdd, Nat.reduceLeDiff, Nat.reduceMul, Nat.reduceLT, Int.reduceEq, Int.reduceLT, Int.reduceLE]
  refine aloop mixed (fz := fun _ => []) (im := fun _ => false) (by kernel_rfl) (fun m tm H' => ∃ k : Nat, m = l.length - k ∧ k ≤ l.length ∧ H' = H ∧ tm 0 = .vsl (l.map rClass) cl ∧ tm 1 = .fn g [] caps ∧ tm 7 = I l.length ∧ tm 8 = I k ∧ (l.take k).any p = false) l.length ⟨0, ?_⟩ ?_
  · simp +contextual -dsimp -implicitDefEqProofs (maxSteps := 5000000) only [go_sem, reduceIte, reduceCtorEq, Nat.reduceEqDiff, Nat.reduceBEq, Nat.reduceAdd, Nat.reduceLeDiff, Nat.reduceMul, Nat.reduceLT, Int.reduceEq, Int.reduceLT, Int.reduceLE]
    simp
  · rintro m tm _ ⟨k, rfl, hk, rfl, h0, h1, h7, h8, hn⟩
    simp +contextual -dsimp -implicitDefEqProofs (maxSteps := 5000000) only [go_sem, reduceIte, reduceCtorEq, Nat.reduceEqDiff, Nat.reduceBEq, Nat.reduceAdd, Nat.reduceLeDiff, Nat.reduceMul, Nat.reduceLT, Int.reduceEq, Int.reduceLT, Int.reduceLE, h0, h1, h7, h8]
    refine ⟨fun h => (hp _).det ?_, fun h => ?_⟩
    · simp +contextual -dsimp -implicitDefEqProofs (maxSteps := 5000000) only [go_sem, reduceIte, reduceCtorEq, Nat.reduceEqDiff, Nat.reduceBEq, Nat.reduceAdd, Nat.reduceLeDiff, Nat.reduceMul, Nat.reduceLT, Int.reduceEq, Int.reduceLT, Int.reduceLE, h0, h1, h7, h8]
      refine ⟨fun hb => ?_, fun hb => ⟨_, ?_, k + 1, rfl, h, I_wrap (by omega) (by omega) (by omega), any_take h hn hb⟩⟩
      · rw [idxF_at h hn hb]
      · omega
    · rw [idxF_none (by omega) hn]
theorem c_named (t : List Class) (cl : Bool) (s : Str) (H : AHeap) : ACalls Tryz.prog 76 [aTree t cl, S s] H fun r H' => r = I (idxF (fun c => decide (c.name = s)) t) ∧ H' = H := by
  refine acalls_of0 Tryz.func76 rfl (by kernel_rfl) rfl rfl (awp_sound (fz := fun _ => []) (im := fun s => s == 2 || s == 3) mixed _ _ _ _ (by kernel_rfl) ?_)
  simp +contextual -dsimp -implicitDefEqProofs (maxSteps := 5000000) only [go_sem, reduceIte, reduceCtorEq, Nat.reduceEqDiff, Nat.reduceBEq, Nat.reduceAdd, Nat.reduceLeDiff, Nat.reduceMul, Nat.reduceLT, Int.reduceEq, Int.reduceLT, Int.reduceLE]
  exact (c_IndexFuncClass t cl _ _ _ H fun c => c_named1 c s H).det (by simp +contextual -dsimp -implicitDefEqProofs (maxSteps := 5000000) only [go_sem, reduceIte, reduceCtorEq, Nat.reduceEqDiff, Nat.reduceBEq, Nat.reduceAdd, Nat.reduceLeDiff, Nat.reduceMul, Nat.reduceLT, Int.reduceEq, Int.reduceLT, Int.reduceLE])
theorem c_classNamed (l : List Class) (cl : Bool) (s : Str) (H : AHeap) : ACalls Tryz.prog 109 [.vsl (l.map rClass) cl, S s] H fun r H' => r = I (idxF (fun c => decide (c.name = s)) l) ∧ H' = H := by
  refine acalls_len (by kernel_rfl) (List.mem_cons_self ..) fun hl => ?_
  rw [List.length_map] at hl
  refine acalls_of0 Tryz.func109 rfl (by kernel_rfl) rfl rfl (awp_sound (fz := fun _ => []) (im := fun _ => false) mixed _ _ _ _ (by kernel_rfl) ?_)
  simp +contextual -dsimp -implicitDefEqProofs (maxSteps := 5000000) only [go_sem, reduceIte, reduceCtorEq, Nat.reduceEqDiff, Nat.reduceBEq, Nat.reduceAdd, Nat.reduceLeDiff, Nat.reduceMul, Nat.reduceLT, Int.reduceEq, Int.reduceLT, Int.reduceLE]
  refine aloop mixed (fz := fun _ => []) (im := fun _ => false) (by kernel_rfl) (fun m tm H' => ∃ k : Nat, m = l.length - k ∧ k ≤ l.length ∧ H' = H ∧ tm 0 = .vsl (l.map rClass) cl ∧ tm 1 = S s ∧ tm 5 = I k ∧ (l.take k).any (fun c => decide (c.name = s)) = false) l.length ⟨0, ?_⟩ ?_
  · simp +contextual -dsimp -implicitDefEqProofs (maxSteps := 5000000) only [go_sem, reduceIte, reduceCtorEq, Nat.reduceEqDiff, Nat.reduceBEq, Nat.reduceAdd, Nat.reduceLeDiff, Nat.reduceMul, Nat.reduceLT, Int.reduceEq, Int.reduceLT, Int.reduceLE]
    simp
  · rintro m tm _ ⟨k, rfl, hk, rfl, h0, h1, h5, hn⟩
    simp +contextual -dsimp -implicitDefEqProofs (maxSteps := 5000000) only [go_sem, reduceIte, reduceCtorEq, Nat.reduceEqDiff, Nat.reduceBEq, Nat.reduceAdd, Nat.reduceLeDiff, Nat.reduceMul, Nat.reduceLT, Int.reduceEq, Int.reduceLT, Int.reduceLE, h0, h1, h5]
    refine ⟨fun h => ⟨fun hb => ?_, fun hb => ⟨_, ?_, k + 1, rfl, h, I_wrap (by omega) (by omega) (by omega), any_take h hn (d := default) (by simpa using hb)⟩⟩, fun h => ?_⟩
    · rw [idxF_at h hn (d := default) (by simpa using hb)]
    · omega
    · rw [idxF_none (by omega) hn]
theorem c_Index (l : List Int) (cl : Bool) (n : Int) (H : AHeap) : ACalls Tryz.prog 114 [.vsl (l.map rI) cl, I n] H fun r H' => r = I (idxF (fun x => decide (n = x)) l) ∧ H' = H := by
  refine acalls_len (by kernel_rfl) (List.mem_cons_self ..) fun hl => ?_
  rw [List.length_map] at hl
  refine acalls_of0 Tryz.func114 rfl (by kernel_rfl) rfl rfl (awp_sound (fz := fun _ => []) (im := fun _ => false) mixed _ _ _ _ (by kernel_rfl) ?_)
  simp +contextual -dsimp -implicitDefEqProofs (maxSteps := 5000000) only [go_sem, reduceIte, reduceCtorEq, Nat.reduceEqDiff, Nat.reduceBEq, Nat.reduceAdd, Nat.reduceLeDiff, Nat.reduceMul, Nat.reduceLT, Int.reduceEq, Int.reduceLT, Int.reduceLE]
  refine aloop mixed (fz := fun _ => []) (im := fun _ => false) (by kernel_rfl) (fun m tm H' => ∃ k : Nat, m = l.length - k ∧ k ≤ l.length ∧ H' = H ∧ tm 0 = .vsl (l.map rI) cl ∧ tm 1 = I n ∧ tm 7 = I l.length ∧ tm 8 = I k ∧ (l.take k).any (fun x => decide (n = x)) = false) l.length ⟨0, ?_⟩ ?_
  · simp +contextual -dsimp -implicitDefEqProofs (maxSteps := 5000000) only [go_sem, reduceIte, reduceCtorEq, Nat.reduceEqDiff, Nat.reduceBEq, Nat.reduceAdd, Nat.reduceLeDiff, Nat.reduceMul, Nat.reduceLT, Int.reduceEq, Int.reduceLT, Int.reduceLE]
    simp
  · rintro m tm _ ⟨k, rfl, hk, rfl, h0, h1, h7, h8, hn⟩
    simp +contextual -dsimp -implicitDefEqProofs (maxSteps := 5000000) only [go_sem, reduceIte, reduceCtorEq, Nat.reduceEqDiff, Nat.reduceBEq, Nat.reduceAdd, Nat.reduceLeDiff, Nat.reduceMul, Nat.reduceLT, Int.reduceEq, Int.reduceLT, Int.reduceLE, h0, h1, h7, h8]
    refine ⟨fun h => ⟨fun hb => ?_, fun hb => ⟨_, ?_, k + 1, rfl, h, I_wrap (by omega) (by omega) (by omega), any_take h hn (d := default) (by simpa using hb)⟩⟩, fun h => ?_⟩
    · rw [← hb, idxF_at h hn (d := default) (by simpa using hb)]
    · omega
    · rw [idxF_none (by omega) hn]
theorem c_Contains (l : List Int) (cl : Bool) (n : Int) (H : AHeap) : ACalls Tryz.prog 118 [.vsl (l.map rI) cl, I n] H fun r H' => r = B (l.any fun x => decide (n = x)) ∧ H' = H := by
  refine acalls_of0 Tryz.func118 rfl (by kernel_rfl) rfl rfl (awp_sound (fz := fun _ => []) (im := fun _ => false) mixed _ _ _ _ (by kernel_rfl) ?_)
  simp +contextual -dsimp -implicitDefEqProofs (maxSteps := 5000000) only [go_sem, reduceIte, reduceCtorEq, Nat.reduceEqDiff, Nat.reduceBEq, Nat.reduceAdd, Nat.reduceLeDiff, Nat.reduceMul, Nat.reduceLT, Int.reduceEq, Int.reduceLT, Int.reduceLE]
  refine (c_Index l cl n H).det ?_
  simp +contextual -dsimp -implicitDefEqProofs (maxSteps := 5000000) only [go_sem, reduceIte, reduceCtorEq, Nat.reduceEqDiff, Nat.reduceBEq, Nat.reduceAdd, Nat.reduceLeDiff, Nat.reduceMul, Nat.reduceLT, Int.reduceEq, Int.reduceLT, Int.reduceLE]
  have h1 := idxF_ge (fun x => decide (n = x)) l
  have h2 := @idxF_neg _ (fun x => decide (n = x)) l
  cases hb : l.any fun x => decide (n = x)
  · rw [h2.2 hb]; rfl
  · have : idxF (fun x => decide (n = x)) l ≠ -1 := fun e => by rw [h2.1 e] at hb; cases hb
    simp; omega
end
section
open Go Go.Sim
set_option maxRecDepth 100000

def namesOk (t : List Class) : Prop := ∀ c ∈ t, c.name.length < 4611686018427387904
theorem namesOk_at {t : List Class} (h : namesOk t) {k : Nat} (hk : k < t.length) : (t.getD k default).name.length < 4611686018427387904 := by
  apply h
  simp [List.getD_eq_getElem?_getD, hk]
def clsOk (t : List Class) (i : Nat) (c : Class) : Bool :=
  nameF c.name && decide (idxF (fun d => decide (d.name = c.name)) t = i) && (if i = 0 then decide (c.parent = -1) else inR c.parent 0 (i - 1))
def validT (t : List Class) : Bool := (List.range t.length).all (fun i => clsOk t i (t.getD i default)) && inR t.length 1 8

theorem c_ValidTree (t : List Class) (cl : Bool) (H : AHeap) (hn : namesOk t) : ACalls Tryz.prog 38 [aTree t cl] H fun r H' => r = B (validT t) ∧ H' = H := by
  refine acalls_len1 (by kernel_rfl) (List.mem_cons_self ..) fun hl => ?_
  rw [List.length_map] at hl
  refine acalls_of0 Tryz.func38 rfl (by kernel_rfl) rfl rfl (awp_sound (fz := fun r => if r = 3 then [4] else []) (im := fun s => s == 1) mixed _ _ _ _ (by kernel_rfl) ?_)
  simp +contextual -dsimp -implicitDefEqProofs (maxSteps := 5000000) only [go_sem, reduceIte, reduceCtorEq, Nat.reduceEqDiff, Nat.reduceBEq, Nat.reduceAdd, Nat.reduceLeDiff, Nat.reduceMul, Nat.reduceLT, Int.reduceEq, Int.reduceLT, Int.reduceLE]
  refine aloop mixed (fz := fun r => if r = 3 then [4] else []) (im := fun s => s == 1) (by kernel_rfl) (fun m tm H' => ∃ k : Nat, m = t.length - k ∧ k ≤ t.length ∧ H' = H ∧ tm 1 = .vptr [[.vsl (t.map rClass) cl]] 0 0 ∧ tm 6 = .vsl (t.map rClass) cl ∧ tm 7 = I t.length ∧ tm 8 = I k ∧ (List.range k).all (fun i => clsOk t i (t.getD i default)) = true) t.length ⟨0, ?_⟩ ?_
  · simp +contextual -dsimp -implicitDefEqProofs (maxSteps := 5000000) only [go_sem, reduceIte, reduceCtorEq, Nat.reduceEqDiff, Nat.reduceBEq, Nat.reduceAdd, Nat.reduceLeDiff, Nat.reduceMul, Nat.reduceLT, Int.reduceEq, Int.reduceLT, Int.reduceLE]
    simp
  · rintro m tm _ ⟨k, rfl, hk, rfl, h1, h6, h7, h8, hv⟩
    simp +contextual -dsimp -implicitDefEqProofs (maxSteps := 5000000) only [go_sem, reduceIte, reduceCtorEq, Nat.reduceEqDiff, Nat.reduceBEq, Nat.reduceAdd, Nat.reduceLeDiff, Nat.reduceMul, Nat.reduceLT, Int.reduceEq, Int.reduceLT, Int.reduceLE, h1, h6, h7, h8]
    refine ⟨fun h b hb => ?_, fun h => ?_⟩
    · refine (c_nameOk _ _ (namesOk_at hn h)).det ?_
      have bad : clsOk t k (t.getD k default) = false → validT t = false := fun e => by
        simp only [validT, Bool.and_eq_false_iff]
        left
        rw [List.all_eq_false]
        exact ⟨k, by simp [h], by simp only [e]; decide⟩
      cases hN : nameF (t.getD k default).name
      · simp +contextual -dsimp -implicitDefEqProofs (maxSteps := 5000000) only [go_sem, reduceIte, reduceCtorEq, Nat.reduceEqDiff, Nat.reduceBEq, Nat.reduceAdd, Nat.reduceLeDiff, Nat.reduceMul, Nat.reduceLT, Int.reduceEq, Int.reduceLT, Int.reduceLE, h1, h6, h7, h8, hb]
        rw [bad (by simp only [clsOk, hN, Bool.false_and])]
      · simp +contextual -dsimp -implicitDefEqProofs (maxSteps := 5000000) only [go_sem, reduceIte, reduceCtorEq, Nat.reduceEqDiff, Nat.reduceBEq, Nat.reduceAdd, Nat.reduceLeDiff, Nat.reduceMul, Nat.reduceLT, Int.reduceEq, Int.reduceLT, Int.reduceLE, h1, h6, h7, h8, hb]
        refine (c_named _ _ _ _).det ?_
        simp +contextual -dsimp -implicitDefEqProofs (maxSteps := 5000000) only [go_sem, reduceIte, reduceCtorEq, Nat.reduceEqDiff, Nat.reduceBEq, Nat.reduceAdd, Nat.reduceLeDiff, Nat.reduceMul, Nat.reduceLT, Int.reduceEq, Int.reduceLT, Int.reduceLE, h1, h6, h7, h8, hb]
        have hp := bad
        simp only [clsOk, hN, Bool.true_and] at hp
        by_cases hI : idxF (fun c => decide (c.name = (t.getD k default).name)) t = k
        · have nxt : clsOk t k (t.getD k default) = true → ∃ m', m' < t.length - k ∧ ∃ k_1 : Nat, m' = t.length - k_1 ∧ k_1 ≤ t.length ∧ AV.lit (Value.int IntKind.i64 (IntKind.i64.wrap (↑k + 1))) = I ↑k_1 ∧ ((List.range k_1).all fun i => clsOk t i (t.getD i default)) = true := fun e =>
            ⟨_, by omega, k + 1, rfl, h, I_wrap (by omega) (by omega) (by omega), by rw [List.range_succ, List.all_append, hv]; simp only [List.all_cons, e, List.all_nil]; rfl⟩
          simp only [clsOk, hN, hI, decide_true, Bool.true_and] at nxt hp
          rcases Nat.eq_zero_or_pos k with rfl | hk0
          · by_cases hP : (t.getD 0 default).parent = -1
            · simp +contextual -dsimp -implicitDefEqProofs (maxSteps := 5000000) only [go_sem, reduceIte, reduceCtorEq, Nat.reduceEqDiff, Nat.reduceBEq, Nat.reduceAdd, Nat.reduceLeDiff, Nat.reduceMul, Nat.reduceLT, Int.reduceEq, Int.reduceLT, Int.reduceLE, h1, h6, h7, h8, hb, hI, hP]
              exact nxt (by simp only [hP, if_true, decide_true])
            · simp +contextual -dsimp -implicitDefEqProofs (maxSteps := 5000000) only [go_sem, reduceIte, reduceCtorEq, Nat.reduceEqDiff, Nat.reduceBEq, Nat.reduceAdd, Nat.reduceLeDiff, Nat.reduceMul, Nat.reduceLT, Int.reduceEq, Int.reduceLT, Int.reduceLE, h1, h6, h7, h8, hb, hI, hP]
              rw [hp (by simp only [hP, if_true, decide_false])]
          · have hk1 : ¬ k = 0 := by omega
            simp +contextual -dsimp -implicitDefEqProofs (maxSteps := 5000000) only [go_sem, reduceIte, reduceCtorEq, Nat.reduceEqDiff, Nat.reduceBEq, Nat.reduceAdd, Nat.reduceLeDiff, Nat.reduceMul, Nat.reduceLT, Int.reduceEq, Int.reduceLT, Int.reduceLE, h1, h6, h7, h8, hb, hI, hk0, hk1]
            rw [w64 (by omega) (by omega)]
            refine (c_within _ _ _ _).det ?_
            simp +contextual -dsimp -implicitDefEqProofs (maxSteps := 5000000) only [go_sem, reduceIte, reduceCtorEq, Nat.reduceEqDiff, Nat.reduceBEq, Nat.reduceAdd, Nat.reduceLeDiff, Nat.reduceMul, Nat.reduceLT, Int.reduceEq, Int.reduceLT, Int.reduceLE, h1, h6, h7, h8, hb, hI, hk0, hk1]
            simp only [hk1, if_false] at nxt hp
            exact ⟨fun e => by rw [hp e], nxt⟩
        · simp +contextual -dsimp -implicitDefEqProofs (maxSteps := 5000000) only [go_sem, reduceIte, reduceCtorEq, Nat.reduceEqDiff, Nat.reduceBEq, Nat.reduceAdd, Nat.reduceLeDiff, Nat.reduceMul, Nat.reduceLT, Int.reduceEq, Int.reduceLT, Int.reduceLE, h1, h6, h7, h8, hb, hI]
          rw [hp (by simp only [hI, decide_false, Bool.false_and])]
    · refine (c_within _ _ _ _).det ?_
      simp +contextual -dsimp -implicitDefEqProofs (maxSteps := 5000000) only [go_sem, reduceIte, reduceCtorEq, Nat.reduceEqDiff, Nat.reduceBEq, Nat.reduceAdd, Nat.reduceLeDiff, Nat.reduceMul, Nat.reduceLT, Int.reduceEq, Int.reduceLT, Int.reduceLE, h1, h6, h7, h8]
      have : k = t.length := by omega
      subst this
      simp only [validT, hv, Bool.true_and]
theorem idxF_take {α : Type} {p : α → Bool} {l : List α} {k : Nat} {d : α} (hk : k < l.length) (hp : p (l.getD k d) = true) : (idxF p l = k) ↔ idxF p (l.take k) < 0 := by
  have h1 := idxF_ge p (l.take k)
  have h2 := @idxF_neg _ p (l.take k)
  constructor
  · intro e
    have : (l.take k).any p = false := by
      rw [← Bool.not_eq_true]
      intro ha
      have h3 : ∀ (l : List α) (k : Nat), (l.take k).any p = true → idxF p l < k := by
        intro l
        induction l with
        | nil => intro k h; simp at h
        | cons x l ih =>
          intro k h
          cases k with
          | zero => simp at h
          | succ k =>
            simp only [List.take_succ_cons, List.any_cons, Bool.or_eq_true] at h
            have := idxF_ge p l
            simp only [idxF]
            split
            · omega
            · rename_i hx
              have := ih k (h.resolve_left (by simpa using hx))
              split <;> omega
      have := h3 l k ha
      omega
    rw [h2.2 this]; omega
  · intro e
    have : idxF p (l.take k) = -1 := by omega
    exact idxF_at hk (h2.1 this) hp
theorem c_validTree (t : List Class) (cl : Bool) (H : AHeap) (hn : namesOk t) : ACalls Tryz.prog 72 [aTree t cl] H fun r H' => r = B (validT t) ∧ H' = H := by
  refine acalls_len1 (by kernel_rfl) (List.mem_cons_self ..) fun hl => ?_
  rw [List.length_map] at hl
  refine acalls_of0 Tryz.func72 rfl (by kernel_rfl) rfl rfl (awp_sound (fz := fun r => if r = 4 then [4] else []) (im := fun s => s == 1) mixed _ _ _ _ (by kernel_rfl) ?_)
  simp +contextual -dsimp -implicitDefEqProofs (maxSteps := 5000000) only [go_sem, reduceIte, reduceCtorEq, Nat.reduceEqDiff, Nat.reduceBEq, Nat.reduceAdd, Nat.reduceLeDiff, Nat.reduceMul, Nat.reduceLT, Int.reduceEq, Int.reduceLT, Int.reduceLE]
  refine aloop mixed (fz := fun r => if r = 4 then [4] else []) (im := fun s => s == 1) (by kernel_rfl) (fun m tm H' => ∃ k : Nat, m = t.length - k ∧ k ≤ t.length ∧ H' = H ∧ tm 1 = .vptr [[.vsl (t.map rClass) cl]] 0 0 ∧ tm 3 = I k ∧ (List.range k).all (fun i => clsOk t i (t.getD i default)) = true) t.length ⟨0, ?_⟩ ?_
  · simp +contextual -dsimp -implicitDefEqProofs (maxSteps := 5000000) only [go_sem, reduceIte, reduceCtorEq, Nat.reduceEqDiff, Nat.reduceBEq, Nat.reduceAdd, Nat.reduceLeDiff, Nat.reduceMul, Nat.reduceLT, Int.reduceEq, Int.reduceLT, Int.reduceLE]
    simp
  · rintro m tm _ ⟨k, rfl, hk, rfl, h1, h3, hv⟩
    simp +contextual -dsimp -implicitDefEqProofs (maxSteps := 5000000) only [go_sem, reduceIte, reduceCtorEq, Nat.reduceEqDiff, Nat.reduceBEq, Nat.reduceAdd, Nat.reduceLeDiff, Nat.reduceMul, Nat.reduceLT, Int.reduceEq, Int.reduceLT, Int.reduceLE, h1, h3]
    refine ⟨fun h b hb => ?_, fun h => ?_⟩
    · refine draw_intro [0, 0, 2, 0, 0, 0, 0, 0, 0, 0, 0, 2, 0, 0, 0, 0, 0, 0, 0, 0, 0, 0, 0, 0, 0, 0, 0, 0, 0, 0, 0, 2, 0, 0, 0] AHeap.none (by kernel_rfl) none_le ?_
      simp +contextual -dsimp -implicitDefEqProofs (maxSteps := 5000000) only [go_sem, reduceIte, reduceCtorEq, Nat.reduceEqDiff, Nat.reduceBEq, Nat.reduceAdd, Nat.reduceLeDiff, Nat.reduceMul, Nat.reduceLT, Int.reduceEq, Int.reduceLT, Int.reduceLE, h1, h3, hb]
      refine (c_validName _ _ (namesOk_at hn h)).det ?_
      have bad : clsOk t k (t.getD k default) = false → validT t = false := fun e => by
        simp only [validT, Bool.and_eq_false_iff]
        left
        rw [List.all_eq_false]
        exact ⟨k, by simp [h], by simp only [e]; decide⟩
      cases hN : nameF (t.getD k default).name
      · simp +contextual -dsimp -implicitDefEqProofs (maxSteps := 5000000) only [go_sem, reduceIte, reduceCtorEq, Nat.reduceEqDiff, Nat.reduceBEq, Nat.reduceAdd, Nat.reduceLeDiff, Nat.reduceMul, Nat.reduceLT, Int.reduceEq, Int.reduceLT, Int.reduceLE, h1, h3, hb]
        rw [bad (by simp only [clsOk, hN, Bool.false_and])]
      · simp +contextual -dsimp -implicitDefEqProofs (maxSteps := 5000000) only [go_sem, reduceIte, reduceCtorEq, Nat.reduceEqDiff, Nat.reduceBEq, Nat.reduceAdd, Nat.reduceLeDiff, Nat.reduceMul, Nat.reduceLT, Int.reduceEq, Int.reduceLT, Int.reduceLE, h1, h3, hb]
        refine ⟨hk, (c_classNamed _ _ _ _).det ?_⟩
        simp +contextual -dsimp -implicitDefEqProofs (maxSteps := 5000000) only [go_sem, reduceIte, reduceCtorEq, Nat.reduceEqDiff, Nat.reduceBEq, Nat.reduceAdd, Nat.reduceLeDiff, Nat.reduceMul, Nat.reduceLT, Int.reduceEq, Int.reduceLT, Int.reduceLE, h1, h3, hb]
        have hp := bad
        have hI' := idxF_take (p := fun c => decide (c.name = (t.getD k default).name)) h (d := default) (by simp)
        by_cases hI : idxF (fun c => decide (c.name = (t.getD k default).name)) t = k
        · have hJ : ¬ 0 ≤ idxF (fun c => decide (c.name = (t.getD k default).name)) (t.take k) := by have := hI'.1 hI; omega
          have nxt : clsOk t k (t.getD k default) = true → ∃ m', m' < t.length - k ∧ ∃ k_1 : Nat, m' = t.length - k_1 ∧ k_1 ≤ t.length ∧ AV.lit (Value.int IntKind.i64 (IntKind.i64.wrap (↑k + 1))) = I ↑k_1 ∧ ((List.range k_1).all fun i => clsOk t i (t.getD i default)) = true := fun e =>
            ⟨_, by omega, k + 1, rfl, h, I_wrap (by omega) (by omega) (by omega), by rw [List.range_succ, List.all_append, hv]; simp only [List.all_cons, e, List.all_nil]; rfl⟩
          simp only [clsOk, hN, hI, decide_true, Bool.true_and] at nxt hp
          rcases Nat.eq_zero_or_pos k with rfl | hk0
          · have hJ : ¬ 0 ≤ idxF (fun c : Class => decide (c.name = (t.getD 0 default).name)) [] := by simp [idxF]
            by_cases hP : (t.getD 0 default).parent = -1
            · simp +contextual -dsimp -implicitDefEqProofs (maxSteps := 5000000) only [go_sem, reduceIte, reduceCtorEq, Nat.reduceEqDiff, Nat.reduceBEq, Nat.reduceAdd, Nat.reduceLeDiff, Nat.reduceMul, Nat.reduceLT, Int.reduceEq, Int.reduceLT, Int.reduceLE, h1, h3, hb, hJ, hP]
              exact nxt (by simp only [hP, if_true, decide_true])
            · simp +contextual -dsimp -implicitDefEqProofs (maxSteps := 5000000) only [go_sem, reduceIte, reduceCtorEq, Nat.reduceEqDiff, Nat.reduceBEq, Nat.reduceAdd, Nat.reduceLeDiff, Nat.reduceMul, Nat.reduceLT, Int.reduceEq, Int.reduceLT, Int.reduceLE, h1, h3, hb, hJ, hP]
              rw [hp (by simp only [hP, if_true, decide_false])]
          · have hk1 : ¬ k = 0 := by omega
            simp +contextual -dsimp -implicitDefEqProofs (maxSteps := 5000000) only [go_sem, reduceIte, reduceCtorEq, Nat.reduceEqDiff, Nat.reduceBEq, Nat.reduceAdd, Nat.reduceLeDiff, Nat.reduceMul, Nat.reduceLT, Int.reduceEq, Int.reduceLT, Int.reduceLE, h1, h3, hb, hJ, hk0, hk1]
            rw [w64 (by omega) (by omega)]
            refine (c_inRange _ _ _ _).det ?_
            simp +contextual -dsimp -implicitDefEqProofs (maxSteps := 5000000) only [go_sem, reduceIte, reduceCtorEq, Nat.reduceEqDiff, Nat.reduceBEq, Nat.reduceAdd, Nat.reduceLeDiff, Nat.reduceMul, Nat.reduceLT, Int.reduceEq, Int.reduceLT, Int.reduceLE, h1, h3, hb, hJ, hk0, hk1]
            simp only [hk1, if_false] at nxt hp
            exact ⟨fun e => by rw [hp e], nxt⟩
        · have hJ : 0 ≤ idxF (fun c => decide (c.name = (t.getD k default).name)) (t.take k) := by
            have := fun q => hI (hI'.2 q)
            omega
          simp +contextual -dsimp -implicitDefEqProofs (maxSteps := 5000000) only [go_sem, reduceIte, reduceCtorEq, Nat.reduceEqDiff, Nat.reduceBEq, Nat.reduceAdd, Nat.reduceLeDiff, Nat.reduceMul, Nat.reduceLT, Int.reduceEq, Int.reduceLT, Int.reduceLE, h1, h3, hb, hJ]
          rw [hp (by simp only [clsOk, hI, decide_false, Bool.and_false, Bool.false_and])]
    · refine (c_inRange _ _ _ _).det ?_
      simp +contextual -dsimp -implicitDefEqProofs (maxSteps := 5000000) only [go_sem, reduceIte, reduceCtorEq, Nat.reduceEqDiff, Nat.reduceBEq, Nat.reduceAdd, Nat.reduceLeDiff, Nat.reduceMul, Nat.reduceLT, Int.reduceEq, Int.reduceLT, Int.reduceLE, h1, h3]
      have : k = t.length := by omega
      subst this
      simp only [validT, hv, Bool.true_and]
end
section
open Go Go.Sim
set_option maxRecDepth 100000

theorem validT_len {t : List Class} (h : validT t = true) : 1 ≤ t.length ∧ t.length ≤ 8 := by
  simp only [validT, inR, Bool.and_eq_true, decide_eq_true_eq] at h
  omega
theorem validT_at {t : List Class} (h : validT t = true) {k : Nat} (hk : k < t.length) : clsOk t k (t.getD k default) = true := by
  simp only [validT, Bool.and_eq_true, List.all_eq_true] at h
  exact h.1 k (by simp [hk])
theorem validT_parent {t : List Class} (h : validT t = true) {k : Nat} (hk : k < t.length) : -1 ≤ (t.getD k default).parent ∧ (t.getD k default).parent < k := by
  have := validT_at h hk
  simp only [clsOk, Bool.and_eq_true] at this
  have h2 := this.2
  split at h2
  · simp only [decide_eq_true_eq] at h2; omega
  · simp only [inR, Bool.and_eq_true, decide_eq_true_eq] at h2; omega

def aboveG (t : List Class) : Nat → Int → List Int
  | 0, _ => []
  | n + 1, a => if 0 ≤ a then a :: aboveG t n (t.getD a.toNat default).parent else []
/-- A class and all above it. -/
def aboveF (t : List Class) (a : Int) : List Int := aboveG t (a + 1).toNat a
theorem aboveG_neg {t : List Class} {n : Nat} {a : Int} (h : a < 0) : aboveG t n a = [] := by
  cases n with
  | zero => rfl
  | succ n => simp only [aboveG]; rw [if_neg (by omega)]
theorem aboveG_eq {t : List Class} (h : validT t = true) : ∀ (n m : Nat) (a : Int), a < t.length → a < n → a < m → aboveG t n a = aboveG t m a
  | 0, m, a, _, h1, _ => by rw [aboveG_neg (by omega), aboveG_neg (by omega)]
  | n + 1, 0, a, _, _, h2 => by rw [aboveG_neg (by omega), aboveG_neg (by omega)]
  | n + 1, m + 1, a, h0, h1, h2 => by
    simp only [aboveG]
    split
    · rename_i ha
      have := validT_parent h (show a.toNat < t.length by omega)
      rw [aboveG_eq h n m _ (by omega) (by omega) (by omega)]
    · rfl
theorem aboveF_step {t : List Class} (h : validT t = true) {a : Int} (h0 : 0 ≤ a) (h1 : a < t.length) : aboveF t a = a :: aboveF t (t.getD a.toNat default).parent := by
  have := validT_parent h (show a.toNat < t.length by omega)
  have e : (a + 1).toNat = a.toNat + 1 := by omega
  simp only [aboveF, e, aboveG]
  rw [if_pos h0]
  exact congrArg _ (aboveG_eq h _ _ _ (by omega) (by omega) (by omega))
theorem aboveF_neg {t : List Class} {a : Int} (h : a < 0) : aboveF t a = [] := aboveG_neg h

theorem c_above (t : List Class) (cl : Bool) (a : Int) (H : AHeap) (hv : validT t = true) (ha : a < t.length) : ACalls Tryz.prog 119 [aTree t cl, I a] H fun r H' => (∃ cl', r = .vsl ((aboveF t a).map rI) cl') ∧ H' = H := by
  have hl := validT_len hv
  refine acalls_of1 Tryz.func119 rfl (by kernel_rfl) rfl rfl (awp_sound (fz := fun _ => []) (im := fun s => s == 2 || s == 20) mixed _ _ _ _ (by kernel_rfl) ?_)
  simp +contextual -dsimp -implicitDefEqProofs (maxSteps := 5000000) only [go_sem, reduceIte, reduceCtorEq, Nat.reduceEqDiff, Nat.reduceBEq, Nat.reduceAdd, Nat.reduceLeDiff, Nat.reduceMul, Nat.reduceLT, Int.reduceEq, Int.reduceLT, Int.reduceLE]
  refine ⟨by omega, by omega, fun b hb => ?_⟩
  refine aloop mixed (fz := fun _ => []) (im := fun s => s == 2 || s == 20) (by kernel_rfl) (fun m tm H' => ∃ (out : List Int) (c : Int), m = (c + 1).toNat ∧ c < t.length ∧ out.length + (c + 1).toNat ≤ 8 ∧ tm 1 = I c ∧ tm 2 = .vptr [[.vsl (t.map rClass) cl]] 0 0 ∧ Grow rI 1 3 H H' (tm 5) out ∧ out ++ aboveF t c = aboveF t a) (a + 1).toNat ⟨[], a, rfl, ha, by simp; omega, ?_⟩ ?_
  · simp +contextual -dsimp -implicitDefEqProofs (maxSteps := 5000000) only [go_sem, reduceIte, reduceCtorEq, Nat.reduceEqDiff, Nat.reduceBEq, Nat.reduceAdd, Nat.reduceLeDiff, Nat.reduceMul, Nat.reduceLT, Int.reduceEq, Int.reduceLT, Int.reduceLE]
    exact grow_new hb
  · rintro m tm H' ⟨out, c, rfl, hc, ho, h1, h2, hg, he⟩
    simp +contextual -dsimp -implicitDefEqProofs (maxSteps := 5000000) only [go_sem, reduceIte, reduceCtorEq, Nat.reduceEqDiff, Nat.reduceBEq, Nat.reduceAdd, Nat.reduceLeDiff, Nat.reduceMul, Nat.reduceLT, Int.reduceEq, Int.reduceLT, Int.reduceLE, h1, h2]
    refine ⟨fun h => ?_, fun h => ?_⟩
    · refine grow_append (m := [c]) te33 ti3 rI_len (by decide) hg (by simp; omega) (by simp; omega) rfl fun x' H'' hg' => ?_
      simp +contextual -dsimp -implicitDefEqProofs (maxSteps := 5000000) only [go_sem, reduceIte, reduceCtorEq, Nat.reduceEqDiff, Nat.reduceBEq, Nat.reduceAdd, Nat.reduceLeDiff, Nat.reduceMul, Nat.reduceLT, Int.reduceEq, Int.reduceLT, Int.reduceLE, h1, h2]
      have hp := validT_parent hv (show c.toNat < t.length by omega)
      refine ⟨by omega, by omega, _, ?_, out ++ [c], _, rfl, ?_, ?_, rfl, hg', ?_⟩
      · omega
      · omega
      · simp only [List.length_append, List.length_cons, List.length_nil]; omega
      · rw [← he, aboveF_step hv h hc]; simp
    · have hn := grow_len te33 hg
      obtain ⟨x', hx, hg'⟩ := grow_slice (ka := .i64) (kb := .i64) te33 ti3 rI_len hg
      simp +contextual -dsimp -implicitDefEqProofs (maxSteps := 5000000) only [go_sem, reduceIte, reduceCtorEq, Nat.reduceEqDiff, Nat.reduceBEq, Nat.reduceAdd, Nat.reduceLeDiff, Nat.reduceMul, Nat.reduceLT, Int.reduceEq, Int.reduceLT, Int.reduceLE, h1, h2, hn, hx]
      rw [aboveF_neg (by omega), List.append_nil] at he
      subst he
      exact grow_frz (t := 4) hg' fun cl => retR_one ⟨⟨cl, rfl⟩, rfl⟩
theorem c_is (t : List Class) (cl : Bool) (a b : Int) (H : AHeap) (hv : validT t = true) (ha : a < t.length) : ACalls Tryz.prog 91 [aTree t cl, I a, I b] H fun r H' => r = B ((aboveF t a).any fun x => decide (b = x)) ∧ H' = H := by
  refine acalls_of0 Tryz.func91 rfl (by kernel_rfl) rfl rfl (awp_sound (fz := fun _ => []) (im := fun s => s == 3) mixed _ _ _ _ (by kernel_rfl) ?_)
  simp +contextual -dsimp -implicitDefEqProofs (maxSteps := 5000000) only [go_sem, reduceIte, reduceCtorEq, Nat.reduceEqDiff, Nat.reduceBEq, Nat.reduceAdd, Nat.reduceLeDiff, Nat.reduceMul, Nat.reduceLT, Int.reduceEq, Int.reduceLT, Int.reduceLE]
  refine (c_above _ _ _ _ hv ha).detV fun cl' => ?_
  simp +contextual -dsimp -implicitDefEqProofs (maxSteps := 5000000) only [go_sem, reduceIte, reduceCtorEq, Nat.reduceEqDiff, Nat.reduceBEq, Nat.reduceAdd, Nat.reduceLeDiff, Nat.reduceMul, Nat.reduceLT, Int.reduceEq, Int.reduceLT, Int.reduceLE]
  refine (c_Contains _ _ _ _).det ?_
  simp +contextual -dsimp -implicitDefEqProofs (maxSteps := 5000000) only [go_sem, reduceIte, reduceCtorEq, Nat.reduceEqDiff, Nat.reduceBEq, Nat.reduceAdd, Nat.reduceLeDiff, Nat.reduceMul, Nat.reduceLT, Int.reduceEq, Int.reduceLT, Int.reduceLE]
end
section
open Go Go.Sim
set_option maxRecDepth 100000

def exitOk (t : List Class) (x : Exi) : Bool :=
  if x.kind = 0 then inR x.a 0 99 && decide (x.b = 0) else if x.kind = 1 then inR x.a 0 99 && decide (x.b = 0)
  else if x.kind = 2 then hasF t x.a && decide (x.b = 0) else if x.kind = 3 then hasF t x.a && inR x.b 0 99 else false
/-! ### Comparisons -/
abbrev aHeap (h : List Fault) (c : Bool) : AV := .agg [.vsl (h.map rFault) c]
end
section
open Go Go.Sim
set_option maxRecDepth 100000

theorem c_ClipV (l : List Int) (cl : Bool) (H : AHeap) : ACalls Tryz.prog 80 [.vsl (l.map rI) cl] H fun r H' => r = .vsl (l.map rI) true ∧ H' = H := by
  refine acalls_of0 Tryz.func80 rfl (by kernel_rfl) rfl rfl (awp_sound (fz := fun _ => []) (im := fun _ => false) mixed _ _ _ _ (by kernel_rfl) ?_)
  simp +contextual -dsimp -implicitDefEqProofs (maxSteps := 5000000) only [go_sem, reduceIte, reduceCtorEq, Nat.reduceEqDiff, Nat.reduceBEq, Nat.reduceAdd, Nat.reduceLeDiff, Nat.reduceMul, Nat.reduceLT, Int.reduceEq, Int.reduceLT, Int.reduceLE]
  simp
theorem c_ClipG (l : List Int) (x : AV) (H0 H : AHeap) (hg : Grow rI 1 3 H0 H x l) : ACalls Tryz.prog 80 [x] H fun r H' => Grow rI 1 3 H0 H' r l := by
  have hn := grow_len te33 hg
  obtain ⟨x', hx, hg'⟩ := grow_slice (ka := .i64) (kb := .i64) te33 ti3 rI_len hg
  refine acalls_of0 Tryz.func80 rfl (by kernel_rfl) rfl rfl (awp_sound (fz := fun _ => []) (im := fun _ => false) mixed _ _ _ _ (by kernel_rfl) ?_)
  simp +contextual -dsimp -implicitDefEqProofs (maxSteps := 5000000) only [go_sem, reduceIte, reduceCtorEq, Nat.reduceEqDiff, Nat.reduceBEq, Nat.reduceAdd, Nat.reduceLeDiff, Nat.reduceMul, Nat.reduceLT, Int.reduceEq, Int.reduceLT, Int.reduceLE, hn, hx]
  exact hg'

/-- How many of the first n numbers are not in a list. -/
def freeN (n : Nat) (out : List Int) : Nat := (List.range n).countP fun (i : Nat) => !out.any fun x => decide ((i : Int) = x)
theorem freeN_lt {n : Nat} {out : List Int} {f : Int} (h0 : 0 ≤ f) (h1 : f < n) (h2 : (out.any fun x => decide (f = x)) = false) : freeN n (out ++ [f]) < freeN n out := by
  induction n with
  | zero => omega
  | succ n ih =>
    have e : ∀ o, freeN (n + 1) o = freeN n o + (if (!o.any fun x => decide ((n : Int) = x)) = true then 1 else 0) := by
      intro o
      simp only [freeN, List.range_succ, List.countP_append, List.countP_singleton]
    have le : freeN n (out ++ [f]) ≤ freeN n out := by
      apply List.countP_mono_left
      intro x _ hx
      simp only [List.any_append, Bool.not_eq_true', Bool.or_eq_false_iff] at hx ⊢
      exact hx.1
    rw [e, e]
    by_cases hf : f = n
    · subst hf
      simp only [List.any_append, h2, List.any_cons, List.any_nil, decide_true]
      simp
      omega
    · have := ih (by omega)
      have e2 : ((out ++ [f]).any fun x => decide ((n : Int) = x)) = (out.any fun x => decide ((n : Int) = x)) := by
        rw [List.any_append]
        have : decide ((n : Int) = f) = false := by simp; omega
        simp [this]
      rw [e2]
      omega
def walkG (nx : Int → Int) : Nat → List Int → Int → List Int
  | 0, out, _ => out
  | n + 1, out, f => if 0 ≤ f ∧ (out.any fun x => decide (f = x)) = false then walkG nx n (out ++ [f]) (nx f) else out
/-- A number, the next one, and so on. -/
def walkF (nx : Int → Int) (n : Nat) (f : Int) : List Int := walkG nx (n + 1) [] f

theorem freeN_nil (n : Nat) : freeN n [] ≤ n := by
  unfold freeN
  exact Nat.le_trans List.countP_le_length (by simp)
theorem c_ContainsG (l : List Int) (x : AV) (n : Int) (H0 H : AHeap) (hg : Grow rI 1 3 H0 H x l) : ACalls Tryz.prog 118 [x, I n] H fun r H' => r = B (l.any fun x => decide (n = x)) ∧ H' = H := by
  obtain ⟨cl, hz⟩ := grow_froz hg
  exact acalls_borrow [.vsl (l.map rI) cl, I n] (.cons hz (.cons (.same _) .nil)) (c_Contains _ _ _ _) rfl ⟨rfl, rfl⟩
theorem c_walk (n : Nat) (hN : n ≤ 1000000) (nx : Int → Int) (g : FuncId) (caps : List AV) (f : Int) (H : AHeap) (hf : f < n) (hnx : ∀ a : Int, 0 ≤ a → a < n → nx a < n)
    (hp : ∀ (a : Int) H, 0 ≤ a → a < n → ACalls Tryz.prog g (I a :: caps) H fun r H' => r = I (nx a) ∧ H' = H) : ACalls Tryz.prog 127 [I f, .fn g [] caps] H fun r H' => Grow rI 1 3 H H' r (walkF nx n f) := by
  refine acalls_of0 Tryz.func127 rfl (by kernel_rfl) rfl rfl (awp_sound (fz := fun _ => []) (im := fun s => s == 6 || s == 20) mixed _ _ _ _ (by kernel_rfl) ?_)
  simp +contextual -dsimp -implicitDefEqProofs (maxSteps := 5000000) only [go_sem, reduceIte, reduceCtorEq, Nat.reduceEqDiff, Nat.reduceBEq, Nat.reduceAdd, Nat.reduceLeDiff, Nat.reduceMul, Nat.reduceLT, Int.reduceEq, Int.reduceLT, Int.reduceLE]
  refine aloop mixed (fz := fun _ => []) (im := fun s => s == 6 || s == 20) (by kernel_rfl) (fun m tm H' => ∃ (out : List Int) (c : Int), c < n ∧ freeN n out < m ∧ out.length + m ≤ n + 1 ∧ tm 0 = I c ∧ tm 1 = .fn g [] caps ∧ Grow rI 1 3 H H' (tm 5) out ∧ walkG nx m out c = walkF nx n f) (n + 1) ⟨[], f, hf, ?_, ?_, ?_⟩ ?_
  · have := freeN_nil n; omega
  · simp
  · simp +contextual -dsimp -implicitDefEqProofs (maxSteps := 5000000) only [go_sem, reduceIte, reduceCtorEq, Nat.reduceEqDiff, Nat.reduceBEq, Nat.reduceAdd, Nat.reduceLeDiff, Nat.reduceMul, Nat.reduceLT, Int.reduceEq, Int.reduceLT, Int.reduceLE]
    exact ⟨grow_nil, rfl⟩
  · rintro m tm H' ⟨out, c, hc, hfr, hlen, h0, h1, hg, he⟩
    simp +contextual -dsimp -implicitDefEqProofs (maxSteps := 5000000) only [go_sem, reduceIte, reduceCtorEq, Nat.reduceEqDiff, Nat.reduceBEq, Nat.reduceAdd, Nat.reduceLeDiff, Nat.reduceMul, Nat.reduceLT, Int.reduceEq, Int.reduceLT, Int.reduceLE, h0, h1]
    have hm : m = (m - 1) + 1 := by omega
    rw [hm, walkG] at he
    have stop : ¬ (0 ≤ c ∧ (out.any fun x => decide (c = x)) = false) → out = walkF nx n f := fun h => by rw [if_neg h] at he; exact he
    refine ⟨fun h => ?_, fun h => ?_⟩
    · refine (c_ContainsG out _ c H H' hg).det ?_
      cases ha : out.any fun x => decide (c = x)
      · rw [if_pos ⟨h, ha⟩] at he
        simp +contextual -dsimp -implicitDefEqProofs (maxSteps := 5000000) only [go_sem, reduceIte, reduceCtorEq, Nat.reduceEqDiff, Nat.reduceBEq, Nat.reduceAdd, Nat.reduceLeDiff, Nat.reduceMul, Nat.reduceLT, Int.reduceEq, Int.reduceLT, Int.reduceLE, h0, h1, h]
        refine grow_append (m := [c]) te33 ti3 rI_len (by decide) hg (by simp; omega) (by simp; omega) rfl fun x' H'' hg' => ?_
        simp +contextual -dsimp -implicitDefEqProofs (maxSteps := 5000000) only [go_sem, reduceIte, reduceCtorEq, Nat.reduceEqDiff, Nat.reduceBEq, Nat.reduceAdd, Nat.reduceLeDiff, Nat.reduceMul, Nat.reduceLT, Int.reduceEq, Int.reduceLT, Int.reduceLE, h0, h1, h]
        refine (hp c H'' h hc).det ?_
        simp +contextual -dsimp -implicitDefEqProofs (maxSteps := 5000000) only [go_sem, reduceIte, reduceCtorEq, Nat.reduceEqDiff, Nat.reduceBEq, Nat.reduceAdd, Nat.reduceLeDiff, Nat.reduceMul, Nat.reduceLT, Int.reduceEq, Int.reduceLT, Int.reduceLE, h0, h1, h]
        exact ⟨m - 1, by omega, out ++ [c], _, hnx c h hc, by have := freeN_lt h hc ha; omega, by simp; omega, rfl, hg', he⟩
      · simp +contextual -dsimp -implicitDefEqProofs (maxSteps := 5000000) only [go_sem, reduceIte, reduceCtorEq, Nat.reduceEqDiff, Nat.reduceBEq, Nat.reduceAdd, Nat.reduceLeDiff, Nat.reduceMul, Nat.reduceLT, Int.reduceEq, Int.reduceLT, Int.reduceLE, h0, h1, h]
        refine (c_ClipG out _ H H' hg).mono fun r H'' hg' => ?_
        simp +contextual -dsimp -implicitDefEqProofs (maxSteps := 5000000) only [go_sem, reduceIte, reduceCtorEq, Nat.reduceEqDiff, Nat.reduceBEq, Nat.reduceAdd, Nat.reduceLeDiff, Nat.reduceMul, Nat.reduceLT, Int.reduceEq, Int.reduceLT, Int.reduceLE, h0, h1, h]
        rw [← stop (fun q => by rw [ha] at q; cases q.2)]
        exact hg'
    · refine (c_ClipG out _ H H' hg).mono fun r H'' hg' => ?_
      simp +contextual -dsimp -implicitDefEqProofs (maxSteps := 5000000) only [go_sem, reduceIte, reduceCtorEq, Nat.reduceEqDiff, Nat.reduceBEq, Nat.reduceAdd, Nat.reduceLeDiff, Nat.reduceMul, Nat.reduceLT, Int.reduceEq, Int.reduceLT, Int.reduceLE, h0, h1, h]
      rw [← stop (fun q => h q.1)]
      exact hg'

/-- The context of a fault. -/
def ctxOf (h : List Fault) (a : Int) : Int := (h.getD a.toNat default).ctx
theorem c_contexts1 (h : List Fault) (cl : Bool) (a : Int) (H : AHeap) (h0 : 0 ≤ a) (h1 : a < h.length) : ACalls Tryz.prog 128 [I a, .vptr [[.vsl (h.map rFault) cl]] 0 0] H fun r H' => r = I (ctxOf h a) ∧ H' = H := by
  refine acalls_of0 Tryz.func128 rfl (by kernel_rfl) rfl rfl (awp_sound (fz := fun _ => []) (im := fun _ => false) mixed _ _ _ _ (by kernel_rfl) ?_)
  have h2 : a.toNat < h.length := by omega
  simp +contextual -dsimp -implicitDefEqProofs (maxSteps := 5000000) only [go_sem, reduceIte, reduceCtorEq, Nat.reduceEqDiff, Nat.reduceBEq, Nat.reduceAdd, Nat.reduceLeDiff, Nat.reduceMul, Nat.reduceLT, Int.reduceEq, Int.reduceLT, Int.reduceLE, h0, h1, h2, ctxOf]
def chainF (h : List Fault) (f : Int) : List Int := walkF (ctxOf h) h.length f
theorem c_contexts (h : List Fault) (cl : Bool) (f : Int) (H : AHeap) (hl : h.length ≤ 1000000) (hf : f < h.length) (hc : ∀ k, k < h.length → (h.getD k default).ctx < h.length) :
    ACalls Tryz.prog 121 [.agg [.vsl (h.map rFault) cl], I f] H fun r H' => Grow rI 1 3 H H' r (chainF h f) := by
  refine acalls_of0 Tryz.func121 rfl (by kernel_rfl) rfl rfl (awp_sound (fz := fun _ => []) (im := fun s => s == 2) mixed _ _ _ _ (by kernel_rfl) ?_)
  simp +contextual -dsimp -implicitDefEqProofs (maxSteps := 5000000) only [go_sem, reduceIte, reduceCtorEq, Nat.reduceEqDiff, Nat.reduceBEq, Nat.reduceAdd, Nat.reduceLeDiff, Nat.reduceMul, Nat.reduceLT, Int.reduceEq, Int.reduceLT, Int.reduceLE]
  refine (c_walk h.length hl (ctxOf h) _ _ f H hf (fun a h0 h1 => hc a.toNat (by omega)) (fun a H h0 h1 => c_contexts1 h cl a H h0 h1)).mono fun r H' hg => ?_
  simp +contextual -dsimp -implicitDefEqProofs (maxSteps := 5000000) only [go_sem, reduceIte, reduceCtorEq, Nat.reduceEqDiff, Nat.reduceBEq, Nat.reduceAdd, Nat.reduceLeDiff, Nat.reduceMul, Nat.reduceLT, Int.reduceEq, Int.reduceLT, Int.reduceLE]
  exact hg
end
section
open Go Go.Sim
set_option maxRecDepth 100000

/-- The machine, beside other blocks 'F'. -/
def Mach (F H : AHeap) (bm : Nat) (t p : AV) (log : List Int) (fs : List Fault) (first : Int) : Prop :=
  ∃ (xl xf : AV) (H1 H2 : AHeap), F bm = none ∧ Grow rI 1 3 F H1 xl log ∧ Grow rFault 5 87 H1 H2 xf fs ∧ H2 bm = none ∧ H = H2.set bm ⟨5, 80, [[t, p, xl, xf, I first]]⟩
theorem one_grow {α : Type} {f : α → List AV} {sz : Nat} {ty : TypeId} {H0 H : AHeap} {x : AV} {l : List α} (hg : Grow f sz ty H0 H x l) : x.row = [x] ∧ x.one = true := by
  rcases hg with ⟨rfl, rfl, rfl⟩ | ⟨b, cl, hb, rfl, rfl⟩ <;> exact ⟨rfl, rfl⟩
theorem c_heapRaise (F H : AHeap) (bm : Nat) (t p : AV) (log : List Int) (fs : List Fault) (first : Int) (cls code : Int) (hM : Mach F H bm t p log fs first) (hl : fs.length < 1000000) :
    ACalls Tryz.prog 125 [.ptr bm 5 0 3, I cls, I code] H fun r H' => r = I fs.length ∧ Mach F H' bm t p log (fs ++ [⟨cls, code, -1, -1, false⟩]) first := by
  obtain ⟨xl, xf, H1, H2, hF, hg1, hg2, hb, rfl⟩ := hM
  have hH1 : H1 bm = none := by
    cases h : H1 bm with
    | none => rfl
    | some k => rw [grow_le hg2 bm k h] at hb; cases hb
  refine acalls_of0 Tryz.func125 rfl (by kernel_rfl) rfl rfl (awp_sound (fz := fun _ => []) (im := fun s => s == 15) mixed _ _ _ _ (by kernel_rfl) ?_)
  simp +contextual -dsimp -implicitDefEqProofs (maxSteps := 5000000) only [go_sem, reduceIte, reduceCtorEq, Nat.reduceEqDiff, Nat.reduceBEq, Nat.reduceAdd, Nat.reduceLeDiff, Nat.reduceMul, Nat.reduceLT, Int.reduceEq, Int.reduceLT, Int.reduceLE]
  refine grow_append (m := [⟨cls, code, -1, -1, false⟩]) te34 ti87 rFault_len (by decide) (grow_in hg2 hb) (by simp; omega) (by simp; omega) rfl fun x' H' hg' => ?_
  obtain ⟨H2', hg'', rfl, hb'⟩ := grow_out hg' hH1
  obtain ⟨r1, r2⟩ := one_grow hg''
  have hn := grow_len te34 hg''
  simp +contextual -dsimp -implicitDefEqProofs (maxSteps := 5000000) only [go_sem, reduceIte, reduceCtorEq, Nat.reduceEqDiff, Nat.reduceBEq, Nat.reduceAdd, Nat.reduceLeDiff, Nat.reduceMul, Nat.reduceLT, Int.reduceEq, Int.reduceLT, Int.reduceLE, r1, r2, hn]
  exact ⟨I_wrap (by simp) (by omega) (by omega), xl, x', H1, H2', hF, hg1, hg'', hb', rfl⟩

/-- Heaps as machines make them: contexts are older. -/
def heapOk (h : List Fault) : Prop := ∀ k, k < h.length → (h.getD k default).cause = -1 ∧ -1 ≤ (h.getD k default).ctx ∧ (h.getD k default).ctx < k
theorem walkG_mem {nx : Int → Int} {p : Int → Prop} (hp : ∀ a, 0 ≤ a → p a → p (nx a)) : ∀ (n : Nat) (out : List Int) (f : Int), p f → ∀ a, a ∈ walkG nx n out f → a ∈ out ∨ (0 ≤ a ∧ p a)
  | 0, out, f, _, a, ha => .inl ha
  | n + 1, out, f, hf, a, ha => by
    simp only [walkG] at ha
    split at ha
    · rename_i hc
      rcases walkG_mem hp n _ _ (hp f hc.1 hf) a ha with h | h
      · simp only [List.mem_append, List.mem_singleton] at h
        rcases h with h | rfl
        · exact .inl h
        · exact .inr ⟨hc.1, hf⟩
      · exact .inr h
    · exact .inl ha
theorem chainF_mem {h : List Fault} (ho : heapOk h) {g : Int} (hg : g < h.length) {a : Int} (ha : a ∈ chainF h g) : 0 ≤ a ∧ a ≤ g := by
  have hp : ∀ a : Int, 0 ≤ a → a ≤ g → ctxOf h a ≤ g := by
    intro a h0 h1
    have := ho a.toNat (by omega)
    unfold ctxOf
    omega
  rcases walkG_mem hp _ [] g (Int.le_refl g) a ha with h | h
  · cases h
  · exact h
theorem chainF_ne {h : List Fault} {g : Int} (h0 : 0 ≤ g) : chainF h g ≠ [] := by
  unfold chainF walkF
  have key : ∀ (n : Nat) (out : List Int) (f : Int), out ≠ [] → walkG (ctxOf h) n out f ≠ [] := by
    intro n
    induction n with
    | zero => intro out f h; exact h
    | succ n ih =>
      intro out f h
      simp only [walkG]
      split
      · exact ih _ _ (by simp)
      · exact h
  simp only [walkG]
  rw [if_pos ⟨h0, by simp⟩]
  exact key _ _ _ (by simp)

theorem c_while (F H : AHeap) (bm : Nat) (t p : AV) (log : List Int) (fs : List Fault) (first : Int) (f g : Int) (hM : Mach F H bm t p log fs first) (hl : fs.length < 1000000) (ho : heapOk fs) (hf : f = fs.length - 1) (hg0 : 0 ≤ g) (hg : g < f) :
    ACalls Tryz.prog 126 [.ptr bm 5 0 3, I f, I g] H fun r H' => r = .tup [] ∧ Mach F H' bm t p log (fs.set f.toNat { fs.getD f.toNat default with ctx := g }) first := by
  obtain ⟨xl, xf, H1, H2, hF, hg1, hg2, hb, rfl⟩ := hM
  obtain ⟨cl0, hz⟩ := grow_froz (grow_in (c := bm) (K := ⟨5, 80, [[t, p, xl, xf, I first]]⟩) hg2 hb)
  refine acalls_of0 Tryz.func126 rfl (by kernel_rfl) rfl rfl (awp_sound (fz := fun _ => []) (im := fun _ => false) mixed _ _ _ _ (by kernel_rfl) ?_)
  have hfg : ¬ f = g := by omega
  simp +contextual -dsimp -implicitDefEqProofs (maxSteps := 5000000) only [go_sem, reduceIte, reduceCtorEq, Nat.reduceEqDiff, Nat.reduceBEq, Nat.reduceAdd, Nat.reduceLeDiff, Nat.reduceMul, Nat.reduceLT, Int.reduceEq, Int.reduceLT, Int.reduceLE, hfg]
  refine acalls_frz (acalls_borrowG [.agg [.vsl (fs.map rFault) cl0], I g] (.cons (.agg rfl ?_) (.cons (.same _) .nil)) (c_contexts fs cl0 g _ (by omega) (by omega) ?_) (fun x => rfl) (chainF_ne hg0) fun r H' h => h) fun cl => ?_
  · intro i c c' h1 h2
    cases i with
    | zero => simp at h1 h2; subst h1; subst h2; exact hz
    | succ i => simp at h1
  · intro k hk; have := ho k hk; omega
  · simp +contextual -dsimp -implicitDefEqProofs (maxSteps := 5000000) only [go_sem, reduceIte, reduceCtorEq, Nat.reduceEqDiff, Nat.reduceBEq, Nat.reduceAdd, Nat.reduceLeDiff, Nat.reduceMul, Nat.reduceLT, Int.reduceEq, Int.reduceLT, Int.reduceLE]
    rcases hg2 with ⟨e, _, _⟩ | ⟨bf, clf, hbf, rfl, rfl⟩
    · rw [e] at hf; simp at hf; omega
    have hb' := hb
    rw [set_none] at hb'
    obtain ⟨n1, n2, hH1⟩ := hb'
    have hbK : ((H1.set bf ⟨5, 87, fs.map rFault⟩).set bm ⟨5, 80, [[t, p, xl, .sl bf 5 0 fs.length clf, I first]]⟩) bf = some ⟨5, 87, fs.map rFault⟩ := by
      rw [set_other n2, AHeap.set_self]
    generalize hHH : (H1.set bf ⟨5, 87, fs.map rFault⟩).set bm ⟨5, 80, [[t, p, xl, .sl bf 5 0 fs.length clf, I first]]⟩ = HH at hbK ⊢
    have hld : ∀ (t : TypeId) (i j : Nat), ldA Tryz.prog HH t (.ptr bf 5 i j) = if i < fs.length then ldRow Tryz.prog t (rFault (fs.getD i default)) j else none := fun t i j => ldp hbK
    have hlm : ∀ (t' : TypeId) (j : Nat), ldA Tryz.prog HH t' (.ptr bm 5 0 j) = ldRow Tryz.prog t' [t, p, xl, .sl bf 5 0 fs.length clf, I first] j := fun t' j => by rw [← hHH]; exact ld1s
    have hmem := fun a => @chainF_mem fs ho g (by omega) a
    generalize chainF fs g = L at hmem ⊢
    refine sim_len (t := 15) rfl fun hlen => ?_
    rw [List.length_map] at hlen
    refine aloop mixed (fz := fun _ => []) (im := fun _ => false) (by kernel_rfl) (fun m tm H' => ∃ k : Nat, m = L.length - k ∧ k ≤ L.length ∧ H' = HH ∧ tm 0 = .ptr bm 5 0 3 ∧ tm 1 = I f ∧ tm 2 = I g ∧ tm 15 = .vsl (L.map rI) cl ∧ tm 16 = I L.length ∧ tm 17 = I k) L.length ⟨0, ?_⟩ ?_
    · simp +contextual -dsimp -implicitDefEqProofs (maxSteps := 5000000) only [go_sem, reduceIte, reduceCtorEq, Nat.reduceEqDiff, Nat.reduceBEq, Nat.reduceAdd, Nat.reduceLeDiff, Nat.reduceMul, Nat.reduceLT, Int.reduceEq, Int.reduceLT, Int.reduceLE]
      simp
    · rintro m tm _ ⟨k, rfl, hk, rfl, h0, h1, h2, h15, h16, h17⟩
      simp +contextual -dsimp -implicitDefEqProofs (maxSteps := 5000000) only [go_sem, reduceIte, reduceCtorEq, Nat.reduceEqDiff, Nat.reduceBEq, Nat.reduceAdd, Nat.reduceLeDiff, Nat.reduceMul, Nat.reduceLT, Int.reduceEq, Int.reduceLT, Int.reduceLE, h0, h1, h2, h15, h16, h17, hld, hlm]
      refine ⟨fun h => ?_, fun h => ⟨by omega, ?_⟩⟩
      · have hx := hmem (L.getD k default) (by rw [List.getD_eq_getElem?_getD, List.getElem?_eq_getElem h]; exact List.getElem_mem h)
        have hc := ho (L.getD k default).toNat (by omega)
        exact ⟨by omega, by omega, fun q => by omega, fun _ => ⟨_, by omega, k + 1, rfl, h, I_wrap (by omega) (by omega) (by omega)⟩⟩
      · rw [wrP hbK (y := { fs.getD f.toNat default with ctx := g }) (by omega) rfl]
        refine ⟨xl, .sl bf 5 0 fs.length clf, H1, H1.set bf ⟨5, 87, (fs.set f.toNat { fs.getD f.toNat default with ctx := g }).map rFault⟩, hF, hg1, .inr ⟨bf, clf, hbf, by rw [List.length_set], rfl⟩, ?_, ?_⟩
        · rw [set_other n1]; exact hH1
        · rw [← hHH, set_comm n1, set_set]

theorem heapOk_snoc {fs : List Fault} (h : heapOk fs) {x : Fault} (h1 : x.cause = -1) (h2 : -1 ≤ x.ctx) (h3 : x.ctx < fs.length) : heapOk (fs ++ [x]) := by
  intro k hk
  rcases Nat.lt_or_ge k fs.length with q | q
  · have e : (fs ++ [x]).getD k default = fs.getD k default := by
      rw [List.getD_eq_getElem?_getD, List.getD_eq_getElem?_getD, List.getElem?_append_left q]
    rw [e]; exact h k q
  · have : k = fs.length := by simp at hk; omega
    subst this
    have e : (fs ++ [x]).getD fs.length default = x := by simp [List.getD_eq_getElem?_getD]
    rw [e]; exact ⟨h1, h2, h3⟩
theorem heapOk_nil : heapOk [] := fun k hk => by simp at hk
/-- A new fault, raised while another one is handled, if there is one. -/
def raiseF (fs : List Fault) (cls code g : Int) : List Fault := fs ++ [⟨cls, code, -1, if 0 ≤ g then g else -1, false⟩]
theorem raiseF_ok {fs : List Fault} (h : heapOk fs) {cls code g : Int} (hg : g < fs.length) : heapOk (raiseF fs cls code g) := by
  refine heapOk_snoc h rfl ?_ ?_ <;> (simp only; split <;> omega)
theorem raiseF_len {fs : List Fault} {cls code g : Int} : (raiseF fs cls code g).length = fs.length + 1 := by simp [raiseF]
theorem c_raise (F H : AHeap) (bm : Nat) (t p : AV) (log : List Int) (fs : List Fault) (first : Int) (cls code g : Int) (hM : Mach F H bm t p log fs first) (hl : fs.length < 999999) (ho : heapOk fs) (hg : g < fs.length) :
    ACalls Tryz.prog 116 [.ptr bm 5 0 0, I cls, I code, I g] H fun r H' => r = I fs.length ∧ Mach F H' bm t p log (raiseF fs cls code g) first := by
  refine acalls_of0 Tryz.func116 rfl (by kernel_rfl) rfl rfl (awp_sound (fz := fun _ => []) (im := fun _ => false) mixed _ _ _ _ (by kernel_rfl) ?_)
  simp +contextual -dsimp -implicitDefEqProofs (maxSteps := 5000000) only [go_sem, reduceIte, reduceCtorEq, Nat.reduceEqDiff, Nat.reduceBEq, Nat.reduceAdd, Nat.reduceLeDiff, Nat.reduceMul, Nat.reduceLT, Int.reduceEq, Int.reduceLT, Int.reduceLE]
  refine (c_heapRaise F H bm t p log fs first cls code hM (by omega)).mono ?_
  rintro _ H' ⟨rfl, hM'⟩
  by_cases h0 : 0 ≤ g
  · simp +contextual -dsimp -implicitDefEqProofs (maxSteps := 5000000) only [go_sem, reduceIte, reduceCtorEq, Nat.reduceEqDiff, Nat.reduceBEq, Nat.reduceAdd, Nat.reduceLeDiff, Nat.reduceMul, Nat.reduceLT, Int.reduceEq, Int.reduceLT, Int.reduceLE, h0]
    refine (c_while F H' bm t p log _ first fs.length g hM' (by simp; omega) (heapOk_snoc ho rfl (by simp) (by simp; omega)) (by simp) h0 hg).mono ?_
    rintro _ H'' ⟨rfl, hM''⟩
    simp +contextual -dsimp -implicitDefEqProofs (maxSteps := 5000000) only [go_sem, reduceIte, reduceCtorEq, Nat.reduceEqDiff, Nat.reduceBEq, Nat.reduceAdd, Nat.reduceLeDiff, Nat.reduceMul, Nat.reduceLT, Int.reduceEq, Int.reduceLT, Int.reduceLE, h0]
    have e : (fs ++ [(⟨cls, code, -1, -1, false⟩ : Fault)]).set ((fs.length : Int)).toNat { (fs ++ [(⟨cls, code, -1, -1, false⟩ : Fault)]).getD ((fs.length : Int)).toNat default with ctx := g } = raiseF fs cls code g := by
      simp [raiseF, h0, List.getD_eq_getElem?_getD]
    rw [e] at hM''
    exact hM''
  · simp +contextual -dsimp -implicitDefEqProofs (maxSteps := 5000000) only [go_sem, reduceIte, reduceCtorEq, Nat.reduceEqDiff, Nat.reduceBEq, Nat.reduceAdd, Nat.reduceLeDiff, Nat.reduceMul, Nat.reduceLT, Int.reduceEq, Int.reduceLT, Int.reduceLE, h0]
    have e : fs ++ [(⟨cls, code, -1, -1, false⟩ : Fault)] = raiseF fs cls code g := by simp [raiseF, h0]
    rw [← e]; exact hM'
end
section
open Go Go.Sim
set_option maxRecDepth 100000

theorem c_machineOf (t : List Class) (cl : Bool) (F : AHeap) (es : List (List AV)) (cl' : Bool) : ACalls Tryz.prog 44 [aTree t cl, .vsl es cl'] F fun r H' => ∃ bm, r = .ptr bm 5 0 0 ∧ Mach F H' bm (.vsl (t.map rClass) cl) (.vsl es cl') [] [] (-1) := by
  refine acalls_of0 Tryz.func44 rfl (by kernel_rfl) rfl rfl (awp_sound (fz := fun _ => []) (im := fun s => s == 2) mixed _ _ _ _ (by kernel_rfl) ?_)
  simp +contextual -dsimp -implicitDefEqProofs (maxSteps := 5000000) only [go_sem, reduceIte, reduceCtorEq, Nat.reduceEqDiff, Nat.reduceBEq, Nat.reduceAdd, Nat.reduceLeDiff, Nat.reduceMul, Nat.reduceLT, Int.reduceEq, Int.reduceLT, Int.reduceLE]
  intro b hb
  exact ⟨b, rfl, .vsl [] true, .vsl [] true, F, F, hb, grow_nil, grow_nil, hb, rfl⟩
end
section
open Go Go.Sim
set_option maxRecDepth 100000
def dchG (h : List Fault) : Nat → Int → List Int
  | 0, _ => []
  | n + 1, f => if 0 ≤ f then f :: dchG h n (ctxOf h f) else []
/-- A fault and its contexts, each older than the one ahead of it. -/
def dchF (h : List Fault) (f : Int) : List Int := dchG h (f + 1).toNat f
theorem dchG_neg {h : List Fault} {n : Nat} {f : Int} (hf : f < 0) : dchG h n f = [] := by
  cases n with
  | zero => rfl
  | succ n => simp only [dchG]; rw [if_neg (by omega)]
theorem dchG_eq {h : List Fault} (ho : heapOk h) : ∀ (n m : Nat) (f : Int), f < h.length → f < n → f < m → dchG h n f = dchG h m f
  | 0, m, f, _, h1, _ => by rw [dchG_neg (by omega), dchG_neg (by omega)]
  | n + 1, 0, f, _, _, h2 => by rw [dchG_neg (by omega), dchG_neg (by omega)]
  | n + 1, m + 1, f, h0, h1, h2 => by
    simp only [dchG]
    split
    · have := ho f.toNat (by omega)
      unfold ctxOf
      rw [dchG_eq ho n m _ (by omega) (by omega) (by omega)]
    · rfl
theorem dchF_step {h : List Fault} (ho : heapOk h) {f : Int} (h0 : 0 ≤ f) (h1 : f < h.length) : dchF h f = f :: dchF h (ctxOf h f) := by
  have := ho f.toNat (by omega)
  have e : (f + 1).toNat = f.toNat + 1 := by omega
  simp only [dchF, e, dchG]
  rw [if_pos h0]
  have : ctxOf h f < f := by unfold ctxOf; omega
  exact congrArg _ (dchG_eq ho _ _ _ (by omega) (by omega) (by omega))
theorem dchF_neg {h : List Fault} {f : Int} (hf : f < 0) : dchF h f = [] := dchG_neg hf
end
section
open Go Go.Sim
set_option maxRecDepth 100000

/-- A number put to its place in an ascending list. -/
def insK (out : List Int) (v : Int) : Nat := (out.takeWhile fun x => decide (x < v)).length
def insF (out : List Int) (v : Int) : List Int := if insK out v = out.length ∨ out.getD (insK out v) default ≠ v then out.take (insK out v) ++ [v] ++ out.drop (insK out v) else out
def sortedF (l : List Int) : List Int := l.foldl insF []
end
section
open Go Go.Sim
set_option maxRecDepth 100000

def isoAt (h : List Fault) (list : List Int) (g : Int) : Fault :=
  { h.getD g.toNat default with cause := idxF (fun x => decide ((h.getD g.toNat default).cause = x)) list, ctx := idxF (fun x => decide ((h.getD g.toNat default).ctx = x)) list }
def isoL (h : List Fault) (list : List Int) : List Fault := list.map (isoAt h list)
end
section
open Go Go.Sim
set_option maxRecDepth 100000

structure Clo where
  log : List Int
  fs : List Fault
  cur : Int
def isF (t : List Class) (a b : Int) : Bool := (aboveF t a).any fun x => decide (b = x)
def stepX (t : List Class) (s : Clo) (e : Exi) : Clo :=
  if e.kind = 0 then { s with log := s.log ++ [e.a] }
  else if e.kind = 1 then (if 0 ≤ s.cur then { s with log := s.log ++ [e.a] } else s)
  else if e.kind = 2 then (if 0 ≤ s.cur ∧ isF t (s.fs.getD s.cur.toNat default).cls e.a = true then { s with cur := -1 } else s)
  else if e.kind = 3 then { s with fs := raiseF s.fs e.a e.b s.cur, cur := s.fs.length } else s
end
section
open Go Go.Sim
set_option maxRecDepth 100000

/-- What holds of what exits have done. -/
structure CloOk (t : List Class) (s : Clo) (n : Nat) : Prop where
  ho : heapOk s.fs
  cur : s.cur < s.fs.length
  len : s.fs.length ≤ n + 1
  log : s.log.length ≤ n
  cls : ∀ k, k < s.fs.length → 0 ≤ (s.fs.getD k default).cls ∧ (s.fs.getD k default).cls < t.length
theorem hasF_spec {t : List Class} {a : Int} (h : hasF t a = true) : 0 ≤ a ∧ a < t.length := by
  simp only [hasF, inR, Bool.and_eq_true, decide_eq_true_eq] at h
  omega
theorem raiseF_at {fs : List Fault} {c d g : Int} {k : Nat} (hk : k < (raiseF fs c d g).length) : (k < fs.length ∧ (raiseF fs c d g).getD k default = fs.getD k default) ∨ (k = fs.length ∧ ((raiseF fs c d g).getD k default).cls = c) := by
  rw [raiseF_len] at hk
  unfold raiseF
  rcases Nat.lt_or_ge k fs.length with q | q
  · left; refine ⟨q, ?_⟩
    rw [List.getD_eq_getElem?_getD, List.getD_eq_getElem?_getD, List.getElem?_append_left q]
  · right
    have : k = fs.length := by omega
    subst this
    refine ⟨rfl, ?_⟩
    simp [List.getD_eq_getElem?_getD]
theorem CloOk.raise {t : List Class} {s : Clo} {n : Nat} (h : CloOk t s n) {c d : Int} (hc : hasF t c = true) : CloOk t { s with fs := raiseF s.fs c d s.cur, cur := s.fs.length } (n + 1) := by
  refine ⟨raiseF_ok h.ho h.cur, by simp only [raiseF_len]; omega, by simp only [raiseF_len]; have := h.len; omega, Nat.le_succ_of_le h.log, fun k hk => ?_⟩
  rcases raiseF_at hk with ⟨q1, q2⟩ | ⟨q1, q2⟩
  · simp only [q2]; exact h.cls k q1
  · simp only [q2]; exact hasF_spec hc
theorem CloOk.step {t : List Class} {s : Clo} {n : Nat} (h : CloOk t s n) {e : Exi} (he : exitOk t e = true) : CloOk t (stepX t s e) (n + 1) := by
  unfold stepX
  have wk : CloOk t s (n + 1) := ⟨h.ho, h.cur, Nat.le_succ_of_le h.len, Nat.le_succ_of_le h.log, h.cls⟩
  have lg : CloOk t { s with log := s.log ++ [e.a] } (n + 1) := ⟨h.ho, h.cur, Nat.le_succ_of_le h.len, by simp; exact h.log, h.cls⟩
  split
  · exact lg
  split
  · split
    · exact lg
    · exact wk
  split
  · split
    · exact ⟨h.ho, by show (-1 : Int) < _; omega, Nat.le_succ_of_le h.len, Nat.le_succ_of_le h.log, h.cls⟩
    · exact wk
  split
  · rename_i h0 h1 h2 h3
    apply h.raise
    unfold exitOk at he
    simp only [h3] at he
    simp at he
    exact he.1
  · exact wk
end
section
open Go Go.Sim
set_option maxRecDepth 100000

section
variable {F H : AHeap} {bm c : Nat} {t p : AV} {log : List Int} {fs : List Fault} {first : Int} {K : ABlk}
theorem mach_in (hM : Mach F H bm t p log fs first) (hc : H c = none) : Mach (F.set c K) (H.set c K) bm t p log fs first := by
  obtain ⟨xl, xf, H1, H2, hF, hg1, hg2, hb, rfl⟩ := hM
  rw [set_none] at hc
  have h1 := grow_none hg2 hc.2.2
  refine ⟨xl, xf, H1.set c K, H2.set c K, by rw [set_other (Ne.symm hc.1)]; exact hF, grow_in hg1 h1, grow_in hg2 hc.2.2, by rw [set_other (Ne.symm hc.1)]; exact hb, set_comm (Ne.symm hc.1)⟩
theorem mach_out (hM : Mach (F.set c K) H bm t p log fs first) (hc : F c = none) : ∃ H', H = H'.set c K ∧ Mach F H' bm t p log fs first ∧ H' c = none := by
  obtain ⟨xl, xf, H1, H2, hF, hg1, hg2, hb, rfl⟩ := hM
  obtain ⟨G1, k1, rfl, k2⟩ := grow_out hg1 hc
  obtain ⟨G2, k3, rfl, k4⟩ := grow_out hg2 k2
  rw [set_none] at hF hb
  refine ⟨G2.set bm ⟨5, 80, [[t, p, xl, xf, I first]]⟩, set_comm hF.2.1, ⟨xl, xf, G1, G2, hF.2.2, k1, k3, hb.2.2, rfl⟩, ?_⟩
  rw [set_other hF.2.1]; exact k4
theorem mach_none (hM : Mach F H bm t p log fs first) (hc : H c = none) : F c = none := by
  obtain ⟨xl, xf, H1, H2, hF, hg1, hg2, hb, rfl⟩ := hM
  rw [set_none] at hc
  exact grow_none hg1 (grow_none hg2 hc.2.2)
variable {xl xf : AV} {H1 H2 : AHeap} {M C : ABlk} {a : Int} {cl : Bool} {Kt : AV → AHeap → Prop}
theorem mach_app1 {g : Tag ((H2.set bm M).set c C, Kt)} (hg1 : Grow rI 1 3 F H1 xl log) (hg2 : Grow rFault 5 87 H1 H2 xf fs) (hb : H2 bm = none) (hcb : c ≠ bm) (hc : H2 c = none) (hl : log.length < 1000000)
    (k : ∀ x' G G1, Grow rI 1 3 F G1 x' (log ++ [a]) → Grow rFault 5 87 G1 G xf fs → G bm = none → G c = none → x'.row = [x'] ∧ x'.one = true → Kt x' ((G.set bm M).set c C)) :
    appT Tryz.prog ((H2.set bm M).set c C) 33 xl (.vsl [[I a]] cl) Kt g := by
  obtain ⟨H1', hf', hl'⟩ := grow_swap hg1 hg2
  refine grow_append (m := [a]) te33 ti3 rI_len (by decide) (grow_in (grow_in hl' hb) (by rw [set_other hcb]; exact hc)) (by simp; omega) (by simp; omega) rfl fun x' H' hg' => ?_
  obtain ⟨G', k1, rfl, k2⟩ := grow_out hg' (by rw [set_other hcb]; exact grow_none hl' hc)
  obtain ⟨G, k3, rfl, k4⟩ := grow_out k1 (grow_none hl' hb)
  obtain ⟨G1, k5, k6⟩ := grow_swap hf' k3
  rw [set_other hcb] at k2
  exact k x' G G1 k5 k6 k4 k2 (one_grow k5)
end
end
end
section
set_option maxRecDepth 100000
attribute [local go_sem ↓] aw_skip aw_ret aw_exit aw_region aw_draw aw_seq aw_block aw_loop aw_cond frz_nil frz_cons sq_normal sq_ret sq_exit exB_normal exB_ret exB_same exB_other retQ_ret retQ_normal ret0_ret ret0_normal ao_nil go1 g_move g_assign g_pick g_build g_load g_binOp g_unOp g_convert g_fieldAddr g_field g_indexAddr g_index g_extract g_lookup g_slice g_nilCheck g_len g_makeFunc h_call h_append h_alloc h_box h_buildSlice h_makeSlice h_store gV i_box i_buildSlice i_move i_assign i_build i_load i_binOp i_unOp i_convert i_fieldAddr i_field i_indexAddr i_index i_extract i_lookup i_makeMap i_mapUpdate i_slice i_nilCheck i_makeFunc i_len i_max i_min i_alloc i_makeSlice i_store i_append i_call i_pick boxI boxA buildSliceI buildSliceA makeSliceA makeMapA allocA storeA p_move p_assign p_pick p_build p_load p_binOp p_unOp p_convert p_fieldAddr p_field p_indexAddr p_index p_extract p_lookup p_makeMap p_mapUpdate p_slice p_nilCheck p_makeFunc p_len p_max p_min p_alloc p_box p_buildSlice p_makeSlice p_store p_append p_call x_nil x_go1 x_g0 x_g1 x_g2 x_g3 x_s0 x_s1 x_s2 x_s3 u_move u_assign u_pick u_build u_load u_binOp u_unOp u_convert u_fieldAddr u_field u_indexAddr u_index u_extract u_lookup u_slice u_nilCheck u_makeFunc u_len u_buildSlice x_s4 x_g4 rq_normal rq_ret rq_exit aw_range
attribute [local go_sem] frzV_sl frzK_some set_none set_other AHeap.set_self set_del set_set cnd_t cnd_f cnd_b retA_one retA_two retA_three retA_four retA_nil gIf_b mrgV_b mrgV_wh mrgV_U gIf_U gIf_wh mrgB_f mrgB_some mrgB_if wh_true wh_false keepA_some keepA_if gD_zero gD_succ gT_some bxA_t bxA_f callA_fn ev_tmp ev_const ev_global ev_func oc_bool oc_int oc_string oc_nil oc_nilptr oc_nilfunc cl_bool cl_int cl_string cl_nil updO_some updO_none upd_same upd_other init_at pickA_b pickA_wh selA_t selA_f selA_and selA_or selA_orn selA_orm selA_bb selA_ii beqt b_add b_sub b_mul b_and b_or b_xor b_eql b_neq b_lss b_leq b_gtr b_geq b_quo b_rem b_shr b_seql b_sneq b_sadd b_beql b_bneq b_aeql b_aneq u_not u_neg isConstOp eqA eqCellV List.getD_cons_zero List.getD_cons_succ List.map_cons List.map_nil List.nil_append List.cons_append List.append_nil if_true if_false Option.map_some Option.map_none ne_eq not_false_eq_true oneA ldv ld1v ld1s wr1s ldRow stRow row_lit row_agg row_vsl row_sl row_ptr row_fn one_I one_B one_S one_vsl one_sl one_ptr one_fn extractA okA rI rS rU rClass rFault rExit rStart rLine Int.toNat_natCast List.length_cons List.length_nil List.length_map List.all_cons List.all_nil Bool.and_true Nat.zero_add List.getElem?_cons_zero List.getElem?_cons_succ List.take_succ_cons List.take_zero List.drop_succ_cons List.drop_zero and_self true_and and_true implies_true decide_eq_true_eq decide_eq_false_iff_not Bool.or_eq_true Bool.or_eq_false_iff Bool.and_eq_true Bool.not_eq_true' Bool.not_eq_false' beq_false decide_true decide_false Int.ofNat_lt Int.ofNat_le Int.natCast_nonneg Bool.or_true Bool.or_false Bool.true_or Bool.false_or beq_self_eq_true List.drop_one Bool.not_true Bool.not_false Bool.not_not Bool.false_eq_true Bool.true_eq_false false_implies true_implies Bool.true_and Bool.false_and Bool.and_false not_true_eq_false Int.natCast_eq_zero Int.natCast_pos Int.natCast_zero false_and and_false or_false false_or or_true true_or Bool.or_self none_le_iff List.replicate_zero Int.toNat_zero List.replicate_succ buildRows List.set_cons_zero List.set_cons_succ List.set_nil List.mapM_nil maxLen_eq Nat.zero_le Nat.mul_one Nat.one_mul bldA fillA spliceA List.take_nil List.drop_nil List.getElem?_nil ld1o wr1o bldSliceA le_same cv_i cvI_t quietT_fn qvd_some ld_o ldO_1 ldO_l wr_o wrO_1 set_2 set_3 set_4 putL_nil putL_cons List.zip_cons_cons List.zip_nil_left List.zip_nil_right List.toList_toArray frzV_set ti1 ti2 tk2 ti3 te3 ts3 tk3 tz3 ti4 tb4 ti5 tk5 tz5 ti9 te9 ts9 tk9 tz9 ti12 tk12 ti13 tp13 tf13_0 tf13_1 ti20 ti21 tk21 tz21 ti22 te22 tz22 ti23 te23 ti24 tp24 tf24_0 ti25 tp25 tf25_0 ti26 te26 ti28 ti29 ti30 ti31 ti32 ti33 te33 ti34 te34 ti35 tp35 tf35_0 ti36 tp36 tf36_0 ti37 tp37 tf37_0 tf37_1 tf37_2 tf37_3 ti38 tp38 tf38_0 tf38_1 tf38_2 tf38_3 ti39 ti40 ti41 ti42 ti43 tq43 tp43 tf43_0 tf43_1 tf43_2 tf43_3 ti44 tq44 tp44 tf44_0 tf44_1 tf44_2 tf44_3 ti45 ti46 ti47 ti48 ti49 ti50 ti51 tq51 tp51 tf51_0 tf51_1 tf51_2 ti52 tq52 tp52 tf52_0 tf52_1 tf52_2 ti54 ti55 ti56 ti57 ti58 ti59 ti60 ti61 ti62 ti63 ti64 ti65 ti66 ti67 ti68 ti69 ti70 tq70 tp70 tf70_0 tf70_1 ti71 tq71 tp71 tf71_0 tf71_1 ti72 ti73 ti74 ti75 ti76 ti77 ti78 ti79 tp79 tf79_0 tf79_1 tf79_2 tf79_3 tf79_4 ti80 tp80 tf80_0 tf80_1 tf80_2 tf80_3 tf80_4 ti81 ti83 ti84 ti85 ti86 tq86 tp86 tf86_0 tf86_1 tf86_2 tf86_3 tf86_4 ti87 tq87 tp87 tf87_0 tf87_1 tf87_2 tf87_3 tf87_4 ti88 ti89 ti90 ti91 ti92 tp92 tf92_0 tf92_1 ti93 tp93 tf93_0 tf93_1 ti94 ti95 ti96 ti97 tq97 tp97 tf97_0 tf97_1 ti98 tq98 tp98 tf98_0 tf98_1 ti99 ti100 ti101 ti103 ti104 ti105 ti106 ti107 ti108 ti109 ti110 ti111 te111 ti112 ti113 ti114 ti115 ti116 ti117 ti118 ti119 ti120 ti121 ti122 ti123 ti124 ti125 ti126 ti127 tk127 tz127 ti128 ti129 ti130 tk130 ti132 ti133 ti134 ti136 ti137 ti138 tk138 tz138 ti139 ti140 tk140 tz140 ti141 tk141 ti142 ti143 ti144 ti145 ti146 ti147 ti148 ti149 ti155 ti159 fp13_0 fv13_0 fp13_1 fv13_1 fp24_0 fv24_0 fp25_0 fv25_0 fp35_0 fv35_0 fp36_0 fv36_0 fp37_0 fv37_0 fp37_1 fv37_1 fp37_2 fv37_2 fp37_3 fv37_3 fp38_0 fv38_0 fp38_1 fv38_1 fp38_2 fv38_2 fp38_3 fv38_3 fp43_0 fv43_0 fp43_1 fv43_1 fp43_2 fv43_2 fp43_3 fv43_3 fp44_0 fv44_0 fp44_1 fv44_1 fp44_2 fv44_2 fp44_3 fv44_3 fp51_0 fv51_0 fp51_1 fv51_1 fp51_2 fv51_2 fp52_0 fv52_0 fp52_1 fv52_1 fp52_2 fv52_2 fp70_0 fv70_0 fp70_1 fv70_1 fp71_0 fv71_0 fp71_1 fv71_1 fp79_0 fv79_0 fp79_1 fv79_1 fp79_2 fv79_2 fp79_3 fv79_3 fp79_4 fv79_4 fp80_0 fv80_0 fp80_1 fv80_1 fp80_2 fv80_2 fp80_3 fv80_3 fp80_4 fv80_4 fp86_0 fv86_0 fp86_1 fv86_1 fp86_2 fv86_2 fp86_3 fv86_3 fp86_4 fv86_4 fp87_0 fv87_0 fp87_1 fv87_1 fp87_2 fv87_2 fp87_3 fv87_3 fp87_4 fv87_4 fp92_0 fv92_0 fp92_1 fv92_1 fp93_0 fv93_0 fp93_1 fv93_1 fp97_0 fv97_0 fp97_1 fv97_1 fp98_0 fv98_0 fp98_1 fv98_1 lv22 ll22 is22 ix22 sh22 so22 sb22 sm22 sp22 lv23 ll23 is23 ix23 sh23 so23 sb23 sm23 sp23 lv26 ll26 is26 ix26 sh26 so26 sb26 sm26 sp26 lv33 ll33 is33 ix33 sh33 so33 sb33 sm33 sp33 lv34 ll34 is34 ix34 sh34 so34 sb34 sm34 sp34 lv111 ll111 is111 ix111 sh111 so111 sb111 sm111 sp111 xs9 ls9 sx9 sy9 sz9
section
open Go Go.Sim
set_option maxRecDepth 100000

theorem c_Sort (H : AHeap) (b : Nat) (ty : TypeId) (l : List Int) (cl : Bool) {Q : AV → AHeap → Prop} (hb : H b = some ⟨1, ty, l.map rI⟩) (hl : l.length < 4611686018427387904) (k : Q (.tup []) (H.set b ⟨1, ty, (sortI l).map rI⟩)) :
    ACalls Tryz.prog 124 [.sl b 1 0 l.length cl] H Q :=
  acalls_sort (by kernel_rfl) Tryz.slices_Sort_int hb hl k
theorem c_SortG (H0 H : AHeap) (x : AV) (l : List Int) (hg : Grow rI 1 3 H0 H x l) (hn : l ≠ []) (hl : l.length < 4611686018427387904) :
    ACalls Tryz.prog 124 [x] H fun r H' => r = .tup [] ∧ Grow rI 1 3 H0 H' x (sortI l) := by
  rcases hg with ⟨e, _, _⟩ | ⟨b, cl, hb, rfl, rfl⟩
  · exact absurd e hn
  · refine c_Sort _ b 3 l cl (AHeap.set_self ..) hl ⟨rfl, .inr ⟨b, cl, hb, by rw [sortI_len], set_set⟩⟩

def causeOf (h : List Fault) (a : Int) : Int := (h.getD a.toNat default).cause
/-- A link's end put to what is there, if it is new. -/
def addF (out : List Int) (g : Int) : List Int := if 0 ≤ g ∧ (out.any fun x => decide (g = x)) = false then out ++ [g] else out
def bfsG (h : List Fault) : Nat → Nat → List Int → List Int
  | 0, _, out => out
  | n + 1, i, out => if i < out.length then bfsG h n (i + 1) (addF (addF out (causeOf h (out.getD i default))) (ctxOf h (out.getD i default))) else out
def bfsF (h : List Fault) (f : Int) : List Int := bfsG h (h.length + 1) 0 [f]
/-- Numbers of a heap, each once. -/
structure Nums (n : Nat) (out : List Int) : Prop where
  mem : ∀ a ∈ out, 0 ≤ a ∧ a < n
  free : freeN n out + out.length ≤ n
theorem Nums.add {n : Nat} {out : List Int} (h : Nums n out) {g : Int} (hg : g < n) : Nums n (addF out g) := by
  unfold addF
  split
  · rename_i hc
    refine ⟨fun a ha => ?_, ?_⟩
    · rcases List.mem_append.1 ha with q | q
      · exact h.mem a q
      · simp at q; subst q; exact ⟨hc.1, hg⟩
    · have := freeN_lt hc.1 hg hc.2
      have := h.free
      simp; omega
  · exact h
theorem Nums.one {n : Nat} {f : Int} (h0 : 0 ≤ f) (h1 : f < n) : Nums n [f] := by
  refine ⟨fun a ha => by simp at ha; subst ha; exact ⟨h0, h1⟩, ?_⟩
  have := freeN_lt (out := []) h0 h1 rfl
  have := freeN_nil n
  simp at *; omega
theorem addF_len (out : List Int) (g : Int) : out.length ≤ (addF out g).length := by
  unfold addF; split <;> simp

theorem c_mreach (h : List Fault) (cl : Bool) (f : Int) (H : AHeap) (hl : h.length ≤ 1000000) (h0 : 0 ≤ f) (h1 : f < h.length) (hlk : ∀ k, k < h.length → (h.getD k default).cause < h.length ∧ (h.getD k default).ctx < h.length) :
    ACalls Tryz.prog 113 [aHeap h cl, I f] H fun r H' => Grow rI 1 3 H H' r (sortI (bfsF h f)) := by
  refine acalls_of0 Tryz.func113 rfl (by kernel_rfl) rfl rfl (awp_sound (fz := fun _ => []) (im := fun s => s == 2 || s == 51) mixed _ _ _ _ (by kernel_rfl) ?_)
  simp +contextual -dsimp -implicitDefEqProofs (maxSteps := 5000000) only [go_sem, reduceIte, reduceCtorEq, Nat.reduceEqDiff, Nat.reduceBEq, Nat.reduceAdd, Nat.reduceLeDiff, Nat.reduceMul, Nat.reduceLT, Int.reduceEq, Int.reduceLT, Int.reduceLE]
  intro b5 hb5
  refine aloop mixed (fz := fun _ => []) (im := fun s => s == 2 || s == 51) (by kernel_rfl) (fun m tm H' => ∃ (i : Nat) (out : List Int) (x : AV), m = h.length + 1 - i ∧ i ≤ out.length ∧ Nums h.length out ∧ out ≠ [] ∧ Grow rI 1 3 H H' x out ∧ tm 2 = .vptr [[.vsl (h.map rFault) cl]] 0 0 ∧ tm 5 = x ∧ tm 6 = I i ∧ bfsG h (h.length + 1 - i) i out = bfsF h f) (h.length + 1) ⟨0, [f], .sl b5 1 0 1 true, rfl, by simp, Nums.one h0 h1, by simp, .inr ⟨b5, true, hb5, rfl, rfl⟩, ?_⟩ ?_
  · simp +contextual -dsimp -implicitDefEqProofs (maxSteps := 5000000) only [go_sem, reduceIte, reduceCtorEq, Nat.reduceEqDiff, Nat.reduceBEq, Nat.reduceAdd, Nat.reduceLeDiff, Nat.reduceMul, Nat.reduceLT, Int.reduceEq, Int.reduceLT, Int.reduceLE]
    rfl
  · rintro m tm H' ⟨i, out, x, rfl, hi, hn, hne, hg, t2, t5, t6, he⟩
    have hlen := grow_len te33 hg
    have hol : out.length ≤ h.length := by have := hn.free; omega
    simp +contextual -dsimp -implicitDefEqProofs (maxSteps := 5000000) only [go_sem, reduceIte, reduceCtorEq, Nat.reduceEqDiff, Nat.reduceBEq, Nat.reduceAdd, Nat.reduceLeDiff, Nat.reduceMul, Nat.reduceLT, Int.reduceEq, Int.reduceLT, Int.reduceLE, t2, t5, t6, hlen]
    refine ⟨fun hlt => ?_, fun hlt => ?_⟩
    · refine draw_intro [0, 0, 0, 0, 0, 0, 0, 0, 0, 0, 0, 0, 0, 0, 0, 0, 0, 0, 0, 0, 0] AHeap.none (by kernel_rfl) none_le ?_
      rcases hg with ⟨e1, _, _⟩ | ⟨b, cl', hb, rfl, rfl⟩
      · exact absurd e1 hne
      have hm := hn.mem (out.getD i default) (by rw [List.getD_eq_getElem?_getD, List.getElem?_eq_getElem hlt]; exact List.getElem_mem hlt)
      have i1 := hm.1
      have i2 := hm.2
      have i3 : (out.getD i default).toNat < h.length := by omega
      have hk1 := (hlk _ i3).1
      have hk2 := (hlk _ i3).2
      simp +contextual -dsimp -implicitDefEqProofs (maxSteps := 5000000) only [go_sem, reduceIte, reduceCtorEq, Nat.reduceEqDiff, Nat.reduceBEq, Nat.reduceAdd, Nat.reduceLeDiff, Nat.reduceMul, Nat.reduceLT, Int.reduceEq, Int.reduceLT, Int.reduceLE, t2, t5, t6, hlt, i1, i2, i3]
      have hg : Grow rI 1 3 H (H.set b ⟨1, 3, out.map rI⟩) (.sl b 1 0 out.length cl') out := .inr ⟨b, cl', hb, rfl, rfl⟩
      generalize H.set b ⟨1, 3, out.map rI⟩ = HH at hg ⊢
      generalize hx : AV.sl b 1 0 out.length cl' = x at hg ⊢
      refine aloop mixed (fz := fun _ => []) (im := fun s => s == 2 || s == 51) (by kernel_rfl) (fun m tm H' => ∃ (j : Nat) (o : List Int) (x : AV), m = 2 - j ∧ j ≤ 2 ∧ Grow rI 1 3 H H' x o ∧ Nums h.length o ∧ o ≠ [] ∧ out.length ≤ o.length ∧ tm 2 = .vptr [[.vsl (h.map rFault) cl]] 0 0 ∧ tm 5 = x ∧ tm 6 = I i ∧ tm 35 = .vsl ([causeOf h (out.getD i default), ctxOf h (out.getD i default)].map rI) true ∧ tm 36 = I 2 ∧ tm 37 = I j ∧ o = (if j = 0 then out else if j = 1 then addF out (causeOf h (out.getD i default)) else addF (addF out (causeOf h (out.getD i default))) (ctxOf h (out.getD i default)))) 2 ⟨0, out, x, rfl, by simp, hg, hn, hne, Nat.le_refl _, ?_⟩ ?_
      · simp +contextual -dsimp -implicitDefEqProofs (maxSteps := 5000000) only [go_sem, reduceIte, reduceCtorEq, Nat.reduceEqDiff, Nat.reduceBEq, Nat.reduceAdd, Nat.reduceLeDiff, Nat.reduceMul, Nat.reduceLT, Int.reduceEq, Int.reduceLT, Int.reduceLE, t2, t5, t6, hlt, i1, i2, i3, hx]
        simp [causeOf, ctxOf]
      · rintro m tm H' ⟨j, o, x', rfl, hj, hg', hn', hne', hol', t2, t5, t6, t35, t36, t37, ho⟩
        have hol2 : o.length ≤ h.length := by have := hn'.free; omega
        generalize hL : [causeOf h (out.getD i default), ctxOf h (out.getD i default)] = L at t35
        have hLl : L.length = 2 := by rw [← hL]; rfl
        simp +contextual -dsimp -implicitDefEqProofs (maxSteps := 5000000) only [go_sem, reduceIte, reduceCtorEq, Nat.reduceEqDiff, Nat.reduceBEq, Nat.reduceAdd, Nat.reduceLeDiff, Nat.reduceMul, Nat.reduceLT, Int.reduceEq, Int.reduceLT, Int.reduceLE, t2, t5, t6, t35, t36, t37, hLl]
        refine ⟨fun hj2 => ⟨by omega, ?_⟩, fun hj2 => ?_⟩
        · have hc : ∀ g, g = L.getD j default → g < h.length := by
            rintro g rfl
            have : j = 0 ∨ j = 1 := by omega
            rcases this with rfl | rfl
            · rw [← hL]; exact hk1
            · rw [← hL]; exact hk2
          have hnx : (if j + 1 = 0 then out else if j + 1 = 1 then addF out (causeOf h (out.getD i default)) else addF (addF out (causeOf h (out.getD i default))) (ctxOf h (out.getD i default))) = addF o (L.getD j default) := by
            have : j = 0 ∨ j = 1 := by omega
            rcases this with rfl | rfl
            · rw [← hL, ho]; rfl
            · rw [← hL, ho]; rfl
          have hgl := hc _ rfl
          generalize L.getD j default = g at hgl hnx
          refine ⟨by omega, fun hg0 => (c_ContainsG o x' g H H' hg').det ?_, fun hg0 => ?_⟩
          · cases ha : o.any fun x => decide (g = x)
            · simp +contextual -dsimp -implicitDefEqProofs (maxSteps := 5000000) only [go_sem, reduceIte, reduceCtorEq, Nat.reduceEqDiff, Nat.reduceBEq, Nat.reduceAdd, Nat.reduceLeDiff, Nat.reduceMul, Nat.reduceLT, Int.reduceEq, Int.reduceLT, Int.reduceLE, t2, t5, t6, t35, t36, t37, hLl, hg0]
              have hadd : addF o g = o ++ [g] := by rw [addF, if_pos ⟨hg0, ha⟩]
              refine grow_append (m := [g]) te33 ti3 rI_len (by decide) hg' (by simp; omega) (by simp; omega) rfl fun x2 H2 hg2 => ?_
              simp +contextual -dsimp -implicitDefEqProofs (maxSteps := 5000000) only [go_sem, reduceIte, reduceCtorEq, Nat.reduceEqDiff, Nat.reduceBEq, Nat.reduceAdd, Nat.reduceLeDiff, Nat.reduceMul, Nat.reduceLT, Int.reduceEq, Int.reduceLT, Int.reduceLE, t2, t5, t6, t35, t36, t37, hLl, hg0]
              rw [← hadd] at hg2
              exact ⟨2 - (j + 1), by omega, j + 1, addF o g, x2, rfl, by omega, hg2, hn'.add hgl, by rw [hadd]; simp, Nat.le_trans hol' (addF_len _ _), rfl, I_wrap (by simp) (by omega) (by omega), hnx.symm⟩
            · simp +contextual -dsimp -implicitDefEqProofs (maxSteps := 5000000) only [go_sem, reduceIte, reduceCtorEq, Nat.reduceEqDiff, Nat.reduceBEq, Nat.reduceAdd, Nat.reduceLeDiff, Nat.reduceMul, Nat.reduceLT, Int.reduceEq, Int.reduceLT, Int.reduceLE, t2, t5, t6, t35, t36, t37, hLl, hg0]
              exact ⟨2 - (j + 1), by omega, j + 1, o, x', rfl, by omega, hg', hn', hne', hol', rfl, I_wrap (by simp) (by omega) (by omega), by rw [hnx, addF, if_neg (by rw [ha]; simp)]⟩
          · exact ⟨2 - (j + 1), by omega, j + 1, o, x', rfl, by omega, hg', hn', hne', hol', rfl, I_wrap (by simp) (by omega) (by omega), by rw [hnx, addF, if_neg (fun q => hg0 q.1)]⟩
        · have hj3 : j = 2 := by omega
          subst hj3
          have hq : h.length + 1 - i = (h.length + 1 - (i + 1)) + 1 := by omega
          rw [hq, bfsG, if_pos hlt] at he
          have ho' : o = addF (addF out (causeOf h (out.getD i default))) (ctxOf h (out.getD i default)) := ho
          exact ⟨_, by omega, i + 1, o, x', rfl, by omega, hn', hne', hg', rfl, I_wrap (by simp) (by omega) (by omega), by rw [ho']; exact he⟩
    · refine (c_SortG H H' x out hg hne (by omega)).mono ?_
      rintro _ H'' ⟨rfl, hg'⟩
      simp +contextual -dsimp -implicitDefEqProofs (maxSteps := 5000000) only [go_sem, reduceIte, reduceCtorEq, Nat.reduceEqDiff, Nat.reduceBEq, Nat.reduceAdd, Nat.reduceLeDiff, Nat.reduceMul, Nat.reduceLT, Int.reduceEq, Int.reduceLT, Int.reduceLE, t2, t5, t6, hlen]
      refine (c_ClipG (sortI out) x H H'' hg').mono fun r H3 hg3 => ?_
      simp +contextual -dsimp -implicitDefEqProofs (maxSteps := 5000000) only [go_sem, reduceIte, reduceCtorEq, Nat.reduceEqDiff, Nat.reduceBEq, Nat.reduceAdd, Nat.reduceLeDiff, Nat.reduceMul, Nat.reduceLT, Int.reduceEq, Int.reduceLT, Int.reduceLE, t2, t5, t6, hlen]
      have : bfsF h f = out := by
        rw [← he]
        cases hq : h.length + 1 - i with
        | zero => rfl
        | succ q => rw [bfsG, if_neg hlt]
      rw [this]; exact hg3
end
section
open Go Go.Sim
set_option maxRecDepth 100000

theorem c_misolate0 (h : List Fault) (cl : Bool) (f : Int) (H : AHeap) (hl : h.length ≤ 999999) (h0 : 0 ≤ f) (h1 : f < h.length) (hlk : ∀ k, k < h.length → (h.getD k default).cause < h.length ∧ (h.getD k default).ctx < h.length) (hm : ∀ a ∈ sortI (bfsF h f), 0 ≤ a ∧ a < h.length) (hll : (sortI (bfsF h f)).length ≤ 999999) :
    ACalls Tryz.prog 81 [aHeap h cl, I f] H fun r H' => ∃ x, r = .tup [.agg [x], I (idxF (fun x => decide (f = x)) (sortI (bfsF h f)))] ∧ Grow rFault 5 87 H H' x (isoL h (sortI (bfsF h f))) := by
  refine acalls_of1 Tryz.func81 rfl (by kernel_rfl) rfl rfl (awp_sound (fz := fun r => if r = 7 then [10] else []) (im := fun s => s == 2 || s == 42) mixed _ _ _ _ (by kernel_rfl) ?_)
  simp +contextual -dsimp -implicitDefEqProofs (maxSteps := 5000000) only [go_sem, reduceIte, reduceCtorEq, Nat.reduceEqDiff, Nat.reduceBEq, Nat.reduceAdd, Nat.reduceLeDiff, Nat.reduceMul, Nat.reduceLT, Int.reduceEq, Int.reduceLT, Int.reduceLE]
  intro b4 hb4
  refine acalls_frz (c_mreach h cl f _ (by omega) h0 h1 hlk) fun cl1 => ?_
  generalize sortI (bfsF h f) = L at hm hll ⊢
  simp +contextual -dsimp -implicitDefEqProofs (maxSteps := 5000000) only [go_sem, reduceIte, reduceCtorEq, Nat.reduceEqDiff, Nat.reduceBEq, Nat.reduceAdd, Nat.reduceLeDiff, Nat.reduceMul, Nat.reduceLT, Int.reduceEq, Int.reduceLT, Int.reduceLE]
  refine ⟨by omega, by omega, ?_⟩
  rintro bx ⟨x1, x2, hbx⟩ b7 ⟨n1, n2, n3, n4, hb7⟩
  have hgx : Grow rFault 5 87 H (H.set bx ⟨5, 87, []⟩) (.sl bx 5 0 0 false) [] := .inr ⟨bx, false, hbx, rfl, rfl⟩
  have hcm : ((H.set b4 ⟨1, 36, [[.vsl [] true]]⟩).set bx ⟨5, 87, []⟩).set b7 ⟨1, 36, [[.sl bx 5 0 0 false]]⟩ = ((H.set bx ⟨5, 87, []⟩).set b4 ⟨1, 36, [[.vsl [] true]]⟩).set b7 ⟨1, 36, [[.sl bx 5 0 0 false]]⟩ := by rw [set_comm (H := H) x2]
  rw [hcm]
  have e40 : (H.set bx ⟨5, 87, []⟩) b4 = none := by rw [set_other x2]; exact hb4
  have e70 : (H.set bx ⟨5, 87, []⟩) b7 = none := by rw [set_other n1]; exact hb7
  generalize H.set bx ⟨5, 87, []⟩ = H20 at hgx e40 e70 ⊢
  generalize AV.sl bx 5 0 0 false = x0 at hgx ⊢
  refine aloop mixed (fz := fun r => if r = 7 then [10] else []) (im := fun s => s == 2 || s == 42) (by kernel_rfl) (fun m tm H' => ∃ (k : Nat) (H2 : AHeap) (x : AV), m = L.length - k ∧ k ≤ L.length ∧ Grow rFault 5 87 H H2 x ((L.take k).map (isoAt h L)) ∧ H2 b4 = none ∧ H2 b7 = none ∧ H' = (H2.set b4 ⟨1, 36, [[.vsl [] true]]⟩).set b7 ⟨1, 36, [[x]]⟩ ∧
    tm 1 = I f ∧ tm 2 = .vptr [[.vsl (h.map rFault) cl]] 0 0 ∧ tm 4 = .ptr b4 1 0 0 ∧ tm 6 = .vsl (L.map rI) cl1 ∧ tm 7 = .ptr b7 1 0 0 ∧ tm 18 = .vsl (L.map rI) cl1 ∧ tm 19 = I L.length ∧ tm 20 = I k) L.length ⟨0, H20, x0, rfl, by omega, by simpa using hgx, e40, e70, rfl, ?_⟩ ?_
  · simp +contextual -dsimp -implicitDefEqProofs (maxSteps := 5000000) only [go_sem, reduceIte, reduceCtorEq, Nat.reduceEqDiff, Nat.reduceBEq, Nat.reduceAdd, Nat.reduceLeDiff, Nat.reduceMul, Nat.reduceLT, Int.reduceEq, Int.reduceLT, Int.reduceLE]
  · rintro m tm H' ⟨k, H2, x, rfl, hk, hg, e4, e7, rfl, t1, t2, t4, t6, t7, t18, t19, t20⟩
    obtain ⟨r1, r2⟩ := one_grow hg
    simp +contextual -dsimp -implicitDefEqProofs (maxSteps := 5000000) only [go_sem, reduceIte, reduceCtorEq, Nat.reduceEqDiff, Nat.reduceBEq, Nat.reduceAdd, Nat.reduceLeDiff, Nat.reduceMul, Nat.reduceLT, Int.reduceEq, Int.reduceLT, Int.reduceLE, t1, t2, t4, t6, t7, t18, t19, t20, r1, r2, n3, n4]
    refine ⟨fun hk0 => ?_, fun hk0 => ?_⟩
    · have hx := hm (L.getD k default) (by rw [List.getD_eq_getElem?_getD, List.getElem?_eq_getElem hk0]; exact List.getElem_mem hk0)
      have i0 := hx.1
      have i2 := hx.2
      have i1 : (L.getD k default).toNat < h.length := by omega
      simp +contextual -dsimp -implicitDefEqProofs (maxSteps := 5000000) only [go_sem, reduceIte, reduceCtorEq, Nat.reduceEqDiff, Nat.reduceBEq, Nat.reduceAdd, Nat.reduceLeDiff, Nat.reduceMul, Nat.reduceLT, Int.reduceEq, Int.reduceLT, Int.reduceLE, t1, t2, t4, t6, t7, t18, t19, t20, r1, r2, n3, n4, hk0, i0, i2, i1]
      rintro b9 ⟨m1, m2, m3, m4, hb9⟩
      refine draw_intro [0, 0, 0, 3, 0, 0, 1, 2, 0, 2, 0, 2] _ (by kernel_rfl) (AHeap.le_refl _) ?_
      simp +contextual -dsimp -implicitDefEqProofs (maxSteps := 5000000) only [go_sem, reduceIte, reduceCtorEq, Nat.reduceEqDiff, Nat.reduceBEq, Nat.reduceAdd, Nat.reduceLeDiff, Nat.reduceMul, Nat.reduceLT, Int.reduceEq, Int.reduceLT, Int.reduceLE, t1, t2, t4, t6, t7, t18, t19, t20, r1, r2, n3, n4, hk0, i0, i2, i1, m1, m2, m3, m4]
      refine (c_Index _ _ _ _).det ?_
      simp +contextual -dsimp -implicitDefEqProofs (maxSteps := 5000000) only [go_sem, reduceIte, reduceCtorEq, Nat.reduceEqDiff, Nat.reduceBEq, Nat.reduceAdd, Nat.reduceLeDiff, Nat.reduceMul, Nat.reduceLT, Int.reduceEq, Int.reduceLT, Int.reduceLE, t1, t2, t4, t6, t7, t18, t19, t20, r1, r2, n3, n4, hk0, i0, i2, i1, m1, m2, m3, m4]
      refine (c_Index _ _ _ _).det ?_
      simp +contextual -dsimp -implicitDefEqProofs (maxSteps := 5000000) only [go_sem, reduceIte, reduceCtorEq, Nat.reduceEqDiff, Nat.reduceBEq, Nat.reduceAdd, Nat.reduceLeDiff, Nat.reduceMul, Nat.reduceLT, Int.reduceEq, Int.reduceLT, Int.reduceLE, t1, t2, t4, t6, t7, t18, t19, t20, r1, r2, n3, n4, hk0, i0, i2, i1, m1, m2, m3, m4, hb9]
      have e74 : (H2.set b4 ⟨1, 36, [[.vsl [] true]]⟩) b7 = none := by rw [set_other n3]; exact e7
      refine grow_append (m := [isoAt h L (L.getD k default)]) te34 ti87 rFault_len (by decide) (grow_in (grow_in hg e4) e74) (by simp; omega) (by simp; omega) rfl fun x' H' hg' => ?_
      have f4 := grow_none hg e4
      have f7 := grow_none hg e7
      obtain ⟨G1, hg1, rfl, u7⟩ := grow_out hg' (by rw [set_other n3]; exact f7)
      obtain ⟨G3, hg3, rfl, u4⟩ := grow_out hg1 f4
      obtain ⟨r3, r4⟩ := one_grow hg3
      rw [set_other n3] at u7
      simp +contextual -dsimp -implicitDefEqProofs (maxSteps := 5000000) only [go_sem, reduceIte, reduceCtorEq, Nat.reduceEqDiff, Nat.reduceBEq, Nat.reduceAdd, Nat.reduceLeDiff, Nat.reduceMul, Nat.reduceLT, Int.reduceEq, Int.reduceLT, Int.reduceLE, t1, t2, t4, t6, t7, t18, t19, t20, r1, r2, r3, r4, n3, n4, hk0, i0, i2, i1, m1, m2, m3, m4]
      exact ⟨_, by omega, k + 1, G3, x', rfl, hk0, by rw [List.take_succ_eq_append_getElem hk0, List.map_append]; simpa [List.getD_eq_getElem?_getD, hk0] using hg3, u4, u7, rfl, I_wrap (by omega) (by omega) (by omega)⟩
    · refine draw_intro [1, 0, 0, 3, 2, 0] _ (by kernel_rfl) (AHeap.le_refl _) ?_
      simp +contextual -dsimp -implicitDefEqProofs (maxSteps := 5000000) only [go_sem, reduceIte, reduceCtorEq, Nat.reduceEqDiff, Nat.reduceBEq, Nat.reduceAdd, Nat.reduceLeDiff, Nat.reduceMul, Nat.reduceLT, Int.reduceEq, Int.reduceLT, Int.reduceLE, t1, t2, t4, t6, t7, t18, t19, t20, r1, r2, n3, n4]
      refine (c_Index _ _ _ _).det ?_
      simp +contextual -dsimp -implicitDefEqProofs (maxSteps := 5000000) only [go_sem, reduceIte, reduceCtorEq, Nat.reduceEqDiff, Nat.reduceBEq, Nat.reduceAdd, Nat.reduceLeDiff, Nat.reduceMul, Nat.reduceLT, Int.reduceEq, Int.reduceLT, Int.reduceLE, t1, t2, t4, t6, t7, t18, t19, t20, r1, r2, n3, n4]
      rw [List.take_of_length_le (by omega)] at hg
      refine retR_less (l := [.agg [x], I (idxF (fun x => decide (f = x)) L)]) (H' := H2) ?_ (fun c k hc => ?_) ⟨x, rfl, hg⟩
      · simp only [resA, ↓aw_skip, ↓aw_ret, ↓aw_exit, ↓aw_region, ↓aw_draw, ↓aw_seq, ↓aw_block, ↓aw_loop, ↓aw_cond, ↓frz_nil, ↓frz_cons, frzV_ptr, frzV_sl, frzK_some, set_none, set_other, AHeap.set_self, set_del, set_set, cnd_t, cnd_f, cnd_b, ↓sq_normal, ↓sq_ret, ↓sq_exit, ↓exB_normal, ↓exB_ret, ↓exB_same, ↓exB_other, ↓retQ_ret, ↓retQ_normal, ↓ret0_ret, ↓ret0_normal, retA_one, retA_two, retA_three, retA_four, retA_nil, ↓ao_nil, ↓go1, ↓g_move, ↓g_assign, ↓g_pick, ↓g_build, ↓g_load, ↓g_binOp, ↓g_unOp, ↓g_convert, ↓g_fieldAddr, ↓g_field, ↓g_indexAddr, ↓g_index, ↓g_extract, ↓g_lookup, ↓g_slice, ↓g_nilCheck, ↓g_len, ↓g_makeFunc, ↓h_call, ↓h_append, ↓h_alloc, ↓h_box, ↓h_buildSlice, ↓h_makeSlice, ↓h_store, gIf_b, mrgV_b, mrgV_wh, mrgV_U, gIf_U, gIf_wh, mrgB_f, mrgB_some, mrgB_if, wh_true, wh_false, keepA_some, keepA_if, ↓gV, gD_zero, gD_succ, gT_some, ↓i_box, ↓i_buildSlice, bxA_t, bxA_f, ↓i_move, ↓i_assign, ↓i_build, ↓i_load, ↓i_binOp, ↓i_unOp, ↓i_convert, ↓i_fieldAddr, ↓i_field, ↓i_indexAddr, ↓i_index, ↓i_extract, ↓i_lookup, ↓i_makeMap, ↓i_mapUpdate, ↓i_slice, ↓i_nilCheck, ↓i_makeFunc, ↓i_len, ↓i_max, ↓i_min, ↓i_alloc, ↓i_makeSlice, ↓i_store, ↓i_append, ↓i_call, ↓i_pick, ↓boxI, ↓boxA, ↓buildSliceI, ↓buildSliceA, ↓makeSliceA, ↓makeMapA, ↓allocA, ↓storeA, ↓p_move, ↓p_assign, ↓p_pick, ↓p_build, ↓p_load, ↓p_binOp, ↓p_unOp, ↓p_convert, ↓p_fieldAddr, ↓p_field, ↓p_indexAddr, ↓p_index, ↓p_extract, ↓p_lookup, ↓p_makeMap, ↓p_mapUpdate, ↓p_slice, ↓p_nilCheck, ↓p_makeFunc, ↓p_len, ↓p_max, ↓p_min, ↓p_alloc, ↓p_box, ↓p_buildSlice, ↓p_makeSlice, ↓p_store, ↓p_append, ↓p_call, callA_fn, ev_tmp, ev_const, ev_global, ev_func, oc_bool, oc_int, oc_string, oc_nil, oc_nilptr, oc_nilfunc, cl_bool, cl_int, cl_string, cl_nil, updO_some, updO_none, upd_same, upd_other, init_at, pickA_b, pickA_wh, selA_t, selA_f, selA_and, selA_or, selA_orn, selA_orm, selA_bb, selA_ii, beqt, b_add, b_sub, b_mul, b_and, b_or, b_xor, b_eql, b_neq, b_lss, b_leq, b_gtr, b_geq, b_quo, b_rem, b_shr, b_seql, b_sneq, b_sadd, b_beql, b_bneq, b_aeql, b_aneq, u_not, u_neg, isConstOp, eqA, eqCellV, List.getD_cons_zero, List.getD_cons_succ, List.map_cons, List.map_nil, List.nil_append, List.cons_append, List.append_nil, if_true, if_false, Option.map_some, Option.map_none, reduceIte, reduceCtorEq, Nat.reduceEqDiff, ne_eq, not_false_eq_true, Nat.reduceBEq, oneA, ldv, ld1v, ld1s, wr1s, ldRow, stRow, row_lit, row_agg, row_vsl, row_sl, row_ptr, row_fn, one_I, one_B, one_S, one_vsl, one_sl, one_ptr, one_fn, extractA, okA, rI, rS, rU, rClass, rFault, rExit, rStart, rLine, Int.toNat_natCast, List.length_cons, List.length_nil, List.length_map, List.all_cons, List.all_nil, Bool.and_true, Nat.reduceAdd, Nat.zero_add, List.getElem?_cons_zero, List.getElem?_cons_succ, List.take_succ_cons, List.take_zero, List.drop_succ_cons, List.drop_zero, Nat.reduceLeDiff, and_self, true_and, and_true, implies_true, decide_eq_true_eq, decide_eq_false_iff_not, Bool.or_eq_true, Bool.or_eq_false_iff, Bool.and_eq_true, Bool.not_eq_true', Bool.not_eq_false', beq_false, decide_true, decide_false, Int.ofNat_lt, Int.ofNat_le, Int.natCast_nonneg, Bool.or_true, Bool.or_false, Bool.true_or, Bool.false_or, beq_self_eq_true, Nat.reduceMul, List.drop_one, Bool.not_true, Bool.not_false, Bool.not_not, Bool.false_eq_true, Bool.true_eq_false, false_implies, true_implies, Bool.true_and, Bool.false_and, Bool.and_false, if_true, if_false, not_true_eq_false, Nat.reduceLT, Int.natCast_eq_zero, Int.natCast_pos, Int.natCast_zero, false_and, and_false, or_false, false_or, or_true, true_or, Bool.or_self, ↓x_nil, ↓x_go1, ↓x_g0, ↓x_g1, ↓x_g2, ↓x_g3, ↓x_s0, ↓x_s1, ↓x_s2, ↓x_s3, none_le_iff, ↓u_move, ↓u_assign, ↓u_pick, ↓u_build, ↓u_load, ↓u_binOp, ↓u_unOp, ↓u_convert, ↓u_fieldAddr, ↓u_field, ↓u_indexAddr, ↓u_index, ↓u_extract, ↓u_lookup, ↓u_slice, ↓u_nilCheck, ↓u_makeFunc, ↓u_len, List.replicate_zero, Int.toNat_zero, List.replicate_succ, buildRows, List.set_cons_zero, List.set_cons_succ, List.set_nil, List.mapM_nil, maxLen_eq, Nat.zero_le, Nat.mul_one, Nat.one_mul, bldA, fillA, spliceA, List.take_nil, List.drop_nil, List.getElem?_nil, Int.reduceEq, Int.reduceLT, Int.reduceLE, decide_eq_true_eq, ld1o, wr1o, ↓u_buildSlice, bldSliceA, le_same, ti1, ti2, tk2, ti3, te3, ts3, tk3, tz3, ti4, tb4, ti5, tk5, tz5, ti9, te9, ts9, tk9, tz9, ti12, tk12, ti13, tp13, tf13_0, tf13_1, ti20, ti21, tk21, tz21, ti22, te22, tz22, ti23, te23, ti24, tp24, tf24_0, ti25, tp25, tf25_0, ti26, te26, ti28, ti29, ti30, ti31, ti32, ti33, te33, ti34, te34, ti35, tp35, tf35_0, ti36, tp36, tf36_0, ti37, tp37, tf37_0, tf37_1, tf37_2, tf37_3, ti38, tp38, tf38_0, tf38_1, tf38_2, tf38_3, ti39, ti40, ti41, ti42, ti43, tq43, tp43, tf43_0, tf43_1, tf43_2, tf43_3, ti44, tq44, tp44, tf44_0, tf44_1, tf44_2, tf44_3, ti45, ti46, ti47, ti48, ti49, ti50, ti51, tq51, tp51, tf51_0, tf51_1, tf51_2, ti52, tq52, tp52, tf52_0, tf52_1, tf52_2, ti54, ti55, ti56, ti57, ti58, ti59, ti60, ti61, ti62, ti63, ti64, ti65, ti66, ti67, ti68, ti69, ti70, tq70, tp70, tf70_0, tf70_1, ti71, tq71, tp71, tf71_0, tf71_1, ti72, ti73, ti74, ti75, ti76, ti77, ti78, ti79, tp79, tf79_0, tf79_1, tf79_2, tf79_3, tf79_4, ti80, tp80, tf80_0, tf80_1, tf80_2, tf80_3, tf80_4, ti81, ti83, ti84, ti85, ti86, tq86, tp86, tf86_0, tf86_1, tf86_2, tf86_3, tf86_4, ti87, tq87, tp87, tf87_0, tf87_1, tf87_2, tf87_3, tf87_4, ti88, ti89, ti90, ti91, ti92, tp92, tf92_0, tf92_1, ti93, tp93, tf93_0, tf93_1, ti94, ti95, ti96, ti97, tq97, tp97, tf97_0, tf97_1, ti98, tq98, tp98, tf98_0, tf98_1, ti99, ti100, ti101, ti103, ti104, ti105, ti106, ti107, ti108, ti109, ti110, ti111, te111, ti112, ti113, ti114, ti115, ti116, ti117, ti118, ti119, ti120, ti121, ti122, ti123, ti124, ti125, ti126, ti127, tk127, tz127, ti128, ti129, ti130, tk130, ti132, ti133, ti134, ti136, ti137, ti138, tk138, tz138, ti139, ti140, tk140, tz140, ti141, tk141, ti142, ti143, ti144, ti145, ti146, ti147, ti148, ti149, ti155, ti159, fp13_0, fv13_0, fp13_1, fv13_1, fp24_0, fv24_0, fp25_0, fv25_0, fp35_0, fv35_0, fp36_0, fv36_0, fp37_0, fv37_0, fp37_1, fv37_1, fp37_2, fv37_2, fp37_3, fv37_3, fp38_0, fv38_0, fp38_1, fv38_1, fp38_2, fv38_2, fp38_3, fv38_3, fp43_0, fv43_0, fp43_1, fv43_1, fp43_2, fv43_2, fp43_3, fv43_3, fp44_0, fv44_0, fp44_1, fv44_1, fp44_2, fv44_2, fp44_3, fv44_3, fp51_0, fv51_0, fp51_1, fv51_1, fp51_2, fv51_2, fp52_0, fv52_0, fp52_1, fv52_1, fp52_2, fv52_2, fp70_0, fv70_0, fp70_1, fv70_1, fp71_0, fv71_0, fp71_1, fv71_1, fp79_0, fv79_0, fp79_1, fv79_1, fp79_2, fv79_2, fp79_3, fv79_3, fp79_4, fv79_4, fp80_0, fv80_0, fp80_1, fv80_1, fp80_2, fv80_2, fp80_3, fv80_3, fp80_4, fv80_4, fp86_0, fv86_0, fp86_1, fv86_1, fp86_2, fv86_2, fp86_3, fv86_3, fp86_4, fv86_4, fp87_0, fv87_0, fp87_1, fv87_1, fp87_2, fv87_2, fp87_3, fv87_3, fp87_4, fv87_4, fp92_0, fv92_0, fp92_1, fv92_1, fp93_0, fv93_0, fp93_1, fv93_1, fp97_0, fv97_0, fp97_1, fv97_1, fp98_0, fv98_0, fp98_1, fv98_1, lv22, ll22, is22, ix22, sh22, so22, sb22, sm22, sp22, lv23, ll23, is23, ix23, sh23, so23, sb23, sm23, sp23, lv26, ll26, is26, ix26, sh26, so26, sb26, sm26, sp26, lv33, ll33, is33, ix33, sh33, so33, sb33, sm33, sp33, lv34, ll34, is34, ix34, sh34, so34, sb34, sm34, sp34, lv111, ll111, is111, ix111, sh111, so111, sb111, sm111, sp111, xs9, ls9, sx9, sy9, sz9, n3, n4, t4, ld_o, ldO_1]
      · have c1 : c ≠ b4 := fun e => by rw [e, e4] at hc; cases hc
        have c2 : c ≠ b7 := fun e => by rw [e, e7] at hc; cases hc
        rw [set_other c2, set_other c1]; exact hc
theorem rFault_nov (y : Fault) : ∀ c ∈ rFault y, NoV c := by
  intro c hc
  simp only [rFault, List.mem_cons, List.not_mem_nil, or_false] at hc
  rcases hc with rfl | rfl | rfl | rfl | rfl <;> exact .lit _
theorem bfsF_ne (h : List Fault) (f : Int) : bfsF h f ≠ [] := by
  have key : ∀ (n i : Nat) (out : List Int), out ≠ [] → bfsG h n i out ≠ [] := by
    intro n
    induction n with
    | zero => intro i out hne; exact hne
    | succ n ih =>
      intro i out hne
      simp only [bfsG]
      split
      · refine ih _ _ fun e => hne ?_
        have h1 := addF_len out (causeOf h (out.getD i default))
        have h2 := addF_len (addF out (causeOf h (out.getD i default))) (ctxOf h (out.getD i default))
        rw [e] at h2
        exact List.eq_nil_of_length_eq_zero (by simp only [List.length_nil] at h2; omega)
      · exact hne
  exact key _ _ _ (by simp)
theorem sortI_ne {l : List Int} (h : l ≠ []) : sortI l ≠ [] := fun e => h (List.eq_nil_of_length_eq_zero (by rw [← sortI_len, e]; rfl))
theorem bfsF_nums {h : List Fault} (hlk : ∀ k, k < h.length → (h.getD k default).cause < h.length ∧ (h.getD k default).ctx < h.length) {f : Int} (h0 : 0 ≤ f) (h1 : f < h.length) : Nums h.length (bfsF h f) := by
  have key : ∀ (n i : Nat) (out : List Int), Nums h.length out → Nums h.length (bfsG h n i out) := by
    intro n
    induction n with
    | zero => intro i out h; exact h
    | succ n ih =>
      intro i out hn
      simp only [bfsG]
      split
      · rename_i hi
        have hm := hn.mem (out.getD i default) (by rw [List.getD_eq_getElem?_getD, List.getElem?_eq_getElem hi]; exact List.getElem_mem hi)
        have hk := hlk (out.getD i default).toNat (by omega)
        exact ih _ _ ((hn.add hk.1).add hk.2)
      · exact hn
  exact key _ _ _ (Nums.one h0 h1)
theorem sortI_mem {l : List Int} {a : Int} : a ∈ sortI l ↔ a ∈ l := List.mem_mergeSort
theorem heapOk_links {fs : List Fault} (ho : heapOk fs) : ∀ k, k < fs.length → (fs.getD k default).cause < fs.length ∧ (fs.getD k default).ctx < fs.length := fun k hk => by
  have := ho k hk; omega

/-- What is left of a machine. -/
theorem c_ClipX (l : List Int) (x : AV) (H0 H : AHeap) (hg : Grow rI 1 3 H0 H x l) : ∃ x', Grow rI 1 3 H0 H x' l ∧ ∀ K, ACalls Tryz.prog 80 [x] K fun r K' => r = x' ∧ K' = K := by
  rcases hg with ⟨rfl, rfl, rfl⟩ | ⟨b, cl, hb, rfl, rfl⟩
  · exact ⟨.vsl [] true, .inl ⟨rfl, rfl, rfl⟩, fun K => c_ClipV [] true K⟩
  · refine ⟨.sl b 1 0 l.length true, .inr ⟨b, true, hb, rfl, rfl⟩, fun K => ?_⟩
    refine acalls_of0 Tryz.func80 rfl (by kernel_rfl) rfl rfl (awp_sound (fz := fun _ => []) (im := fun _ => false) mixed _ _ _ _ (by kernel_rfl) ?_)
    simp +contextual -dsimp -implicitDefEqProofs (maxSteps := 5000000) only [go_sem, reduceIte, reduceCtorEq, Nat.reduceEqDiff, Nat.reduceBEq, Nat.reduceAdd, Nat.reduceLeDiff, Nat.reduceMul, Nat.reduceLT, Int.reduceEq, Int.reduceLT, Int.reduceLE]
    simp
theorem c_misolateG (fs : List Fault) (x : AV) (val : Int) (H0 H : AHeap) (hg : Grow rFault 5 87 H0 H x fs) (K : ABlk) (c : Nat) (ho : heapOk fs) (hl : fs.length ≤ 999999) (h0 : 0 ≤ val) (h1 : val < fs.length) :
    ACalls Tryz.prog 81 [.agg [x], I val] H fun r H' => ∃ y, r = .tup [.agg [y], I (idxF (fun x => decide (val = x)) (sortI (bfsF fs val)))] ∧ Grow rFault 5 87 H H' y (isoL fs (sortI (bfsF fs val))) := by
  obtain ⟨cl, hz⟩ := grow_froz hg
  have hn := bfsF_nums (heapOk_links ho) h0 h1
  have hm : ∀ a ∈ sortI (bfsF fs val), 0 ≤ a ∧ a < fs.length := fun a ha => hn.mem a (sortI_mem.1 ha)
  have hlen : (sortI (bfsF fs val)).length ≤ 999999 := by rw [sortI_len]; have := hn.free; omega
  refine acalls_borrowX [aHeap fs cl, I val] (.cons (.agg rfl ?_) (.cons (.same _) .nil)) (c_misolate0 fs cl val AHeap.none hl h0 h1 (heapOk_links ho) hm hlen) ?_
  · intro i c c' q1 q2
    cases i with
    | zero => simp at q1 q2; subst q1; subst q2; exact hz
    | succ i => simp at q1
  · rintro _ K ⟨y, rfl, hy⟩
    have hne : isoL fs (sortI (bfsF fs val)) ≠ [] := fun e => sortI_ne (bfsF_ne fs val) (by simpa [isoL] using e)
    obtain ⟨v1, v2⟩ := grow_nov hy hne rFault_nov
    refine ⟨.tup _ ?_, v2, fun hd => ⟨y, rfl, grow_un hy hd⟩⟩
    intro c hc
    simp only [List.mem_cons, List.not_mem_nil, or_false] at hc
    rcases hc with rfl | rfl
    · exact .agg _ fun c hc => by simp at hc; subst hc; exact v1
    · exact .lit _
theorem c_mresult (F H : AHeap) (bm : Nat) (t p : AV) (log : List Int) (fs : List Fault) (first : Int) (ed val : Int) (hM : Mach F H bm t p log fs first) (ho : heapOk fs) (hl : fs.length ≤ 999999) (hv : ed = 2 → 0 ≤ val ∧ val < fs.length) :
    ACalls Tryz.prog 45 [.ptr bm 5 0 0, .agg [I ed, I val]] H fun r H' => ∃ xl xh G1, r = .agg [xl, I ed, I (if ed = 2 then idxF (fun x => decide (val = x)) (sortI (bfsF fs val)) else val), xh] ∧ Grow rI 1 3 F G1 xl log ∧ Grow rFault 5 87 G1 H' xh (if ed = 2 then isoL fs (sortI (bfsF fs val)) else []) := by
  obtain ⟨xl, xf, H1, H2, hF, hg1, hg2, hb, rfl⟩ := hM
  obtain ⟨xl', hgl, hclip⟩ := c_ClipX log xl F H1 hg1
  obtain ⟨r1, r2⟩ := one_grow hgl
  refine acalls_of1 Tryz.func45 rfl (by kernel_rfl) rfl rfl (awp_sound (fz := fun _ => []) (im := fun s => s == 3) mixed _ _ _ _ (by kernel_rfl) ?_)
  simp +contextual -dsimp -implicitDefEqProofs (maxSteps := 5000000) only [go_sem, reduceIte, reduceCtorEq, Nat.reduceEqDiff, Nat.reduceBEq, Nat.reduceAdd, Nat.reduceLeDiff, Nat.reduceMul, Nat.reduceLT, Int.reduceEq, Int.reduceLT, Int.reduceLE]
  rintro b4 ⟨n1, n2, hb4⟩
  refine draw_introQ [4] [0, 0, 0, 1, 4, 0, 1, 0, 1, 0, 3, 2] (fun _ => xl') _ (by kernel_rfl) (AHeap.le_refl _) ?_
  simp +contextual -dsimp -implicitDefEqProofs (maxSteps := 5000000) only [go_sem, reduceIte, reduceCtorEq, Nat.reduceEqDiff, Nat.reduceBEq, Nat.reduceAdd, Nat.reduceLeDiff, Nat.reduceMul, Nat.reduceLT, Int.reduceEq, Int.reduceLT, Int.reduceLE, n1, n2]
  refine ⟨fun H' _ => hclip H', ?_⟩
  simp +contextual -dsimp -implicitDefEqProofs (maxSteps := 5000000) only [go_sem, reduceIte, reduceCtorEq, Nat.reduceEqDiff, Nat.reduceBEq, Nat.reduceAdd, Nat.reduceLeDiff, Nat.reduceMul, Nat.reduceLT, Int.reduceEq, Int.reduceLT, Int.reduceLE, n1, n2, r1, r2]
  rintro b5 ⟨m1, m2, m3, m4, hb5⟩
  have hbm5 : (H2.set bm ⟨5, 80, [[t, p, xl, xf, I first]]⟩) b5 = none := by rw [set_other m3]; exact hb5
  have hbm4 : (H2.set bm ⟨5, 80, [[t, p, xl, xf, I first]]⟩) b4 = none := by rw [set_other n1]; exact hb4
  have hle0 : ∀ K L : ABlk, AHeap.le ((H2.set bm ⟨5, 80, [[t, p, xl, xf, I first]]⟩).set b4 K) (((H2.set bm ⟨5, 80, [[t, p, xl, xf, I first]]⟩).set b4 K).set b5 L) := fun K L => le_set (by rw [set_other m1]; exact hbm5)
  by_cases he : ed = 2
  · obtain ⟨v1, v2⟩ := hv he
    simp +contextual -dsimp -implicitDefEqProofs (maxSteps := 5000000) only [go_sem, reduceIte, reduceCtorEq, Nat.reduceEqDiff, Nat.reduceBEq, Nat.reduceAdd, Nat.reduceLeDiff, Nat.reduceMul, Nat.reduceLT, Int.reduceEq, Int.reduceLT, Int.reduceLE, n1, n2, m1, m2, m3, m4, r1, r2, he]
    refine ⟨hle0 _ _, ?_⟩
    refine draw_intro [0, 0, 0, 0, 0, 0, 2, 0, 0, 0, 0, 2, 0, 2] AHeap.none (by kernel_rfl) none_le ?_
    simp +contextual -dsimp -implicitDefEqProofs (maxSteps := 5000000) only [go_sem, reduceIte, reduceCtorEq, Nat.reduceEqDiff, Nat.reduceBEq, Nat.reduceAdd, Nat.reduceLeDiff, Nat.reduceMul, Nat.reduceLT, Int.reduceEq, Int.reduceLT, Int.reduceLE, n1, n2, m1, m2, m3, m4, r1, r2, he]
    refine (c_misolateG fs xf val _ _ (grow_in (grow_in (grow_in hg2 hb) hbm4) (by rw [set_other m1]; exact hbm5)) ⟨0, 0, []⟩ 0 ho hl v1 v2).mono ?_
    rintro _ H' ⟨y, rfl, hy⟩
    obtain ⟨G1, hy1, rfl, u5⟩ := grow_out hy (by rw [set_other m1]; exact hbm5)
    obtain ⟨G2, hy2, rfl, u4⟩ := grow_out hy1 hbm4
    obtain ⟨G3, hy3, rfl, u3⟩ := grow_out hy2 hb
    obtain ⟨G4, hy4, hy5⟩ := grow_swap hg2 hy3
    obtain ⟨r3, r4⟩ := one_grow hy4
    simp +contextual -dsimp -implicitDefEqProofs (maxSteps := 5000000) only [go_sem, reduceIte, reduceCtorEq, Nat.reduceEqDiff, Nat.reduceBEq, Nat.reduceAdd, Nat.reduceLeDiff, Nat.reduceMul, Nat.reduceLT, Int.reduceEq, Int.reduceLT, Int.reduceLE, n1, n2, m1, m2, m3, m4, r1, r2, r3, r4, he]
    refine retR_less (l := [.agg [xl', I 2, I (idxF (fun x => decide (val = x)) (sortI (bfsF fs val))), y]]) (H' := G4) ?_ ?_ ⟨xl', y, H1, rfl, hgl, hy4⟩
    · simp only [resA, go_sem, reduceIte, reduceCtorEq, Nat.reduceEqDiff, Nat.reduceBEq, Nat.reduceAdd, Nat.reduceLeDiff, Nat.reduceMul, Nat.reduceLT, Int.reduceEq, Int.reduceLT, Int.reduceLE, n1, n2, m1, m2, m3, m4]
    · refine AHeap.le_trans (grow_le hy5) (AHeap.le_trans (le_set u3) (AHeap.le_trans (le_set u4) (le_set (by rw [set_other m1] at u5 ⊢; exact u5))))
  · simp +contextual -dsimp -implicitDefEqProofs (maxSteps := 5000000) only [go_sem, reduceIte, reduceCtorEq, Nat.reduceEqDiff, Nat.reduceBEq, Nat.reduceAdd, Nat.reduceLeDiff, Nat.reduceMul, Nat.reduceLT, Int.reduceEq, Int.reduceLT, Int.reduceLE, n1, n2, m1, m2, m3, m4, r1, r2, he]
    refine ⟨hle0 _ _, ?_⟩
    refine retR_less (l := [.agg [xl', I ed, I val, .vsl [] true]]) (H' := H1) ?_ ?_ ⟨xl', .vsl [] true, H1, rfl, hgl, .inl ⟨rfl, rfl, rfl⟩⟩
    · simp only [resA, go_sem, reduceIte, reduceCtorEq, Nat.reduceEqDiff, Nat.reduceBEq, Nat.reduceAdd, Nat.reduceLeDiff, Nat.reduceMul, Nat.reduceLT, Int.reduceEq, Int.reduceLT, Int.reduceLE, n1, n2, m1, m2, m3, m4]
    · exact AHeap.le_trans (grow_le hg2) (AHeap.le_trans (le_set hb) (AHeap.le_trans (le_set hbm4) (hle0 _ _)))
end
section
open Go Go.Sim
set_option maxRecDepth 100000

/-- A result of its own blocks. -/
def OwnRes (F H : AHeap) (r : AV) (R : Res) : Prop := ∃ xl xh G1, r = .agg [xl, I R.ed, I R.val, xh] ∧ Grow rI 1 3 F G1 xl R.log ∧ Grow rFault 5 87 G1 H xh R.heap
def res0 : Res := ⟨[], 0, 0, []⟩
theorem own0 (H : AHeap) : OwnRes H H (.agg [.vsl [] true, I 0, I 0, .vsl [] true]) res0 := ⟨_, _, H, rfl, .inl ⟨rfl, rfl, rfl⟩, .inl ⟨rfl, rfl, rfl⟩⟩
theorem own_out {F H : AHeap} {r : AV} {R : Res} {c : Nat} {K : ABlk} (h : OwnRes (F.set c K) H r R) (hc : F c = none) : ∃ H', H = H'.set c K ∧ OwnRes F H' r R ∧ H' c = none := by
  obtain ⟨xl, xh, G1, h1, h2, h3⟩ := h
  obtain ⟨G2, k1, rfl, k2⟩ := grow_out h2 hc
  obtain ⟨G3, k3, rfl, k4⟩ := grow_out h3 k2
  exact ⟨G3, rfl, ⟨xl, xh, G2, h1, k1, k3⟩, k4⟩
theorem own_row {F H : AHeap} {r : AV} {R : Res} (h : OwnRes F H r R) : ∃ xl xh, r = .agg [xl, I R.ed, I R.val, xh] ∧ xl.one = true ∧ xh.one = true := by
  obtain ⟨xl, xh, G1, h1, h2, h3⟩ := h
  exact ⟨xl, xh, h1, (one_grow h2).2, (one_grow h3).2⟩
abbrev aRes (R : Res) (c1 c2 : Bool) : AV := .agg [.vsl (R.log.map rI) c1, I R.ed, I R.val, .vsl (R.heap.map rFault) c2]
theorem own_frz {P : Program} {f : FuncId} {args : List AV} {H : AHeap} {R : Res} (h : ACalls P f args H fun r H' => OwnRes H H' r R) : ACalls P f args H fun r H' => (∃ c1 c2, r = aRes R c1 c2) ∧ H' = H := by
  refine acalls_fz h ?_
  rintro _ H' ⟨xl, xh, G1, rfl, h2, h3⟩
  have hle := AHeap.le_trans (grow_le h2) (grow_le h3)
  obtain ⟨c2, z2⟩ := grow_fz h3
  have hz1 : ∃ c1, Fz H' H xl (.vsl (R.log.map rI) c1) := by
    rcases h2 with ⟨e1, e2, e3⟩ | ⟨b, cl, hb, rfl, rfl⟩
    · rw [e1, e2]; exact ⟨true, .same _⟩
    · refine ⟨cl, ?_⟩
      have hk : H' b = some ⟨1, 3, R.log.map rI⟩ := grow_le h3 b _ (AHeap.set_self ..)
      have := Fz.sl (H := H') (K := H) (b := b) (sz := 1) (off := 0) (len := R.log.length) (cl := cl) hk rfl (by simp) hb
      simpa [List.take_of_length_le] using this
  have hz2 : ∃ c2, Fz H' H xh (.vsl (R.heap.map rFault) c2) := by
    rcases h3 with ⟨e1, e2, e3⟩ | ⟨b, cl, hb, rfl, rfl⟩
    · rw [e1, e2]; exact ⟨true, .same _⟩
    · refine ⟨cl, ?_⟩
      have hn : H b = none := by
        cases hq : H b with
        | none => rfl
        | some k => rw [grow_le h2 b k hq] at hb; cases hb
      have := Fz.sl (H := G1.set b ⟨5, 87, R.heap.map rFault⟩) (K := H) (b := b) (sz := 5) (off := 0) (len := R.heap.length) (cl := cl) (AHeap.set_self ..) rfl (by simp) hn
      simpa [List.take_of_length_le] using this
  obtain ⟨c1, z1⟩ := hz1
  obtain ⟨c2, z2⟩ := hz2
  exact ⟨_, H, hle, fz_agg (.cons z1 (.cons (.same _) (.cons (.same _) (.cons z2 .nil)))), ⟨c1, c2, rfl⟩, rfl⟩
end
section
open Go Go.Sim
set_option maxRecDepth 100000

theorem xor64 (x y : Nat) (hx : x < 4611686018427387904) (hy : y < 4611686018427387904) : ∃ z : Nat, bits .xor .i64 (x : Int) (y : Int) = z ∧ z < 4611686018427387904 := by
  refine ⟨x ^^^ y, ?_, Nat.xor_lt_two_pow (n := 62) hx hy⟩
  have hz : x ^^^ y < 4611686018427387904 := Nat.xor_lt_two_pow (n := 62) hx hy
  show IntKind.i64.wrap ((BitVec.ofInt 64 (x : Int) ^^^ BitVec.ofInt 64 (y : Int)).toNat : Int) = _
  have h1 : (BitVec.ofInt 64 (x : Int)).toNat = x := by rw [BitVec.ofInt_natCast, BitVec.toNat_ofNat]; exact Nat.mod_eq_of_lt (by omega)
  have h2 : (BitVec.ofInt 64 (y : Int)).toNat = y := by rw [BitVec.ofInt_natCast, BitVec.toNat_ofNat]; exact Nat.mod_eq_of_lt (by omega)
  rw [BitVec.toNat_xor, h1, h2, w64 (by omega) (by omega)]

/-- A reader that has been asked at most n times, in a block of its own. -/
def Rd (F H : AHeap) (br : Nat) (n : Nat) : Prop := ∃ (bs : List UInt8) (cb : Bool) (p : Nat), bs.length ≤ 2000 ∧ p ≤ n ∧ F br = none ∧ H = F.set br ⟨2, 93, [[.vsl (bs.map rU) cb, I p]]⟩
section
variable {F H : AHeap} {br n m c : Nat} {K : ABlk}
end
theorem pick_val (a b p l k : Int) (ha : 0 ≤ a) (ha' : a ≤ 255) (hb : 0 ≤ b) (hb' : b ≤ 255) (hp : 0 ≤ p) (hp' : p ≤ 1000000000) (hl : 0 < l) (hk : 0 < k) :
    ∃ z : Int, (bits .xor .i64 (a * 131 + b * 1117 + p * 29 + p.tdiv l * 53) ((a * 131 + b * 1117 + p * 29 + p.tdiv l * 53).tdiv 64)).tmod k = z ∧ 0 ≤ z ∧ z < k := by
  have hd : 0 ≤ p.tdiv l ∧ p.tdiv l ≤ p := ⟨Int.tdiv_nonneg hp (by omega), Int.tdiv_le_self _ hp⟩
  generalize p.tdiv l = q at hd
  have h0 : 0 ≤ a * 131 + b * 1117 + p * 29 + q * 53 ∧ a * 131 + b * 1117 + p * 29 + q * 53 ≤ 1000000000000 := by omega
  generalize a * 131 + b * 1117 + p * 29 + q * 53 = x at h0
  obtain ⟨y, rfl⟩ := Int.eq_ofNat_of_zero_le h0.1
  have hdiv : ((y : Int)).tdiv 64 = ((y / 64 : Nat) : Int) := rfl
  rw [hdiv]
  obtain ⟨z, hz, hz'⟩ := xor64 y (y / 64) (by omega) (by omega)
  rw [hz]
  exact ⟨_, rfl, Int.tmod_nonneg _ (by omega), Int.tmod_lt_of_pos _ hk⟩

theorem c_pick (F H : AHeap) (br n : Nat) (k : Int) (h : Rd F H br n) (hn : n < 1000000000) : ACalls Tryz.prog 65 [.ptr br 2 0 0, I k] H fun r H' => ∃ v : Int, r = I v ∧ 0 ≤ v ∧ (0 < k → v < k) ∧ (k ≤ 0 → v = 0) ∧ Rd F H' br (n + 1) := by
  obtain ⟨bs, cb, p, h1, h2, h3, rfl⟩ := h
  refine acalls_of0 Tryz.func65 rfl (by kernel_rfl) rfl rfl (awp_sound (fz := fun _ => []) (im := fun _ => false) mixed _ _ _ _ (by kernel_rfl) ?_)
  simp +contextual -dsimp -implicitDefEqProofs (maxSteps := 5000000) only [go_sem, reduceIte, reduceCtorEq, Nat.reduceEqDiff, Nat.reduceBEq, Nat.reduceAdd, Nat.reduceLeDiff, Nat.reduceMul, Nat.reduceLT, Int.reduceEq, Int.reduceLT, Int.reduceLE]
  have hw : IntKind.i64.wrap ((p : Int) + 1) = ((p + 1 : Nat) : Int) := by rw [w64 (by omega) (by omega)]; simp
  have hRd : ∀ v : Int, 0 ≤ v → (0 < k → v < k) → (k ≤ 0 → v = 0) → ∃ v' : Int, I v = I v' ∧ 0 ≤ v' ∧ (0 < k → v' < k) ∧ (k ≤ 0 → v' = 0) ∧ Rd F (F.set br ⟨2, 93, [[.vsl (bs.map rU) cb, I (IntKind.i64.wrap ((p : Int) + 1))]]⟩) br (n + 1) :=
    fun v q1 q2 q3 => ⟨v, rfl, q1, q2, q3, bs, cb, p + 1, h1, by omega, h3, by rw [hw]⟩
  have hw2 : IntKind.i64.wrap (IntKind.i64.wrap ((p : Int) + 1) - 1) = (p : Int) := by rw [hw, w64 (by omega) (by omega)]; simp
  simp only [hw2, Int.toNat_natCast]
  refine ⟨fun q => hRd 0 (by omega) (fun h => h) (fun _ => rfl), fun q => ⟨fun hlt => ?_, fun hge => ?_⟩⟩
  · have hpl : p < bs.length := by omega
    have hb := (bs.getD p default).toNat_lt
    simp +contextual -dsimp -implicitDefEqProofs (maxSteps := 5000000) only [go_sem, reduceIte, reduceCtorEq, Nat.reduceEqDiff, Nat.reduceBEq, Nat.reduceAdd, Nat.reduceLeDiff, Nat.reduceMul, Nat.reduceLT, Int.reduceEq, Int.reduceLT, Int.reduceLE, hpl]
    refine ⟨by omega, ?_⟩
    rw [w64 (by omega) (by omega)]
    exact hRd _ (Int.tmod_nonneg _ (by omega)) (fun h => Int.tmod_lt_of_pos _ h) (fun h => by omega)
  · refine draw_intro [0, 0, 0, 0, 0, 0, 0, 0, 0, 0, 0, 0, 0, 0, 0, 0, 0, 0, 0, 0, 0, 0, 0, 0, 0, 0, 0, 0, 0, 0, 0, 0, 0, 0, 0, 0, 0, 0, 0, 0, 0, 0, 0, 0, 0, 0] AHeap.none (by kernel_rfl) none_le ?_
    have hl0 : ¬ (bs.length : Int) = 0 := by omega
    have hlp : (0 : Int) < bs.length := by omega
    have e1 : IntKind.i64.wrap ((p : Int) * 7) = (p : Int) * 7 := w64 (by omega) (by omega)
    have e2 : IntKind.i64.wrap ((p : Int) * 7 + 3) = (p : Int) * 7 + 3 := w64 (by omega) (by omega)
    have j1 := Int.tmod_nonneg (bs.length : Int) (show 0 ≤ (p : Int) by omega)
    have j2 := Int.tmod_lt_of_pos (p : Int) hlp
    have j3 := Int.tmod_nonneg (bs.length : Int) (show 0 ≤ (p : Int) * 7 + 3 by omega)
    have j4 := Int.tmod_lt_of_pos ((p : Int) * 7 + 3) hlp
    have j5 : ((p : Int).tmod bs.length).toNat < bs.length := by omega
    have j6 : (((p : Int) * 7 + 3).tmod bs.length).toNat < bs.length := by omega
    simp +contextual -dsimp -implicitDefEqProofs (maxSteps := 5000000) only [go_sem, reduceIte, reduceCtorEq, Nat.reduceEqDiff, Nat.reduceBEq, Nat.reduceAdd, Nat.reduceLeDiff, Nat.reduceMul, Nat.reduceLT, Int.reduceEq, Int.reduceLT, Int.reduceLE, hw2, hl0, e1, e2, j1, j2, j3, j4, j5, j6]
    have ha := (bs.getD ((p : Int).tmod bs.length).toNat default).toNat_lt
    have hb := (bs.getD (((p : Int) * 7 + 3).tmod bs.length).toNat default).toNat_lt
    generalize (bs.getD ((p : Int).tmod bs.length).toNat default).toNat = a at ha
    generalize (bs.getD (((p : Int) * 7 + 3).tmod bs.length).toNat default).toNat = b at hb
    have hk : 0 < k := by omega
    obtain ⟨z, hz, z0, z1⟩ := pick_val a b p bs.length k (by omega) (by omega) (by omega) (by omega) (by omega) (by omega) hlp hk
    have hd : 0 ≤ (p : Int).tdiv bs.length ∧ (p : Int).tdiv bs.length ≤ p := ⟨Int.tdiv_nonneg (by omega) (by omega), Int.tdiv_le_self _ (by omega)⟩
    generalize (p : Int).tdiv bs.length = q2 at hd hz
    rw [w64 (a := (a : Int)) (by omega) (by omega), w64 (a := (b : Int)) (by omega) (by omega), w64 (a := (a : Int) * 131) (by omega) (by omega), w64 (a := (b : Int) * 1117) (by omega) (by omega),
      w64 (a := (a : Int) * 131 + (b : Int) * 1117) (by omega) (by omega), w64 (a := (p : Int) * 29) (by omega) (by omega), w64 (a := (a : Int) * 131 + (b : Int) * 1117 + (p : Int) * 29) (by omega) (by omega),
      w64 (a := q2) (by omega) (by omega), w64 (a := q2 * 53) (by omega) (by omega), w64 (a := (a : Int) * 131 + (b : Int) * 1117 + (p : Int) * 29 + q2 * 53) (by omega) (by omega)]
    have hd2 : 0 ≤ ((a : Int) * 131 + (b : Int) * 1117 + (p : Int) * 29 + q2 * 53).tdiv 64 ∧ ((a : Int) * 131 + (b : Int) * 1117 + (p : Int) * 29 + q2 * 53).tdiv 64 ≤ (a : Int) * 131 + (b : Int) * 1117 + (p : Int) * 29 + q2 * 53 := ⟨Int.tdiv_nonneg (by omega) (by omega), Int.tdiv_le_self _ (by omega)⟩
    rw [w64 (a := ((a : Int) * 131 + (b : Int) * 1117 + (p : Int) * 29 + q2 * 53).tdiv 64) (by omega) (by omega), hz]
    exact ⟨by omega, hRd z z0 (fun _ => z1) (fun h => by omega)⟩
theorem c_newReader (bs : List UInt8) (cb : Bool) (H : AHeap) : ACalls Tryz.prog 32 [.vsl (bs.map rU) cb] H fun r H' => ∃ br, r = .ptr br 2 0 0 ∧ Rd H H' br 0 := by
  refine acalls_of0 Tryz.func32 rfl (by kernel_rfl) rfl rfl (awp_sound (fz := fun _ => []) (im := fun _ => false) mixed _ _ _ _ (by kernel_rfl) ?_)
  simp +contextual -dsimp -implicitDefEqProofs (maxSteps := 5000000) only [go_sem, reduceIte, reduceCtorEq, Nat.reduceEqDiff, Nat.reduceBEq, Nat.reduceAdd, Nat.reduceLeDiff, Nat.reduceMul, Nat.reduceLT, Int.reduceEq, Int.reduceLT, Int.reduceLE]
  refine ⟨fun h => ⟨by omega, fun b hb => ⟨b, rfl, _, _, 0, ?_, Nat.le_refl _, hb, rfl⟩⟩, fun h b hb => ⟨b, rfl, _, _, 0, by omega, Nat.le_refl _, hb, rfl⟩⟩
  simp; omega
theorem c_one (F H : AHeap) (br n : Nat) (l : List Int) (cl : Bool) (h : Rd F H br n) (hn : n < 1000000000) (hl : l ≠ []) : ACalls Tryz.prog 66 [.ptr br 2 0 0, .vsl (l.map rI) cl] H fun r H' => ∃ v, r = I v ∧ v ∈ l ∧ Rd F H' br (n + 1) := by
  have hp : 0 < l.length := List.length_pos_iff.2 hl
  refine acalls_of0 Tryz.func66 rfl (by kernel_rfl) rfl rfl (awp_sound (fz := fun _ => []) (im := fun _ => false) mixed _ _ _ _ (by kernel_rfl) ?_)
  simp +contextual -dsimp -implicitDefEqProofs (maxSteps := 5000000) only [go_sem, reduceIte, reduceCtorEq, Nat.reduceEqDiff, Nat.reduceBEq, Nat.reduceAdd, Nat.reduceLeDiff, Nat.reduceMul, Nat.reduceLT, Int.reduceEq, Int.reduceLT, Int.reduceLE]
  refine (c_pick F H br n l.length h hn).mono ?_
  rintro _ H' ⟨v, rfl, v0, v1, v2, hR⟩
  have v3 := v1 (by omega)
  simp +contextual -dsimp -implicitDefEqProofs (maxSteps := 5000000) only [go_sem, reduceIte, reduceCtorEq, Nat.reduceEqDiff, Nat.reduceBEq, Nat.reduceAdd, Nat.reduceLeDiff, Nat.reduceMul, Nat.reduceLT, Int.reduceEq, Int.reduceLT, Int.reduceLE, v0, v3]
  have i1 : v.toNat < l.length := by omega
  refine ⟨i1, l.getD v.toNat default, rfl, ?_, hR⟩
  rw [List.getD_eq_getElem?_getD, List.getElem?_eq_getElem i1]; exact List.getElem_mem i1
theorem c_of (F H : AHeap) (br n : Nat) (l : List Str) (cl : Bool) (h : Rd F H br n) (hn : n < 1000000000) (hl : l ≠ []) : ACalls Tryz.prog 97 [.ptr br 2 0 0, .vsl (l.map rS) cl] H fun r H' => ∃ v, r = S v ∧ v ∈ l ∧ Rd F H' br (n + 1) := by
  have hp : 0 < l.length := List.length_pos_iff.2 hl
  refine acalls_of0 Tryz.func97 rfl (by kernel_rfl) rfl rfl (awp_sound (fz := fun _ => []) (im := fun _ => false) mixed _ _ _ _ (by kernel_rfl) ?_)
  simp +contextual -dsimp -implicitDefEqProofs (maxSteps := 5000000) only [go_sem, reduceIte, reduceCtorEq, Nat.reduceEqDiff, Nat.reduceBEq, Nat.reduceAdd, Nat.reduceLeDiff, Nat.reduceMul, Nat.reduceLT, Int.reduceEq, Int.reduceLT, Int.reduceLE]
  refine (c_pick F H br n l.length h hn).mono ?_
  rintro _ H' ⟨v, rfl, v0, v1, v2, hR⟩
  have v3 := v1 (by omega)
  simp +contextual -dsimp -implicitDefEqProofs (maxSteps := 5000000) only [go_sem, reduceIte, reduceCtorEq, Nat.reduceEqDiff, Nat.reduceBEq, Nat.reduceAdd, Nat.reduceLeDiff, Nat.reduceMul, Nat.reduceLT, Int.reduceEq, Int.reduceLT, Int.reduceLE, v0, v3]
  have i1 : v.toNat < l.length := by omega
  refine ⟨i1, l.getD v.toNat default, rfl, ?_, hR⟩
  rw [List.getD_eq_getElem?_getD, List.getElem?_eq_getElem i1]; exact List.getElem_mem i1
end
section
open Go Go.Sim
set_option maxRecDepth 100000

/-- A reader's block, asked at most n times. -/
def RdK (n : Nat) (K : ABlk) : Prop := ∃ (bs : List UInt8) (cb : Bool) (p : Nat), bs.length ≤ 2000 ∧ p ≤ n ∧ K = ⟨2, 93, [[.vsl (bs.map rU) cb, I p]]⟩
theorem rdk_mono {n m : Nat} {K : ABlk} (h : RdK n K) (hm : n ≤ m) : RdK m K := by
  obtain ⟨bs, cb, p, h1, h2, h3⟩ := h
  exact ⟨bs, cb, p, h1, Nat.le_trans h2 hm, h3⟩
theorem rd_of {F : AHeap} {br n : Nat} {K : ABlk} (h : RdK n K) (hF : F br = none) : Rd F (F.set br K) br n := by
  obtain ⟨bs, cb, p, h1, h2, rfl⟩ := h
  exact ⟨bs, cb, p, h1, h2, hF, rfl⟩
theorem rd_to {F H : AHeap} {br n : Nat} (h : Rd F H br n) : ∃ K, RdK n K ∧ H = F.set br K := by
  obtain ⟨bs, cb, p, h1, h2, h3, rfl⟩ := h
  exact ⟨_, ⟨bs, cb, p, h1, h2, rfl⟩, rfl⟩
theorem k_pick {F : AHeap} {br n : Nat} {K : ABlk} (k : Int) (h : RdK n K) (hF : F br = none) (hn : n < 1000000000) {H : AHeap} (hH : H = F.set br K) {Q : AV → AHeap → Prop}
    (k0 : ∀ (v : Int) K', 0 ≤ v → (0 < k → v < k) → (k ≤ 0 → v = 0) → RdK (n + 1) K' → Q (I v) (F.set br K')) : ACalls Tryz.prog 65 [.ptr br 2 0 0, I k] H Q := by
  subst hH
  refine (c_pick F _ br n k (rd_of h hF) hn).mono ?_
  rintro _ H' ⟨v, rfl, v0, v1, v2, hR⟩
  obtain ⟨K', hK, rfl⟩ := rd_to hR
  exact k0 v K' v0 v1 v2 hK
theorem k_one {F : AHeap} {br n : Nat} {K : ABlk} (l : List Int) (cl : Bool) (h : RdK n K) (hF : F br = none) (hn : n < 1000000000) (hl : l ≠ []) {H : AHeap} (hH : H = F.set br K) {Q : AV → AHeap → Prop} {es : List (List AV)} (hes : es = l.map rI)
    (k0 : ∀ (v : Int) K', v ∈ l → RdK (n + 1) K' → Q (I v) (F.set br K')) : ACalls Tryz.prog 66 [.ptr br 2 0 0, .vsl es cl] H Q := by
  subst hH hes
  refine (c_one F _ br n l cl (rd_of h hF) hn hl).mono ?_
  rintro _ H' ⟨v, rfl, v0, hR⟩
  obtain ⟨K', hK, rfl⟩ := rd_to hR
  exact k0 v K' v0 hK
theorem k_of {F : AHeap} {br n : Nat} {K : ABlk} (l : List Str) (cl : Bool) (h : RdK n K) (hF : F br = none) (hn : n < 1000000000) (hl : l ≠ []) {H : AHeap} (hH : H = F.set br K) {Q : AV → AHeap → Prop} {es : List (List AV)} (hes : es = l.map rS)
    (k0 : ∀ (v : Str) K', v ∈ l → RdK (n + 1) K' → Q (S v) (F.set br K')) : ACalls Tryz.prog 97 [.ptr br 2 0 0, .vsl es cl] H Q := by
  subst hH hes
  refine (c_of F _ br n l cl (rd_of h hF) hn hl).mono ?_
  rintro _ H' ⟨v, rfl, v0, hR⟩
  obtain ⟨K', hK, rfl⟩ := rd_to hR
  exact k0 v K' v0 hK

def treeNames : List Str := [[97, 110, 121], [105, 111], [107, 101, 121], [116, 105, 109, 101], [110, 101, 116], [100, 105, 115, 107], [116, 121, 112, 101], [111, 100, 100]]
theorem treeNames_len : treeNames.length = 8 := rfl
def shortNames (l : List Class) : Prop := ∀ c ∈ l, c.name.length ≤ 10
theorem short_ok {l : List Class} (h : shortNames l) : namesOk l := fun c hc => by have := h c hc; omega
theorem c_goodTree (F : AHeap) (br n : Nat) (K : ABlk) (h : RdK n K) (hF : F br = none) (hn : n < 900000000) : ACalls Tryz.prog 96 [.ptr br 2 0 0] (F.set br K) fun r H' =>
    ∃ x l G K', r = .agg [x] ∧ Grow rClass 2 98 F G x l ∧ G br = none ∧ H' = G.set br K' ∧ RdK (n + 20) K' ∧ 1 ≤ l.length ∧ l.length ≤ 8 ∧ shortNames l := by
  refine acalls_of1 Tryz.func96 rfl (by kernel_rfl) rfl rfl (awp_sound (fz := fun _ => []) (im := fun s => s == 7 || s == 12) mixed _ _ _ _ (by kernel_rfl) ?_)
  simp +contextual -dsimp -implicitDefEqProofs (maxSteps := 5000000) only [go_sem, reduceIte, reduceCtorEq, Nat.reduceEqDiff, Nat.reduceBEq, Nat.reduceAdd, Nat.reduceLeDiff, Nat.reduceMul, Nat.reduceLT, Int.reduceEq, Int.reduceLT, Int.reduceLE]
  rintro b2 ⟨p1, p2, hb2⟩ b9 ⟨q1, q2, q3, q4, hb9⟩ b4 ⟨m1, m2, m3, m4, m5, m6, hb4⟩
  have hg0 : Grow rClass 2 98 F (F.set b9 ⟨2, 98, [⟨[97, 110, 121], -1⟩].map rClass⟩) (.sl b9 2 0 1 true) [⟨[97, 110, 121], -1⟩] := .inr ⟨b9, true, hb9, rfl, rfl⟩
  have hH : (((F.set br K).set b2 ⟨1, 25, [[.vsl [] true]]⟩).set b9 ⟨2, 98, [[S [97, 110, 121], I (-1)]]⟩).set b4 ⟨1, 25, [[.sl b9 2 0 1 true]]⟩ =
      (((F.set b9 ⟨2, 98, [⟨[97, 110, 121], -1⟩].map rClass⟩).set b2 ⟨1, 25, [[.vsl [] true]]⟩).set b4 ⟨1, 25, [[.sl b9 2 0 1 true]]⟩).set br K := by
    rw [set_comm (H := F) (Ne.symm p1), set_comm (H := F.set b2 _) (Ne.symm q3), set_comm (H := (F.set b2 _).set b9 _) (Ne.symm m5), set_comm (H := F) (Ne.symm q1)]
    rfl
  rw [hH]
  have e2 : (F.set b9 ⟨2, 98, [⟨[97, 110, 121], -1⟩].map rClass⟩) b2 = none := by rw [set_other q2]; exact hb2
  have e4 : (F.set b9 ⟨2, 98, [⟨[97, 110, 121], -1⟩].map rClass⟩) b4 = none := by rw [set_other m1]; exact hb4
  have er : (F.set b9 ⟨2, 98, [⟨[97, 110, 121], -1⟩].map rClass⟩) br = none := by rw [set_other q4]; exact hF
  generalize F.set b9 ⟨2, 98, [⟨[97, 110, 121], -1⟩].map rClass⟩ = G0 at hg0 e2 e4 er ⊢
  generalize AV.sl b9 2 0 1 true = x0 at hg0 ⊢
  have none3 : ∀ (G : AHeap) (K2 K4 : ABlk), G br = none → ((G.set b2 K2).set b4 K4) br = none := fun G K2 K4 h => by rw [set_other m6, set_other p2]; exact h
  refine k_one [4, 5, 3, 6, 2, 1, 8] _ h (none3 _ _ _ er) (by omega) (by simp) rfl rfl fun v K1 hv hK1 => ?_
  have hv8 : 1 ≤ v ∧ v ≤ 8 := by simp at hv; omega
  clear hH
  simp +contextual -dsimp -implicitDefEqProofs (maxSteps := 5000000) only [go_sem, reduceIte, reduceCtorEq, Nat.reduceEqDiff, Nat.reduceBEq, Nat.reduceAdd, Nat.reduceLeDiff, Nat.reduceMul, Nat.reduceLT, Int.reduceEq, Int.reduceLT, Int.reduceLE]
  refine aloop mixed (fz := fun _ => []) (im := fun s => s == 7 || s == 12) (by kernel_rfl) (fun m tm H' => ∃ (i : Nat) (G : AHeap) (x : AV) (l : List Class) (K : ABlk), m = v.toNat - i ∧ 1 ≤ i ∧ i ≤ v ∧ l.length = i ∧ shortNames l ∧ Grow rClass 2 98 F G x l ∧ G b2 = none ∧ G b4 = none ∧ G br = none ∧ RdK (n + 2 + 2 * i) K ∧
    H' = ((G.set b2 ⟨1, 25, [[.vsl [] true]]⟩).set b4 ⟨1, 25, [[x]]⟩).set br K ∧ tm 0 = .ptr br 2 0 0 ∧ tm 2 = .ptr b2 1 0 0 ∧ tm 3 = .vsl (treeNames.map rS) true ∧ tm 4 = .ptr b4 1 0 0 ∧ tm 5 = I v ∧ tm 6 = I i) (v.toNat - 1) ⟨1, G0, x0, _, K1, rfl, by omega, by omega, rfl, ?_, hg0, e2, e4, er, rdk_mono hK1 (by omega), rfl, ?_⟩ ?_
  · intro c hc; simp at hc; subst hc; decide
  · simp +contextual -dsimp -implicitDefEqProofs (maxSteps := 5000000) only [go_sem, reduceIte, reduceCtorEq, Nat.reduceEqDiff, Nat.reduceBEq, Nat.reduceAdd, Nat.reduceLeDiff, Nat.reduceMul, Nat.reduceLT, Int.reduceEq, Int.reduceLT, Int.reduceLE]
    exact ⟨rfl, rfl⟩
  · rintro m tm H' ⟨i, G, x, l, K, rfl, hi1, hi, hl, hs, hg, f2, f4, fr, hK, rfl, t0, t2, t3, t4, t5, t6⟩
    obtain ⟨r1, r2⟩ := one_grow hg
    simp +contextual -dsimp -implicitDefEqProofs (maxSteps := 5000000) only [go_sem, reduceIte, reduceCtorEq, Nat.reduceEqDiff, Nat.reduceBEq, Nat.reduceAdd, Nat.reduceLeDiff, Nat.reduceMul, Nat.reduceLT, Int.reduceEq, Int.reduceLT, Int.reduceLE, t0, t2, t3, t4, t5, t6, p1, p2, m3, m4, m5, m6, r1, r2]
    refine ⟨fun hlt => ?_, fun hge => ?_⟩
    · refine draw_intro [0, 1, 0, 0, 0, 1, 0, 0, 0, 3, 0, 0, 0, 3, 0, 0, 2, 0, 2] ((G.set b2 ⟨1, 25, [[.vsl [] true]]⟩).set b4 ⟨1, 25, [[x]]⟩) (by kernel_rfl) (le_set (none3 _ _ _ fr)) ?_
      have i8 : i < 8 := by omega
      have hnm : (treeNames.getD i default).length ≤ 10 := by
        have : ∀ j, j < 8 → (treeNames.getD j default).length ≤ 10 := by decide
        exact this i i8
      simp +contextual -dsimp -implicitDefEqProofs (maxSteps := 5000000) only [go_sem, reduceIte, reduceCtorEq, Nat.reduceEqDiff, Nat.reduceBEq, Nat.reduceAdd, Nat.reduceLeDiff, Nat.reduceMul, Nat.reduceLT, Int.reduceEq, Int.reduceLT, Int.reduceLE, t0, t2, t3, t4, t5, t6, p1, p2, m3, m4, m5, m6, r1, r2, treeNames_len, i8]
      refine k_pick i hK (none3 _ _ _ fr) (by omega) rfl fun u K2 u0 u1 u2 hK2 => ⟨le_set (none3 _ _ _ fr), ?_⟩
      simp +contextual -dsimp -implicitDefEqProofs (maxSteps := 5000000) only [go_sem, reduceIte, reduceCtorEq, Nat.reduceEqDiff, Nat.reduceBEq, Nat.reduceAdd, Nat.reduceLeDiff, Nat.reduceMul, Nat.reduceLT, Int.reduceEq, Int.reduceLT, Int.reduceLE, t0, t2, t3, t4, t5, t6, p1, p2, m3, m4, m5, m6, r1, r2, treeNames_len, i8]
      refine k_one [0, u, IntKind.i64.wrap ((i : Int) - 1)] _ hK2 (none3 _ _ _ fr) (by omega) (by simp) rfl rfl fun z K3 hz hK3 => ⟨le_set (none3 _ _ _ fr), ?_⟩
      simp +contextual -dsimp -implicitDefEqProofs (maxSteps := 5000000) only [go_sem, reduceIte, reduceCtorEq, Nat.reduceEqDiff, Nat.reduceBEq, Nat.reduceAdd, Nat.reduceLeDiff, Nat.reduceMul, Nat.reduceLT, Int.reduceEq, Int.reduceLT, Int.reduceLE, t0, t2, t3, t4, t5, t6, p1, p2, m3, m4, m5, m6, r1, r2, treeNames_len, i8]
      have f4' : (G.set b2 ⟨1, 25, [[.vsl [] true]]⟩) b4 = none := by rw [set_other m3]; exact f4
      refine grow_append (m := [⟨treeNames.getD i default, z⟩]) te23 ti98 rClass_len (by decide) (grow_in (grow_in (grow_in hg f2) f4') (none3 _ _ _ fr)) (by simp; omega) (by simp; omega) rfl fun x' H' hg' => ?_
      have g2 := grow_none hg f2
      have g4 := grow_none hg f4
      have gr := grow_none hg fr
      obtain ⟨G1, hg1, rfl, u7⟩ := grow_out hg' (none3 _ _ _ gr)
      obtain ⟨G2, hg2, rfl, u6⟩ := grow_out hg1 (by rw [set_other m3]; exact g4)
      obtain ⟨G3, hg3, rfl, u5⟩ := grow_out hg2 g2
      obtain ⟨r3, r4⟩ := one_grow hg3
      rw [set_other m3] at u6
      rw [set_other m6, set_other p2] at u7
      simp +contextual -dsimp -implicitDefEqProofs (maxSteps := 5000000) only [go_sem, reduceIte, reduceCtorEq, Nat.reduceEqDiff, Nat.reduceBEq, Nat.reduceAdd, Nat.reduceLeDiff, Nat.reduceMul, Nat.reduceLT, Int.reduceEq, Int.reduceLT, Int.reduceLE, t0, t2, t3, t4, t5, t6, p1, p2, m3, m4, m5, m6, r1, r2, r3, r4, treeNames_len, i8]
      refine ⟨_, ?_, i + 1, G3, x', l ++ [⟨treeNames.getD i default, z⟩], K3, rfl, by omega, by omega, by simp [hl], ?_, hg3, u5, u6, u7, rdk_mono hK3 (by omega), rfl, I_wrap (by simp) (by omega) (by omega)⟩
      · omega
      · intro c hc
        rcases List.mem_append.1 hc with q | q
        · exact hs c q
        · simp at q; subst q; exact hnm
    · refine retR_less (l := [.agg [x]]) (H' := G.set br K) ?_ (fun c k hc => ?_) ⟨x, l, G, K, rfl, hg, fr, rfl, rdk_mono hK (by omega), by omega, by omega, hs⟩
      · simp only [resA, go_sem, reduceIte, reduceCtorEq, Nat.reduceEqDiff, Nat.reduceBEq, Nat.reduceAdd, Nat.reduceLeDiff, Nat.reduceMul, Nat.reduceLT, Int.reduceEq, Int.reduceLT, Int.reduceLE, p1, p2, m3, m4, m5, m6, t2]
      · by_cases c0 : c = br
        · subst c0; rw [AHeap.set_self] at hc ⊢; exact hc
        · rw [set_other c0] at hc
          have c1 : c ≠ b2 := fun e => by rw [e, f2] at hc; cases hc
          have c2 : c ≠ b4 := fun e => by rw [e, f4] at hc; cases hc
          rw [set_other c0, set_other c2, set_other c1]; exact hc
end
section
open Go Go.Sim
set_option maxRecDepth 100000

theorem br_out {F : AHeap} {br b : Nat} {K K2 : ABlk} (h : b ≠ br) : (F.set br K).set b K2 = (F.set b K2).set br K := set_comm (Ne.symm h)
theorem le_ch {F G : AHeap} {br : Nat} {K : ABlk} (h : AHeap.le F G) : AHeap.le (F.set br K) (G.set br K) := by
  intro c k hc
  by_cases c0 : c = br
  · subst c0; rw [AHeap.set_self] at hc ⊢; exact hc
  · rw [set_other c0] at hc ⊢; exact h c k hc
theorem le_s1 {F G : AHeap} {b : Nat} {A : ABlk} (h : AHeap.le F G) (hb : F b = none) : AHeap.le F (G.set b A) := by
  intro c k hc
  have c1 : c ≠ b := fun e => by rw [e, hb] at hc; cases hc
  rw [set_other c1]; exact h c k hc
theorem c_someTree (F : AHeap) (br n : Nat) (K : ABlk) (h : RdK n K) (hF : F br = none) (hn : n < 800000000) : ACalls Tryz.prog 63 [.ptr br 2 0 0] (F.set br K) fun r H' =>
    ∃ x l G K', r = .agg [x] ∧ Grow rClass 2 98 F G x l ∧ G br = none ∧ H' = G.set br K' ∧ RdK (n + 25) K' ∧ l.length ≤ 8 ∧ shortNames l := by
  refine acalls_of1 Tryz.func63 rfl (by kernel_rfl) rfl rfl (awp_sound (fz := fun _ => []) (im := fun _ => false) mixed _ _ _ _ (by kernel_rfl) ?_)
  simp +contextual -dsimp -implicitDefEqProofs (maxSteps := 5000000) only [go_sem, reduceIte, reduceCtorEq, Nat.reduceEqDiff, Nat.reduceBEq, Nat.reduceAdd, Nat.reduceLeDiff, Nat.reduceMul, Nat.reduceLT, Int.reduceEq, Int.reduceLT, Int.reduceLE]
  rintro b2 ⟨p1, p2, hb2⟩
  have n2 : ∀ K4, (F.set b2 K4) br = none := fun K4 => by rw [set_other p2]; exact hF
  rw [br_out p1]
  refine (c_goodTree _ br n K h (n2 _) (by omega)).mono ?_
  rintro _ _ ⟨x, l, G0, K1, rfl, hg0, hr0, rfl, hK1, hl1, hl8, hs⟩
  obtain ⟨G, hg, rfl, e2⟩ := grow_out hg0 hb2
  rw [set_other p2] at hr0
  -- the slice has a block of its own
  rcases hg with ⟨e, _, _⟩ | ⟨bx, clx, hbx, rfl, rfl⟩
  · rw [e] at hl1; simp at hl1
  simp +contextual -dsimp -implicitDefEqProofs (maxSteps := 5000000) only [go_sem, reduceIte, reduceCtorEq, Nat.reduceEqDiff, Nat.reduceBEq, Nat.reduceAdd, Nat.reduceLeDiff, Nat.reduceMul, Nat.reduceLT, Int.reduceEq, Int.reduceLT, Int.reduceLE]
  intro b3 hb3c
  obtain ⟨q1, q2, q3, q4, w1, w2, hb3f⟩ := hb3c
  have hb3 : (F.set bx ⟨2, 98, l.map rClass⟩) b3 = none := by rw [set_other w1]; exact hb3f
  rw [br_out q1]
  have n3 : ∀ (G : AHeap) (K2 K4 : ABlk), G br = none → ((G.set b2 K2).set b3 K4) br = none := fun G K2 K4 h => by rw [set_other q2, set_other p2]; exact h
  have hb3' := hb3
  have e2' := e2
  have hr' := hr0
  rw [set_none] at hb3' e2' hr'
  have w1 := hb3'.1
  have w2 := hb3'.2.1
  have w3 := e2'.1
  have w4 := e2'.2.1
  have w5 := hr'.1
  have w6 := hr'.2.1
  have fin : ∀ (l' : List Class) (K2 K3 : ABlk) (tm : Tm), l'.length = l.length → shortNames l' → RdK (n + 25) K3 → tm 2 = .ptr b2 1 0 0 → retR Tryz.prog [.cell 2 25] (fun r H' => ∃ x l G K', r = .agg [x] ∧ Grow rClass 2 98 F G x l ∧ G br = none ∧ H' = G.set br K' ∧ RdK (n + 25) K' ∧ l.length ≤ 8 ∧ shortNames l) tm
      ((((F.set bx ⟨2, 98, l'.map rClass⟩).set b2 ⟨1, 25, [[.sl bx 2 0 l.length clx]]⟩).set b3 K2).set br K3) := by
    intro l' K2 K3 tm hl' hs' hK h2
    have f2 : (F.set bx ⟨2, 98, l'.map rClass⟩) b2 = none := by rw [set_other w3]; exact hb2
    have f3 : (F.set bx ⟨2, 98, l'.map rClass⟩) b3 = none := by rw [set_other w1]; exact hb3'.2.2
    refine retR_less (l := [.agg [.sl bx 2 0 l.length clx]]) (H' := (F.set bx ⟨2, 98, l'.map rClass⟩).set br K3) ?_ (le_ch (le_s1 (le_s1 (AHeap.le_refl _) f2) f3)) ⟨_, l', _, K3, rfl, .inr ⟨bx, clx, hbx, by rw [hl'], rfl⟩, by rw [set_other w5]; exact hF, rfl, hK, by omega, hs'⟩
    simp only [resA, go_sem, reduceIte, reduceCtorEq, Nat.reduceEqDiff, Nat.reduceBEq, Nat.reduceAdd, Nat.reduceLeDiff, Nat.reduceMul, Nat.reduceLT, Int.reduceEq, Int.reduceLT, Int.reduceLE, p1, p2, q1, q2, q3, q4, h2]
  refine k_pick l.length hK1 (n3 _ _ _ hr0) (by omega) rfl fun v K2 v0 v1 v2 hK2 => ?_
  have vl := v1 (by omega)
  have vn : v.toNat < l.length := by omega
  simp +contextual -dsimp -implicitDefEqProofs (maxSteps := 5000000) only [go_sem, reduceIte, reduceCtorEq, Nat.reduceEqDiff, Nat.reduceBEq, Nat.reduceAdd, Nat.reduceLeDiff, Nat.reduceMul, Nat.reduceLT, Int.reduceEq, Int.reduceLT, Int.reduceLE, p1, p2, q1, q2, q3, q4, w1, w2, w3, w4, w5, w6]
  refine k_pick 24 hK2 (n3 _ _ _ hr0) (by omega) rfl fun z K3 z0 z1 z2 hK3 => ?_
  by_cases c0 : z = 0
  · simp +contextual -dsimp -implicitDefEqProofs (maxSteps := 5000000) only [go_sem, reduceIte, reduceCtorEq, Nat.reduceEqDiff, Nat.reduceBEq, Nat.reduceAdd, Nat.reduceLeDiff, Nat.reduceMul, Nat.reduceLT, Int.reduceEq, Int.reduceLT, Int.reduceLE, c0, p1, p2, q1, q2, q3, q4, w1, w2, w3, w4, w5, w6]
    refine draw_intro [0, 1, 0, 0, 0, 3, 0, 0, 2] _ (by kernel_rfl) (le_set (n3 _ _ _ hr0)) ?_
    simp +contextual -dsimp -implicitDefEqProofs (maxSteps := 5000000) only [go_sem, reduceIte, reduceCtorEq, Nat.reduceEqDiff, Nat.reduceBEq, Nat.reduceAdd, Nat.reduceLeDiff, Nat.reduceMul, Nat.reduceLT, Int.reduceEq, Int.reduceLT, Int.reduceLE, c0, p1, p2, q1, q2, q3, q4, w1, w2, w3, w4, w5, w6]
    refine k_of [[], [97, 110, 121], [65], [116, 111, 111, 108, 111, 110, 103]] _ hK3 (n3 _ _ _ hr0) (by omega) (by simp) rfl rfl fun s K4 hsm hK4 => ⟨le_set (n3 _ _ _ hr0), ?_⟩
    have hsl : s.length ≤ 10 := by simp at hsm; rcases hsm with rfl | rfl | rfl | rfl <;> decide
    simp +contextual -dsimp -implicitDefEqProofs (maxSteps := 5000000) only [go_sem, reduceIte, reduceCtorEq, Nat.reduceEqDiff, Nat.reduceBEq, Nat.reduceAdd, Nat.reduceLeDiff, Nat.reduceMul, Nat.reduceLT, Int.reduceEq, Int.reduceLT, Int.reduceLE, c0, p1, p2, q1, q2, q3, q4, w1, w2, w3, w4, w5, w6, v0, vl, vn]
    rw [wrO_y (y := { l.getD v.toNat default with name := s }) vn rfl]
    simp +contextual -dsimp -implicitDefEqProofs (maxSteps := 5000000) only [go_sem, reduceIte, reduceCtorEq, Nat.reduceEqDiff, Nat.reduceBEq, Nat.reduceAdd, Nat.reduceLeDiff, Nat.reduceMul, Nat.reduceLT, Int.reduceEq, Int.reduceLT, Int.reduceLE, c0, p1, p2, q1, q2, q3, q4, w1, w2, w3, w4, w5, w6, v0, vl, vn]
    refine fin (l.set v.toNat { l.getD v.toNat default with name := s }) _ K4 _ (by simp) (fun c hc => ?_) (rdk_mono hK4 (by omega)) ?_
    · rcases List.mem_or_eq_of_mem_set hc with q | rfl
      · exact hs c q
      · exact hsl
    · rfl
  · by_cases c1 : z = 1
    · simp +contextual -dsimp -implicitDefEqProofs (maxSteps := 5000000) only [go_sem, reduceIte, reduceCtorEq, Nat.reduceEqDiff, Nat.reduceBEq, Nat.reduceAdd, Nat.reduceLeDiff, Nat.reduceMul, Nat.reduceLT, Int.reduceEq, Int.reduceLT, Int.reduceLE, c0, c1, p1, p2, q1, q2, q3, q4, w1, w2, w3, w4, w5, w6]
      refine draw_intro [0, 1, 0, 0, 0, 0, 3, 0, 0, 2] _ (by kernel_rfl) (le_set (n3 _ _ _ hr0)) ?_
      simp +contextual -dsimp -implicitDefEqProofs (maxSteps := 5000000) only [go_sem, reduceIte, reduceCtorEq, Nat.reduceEqDiff, Nat.reduceBEq, Nat.reduceAdd, Nat.reduceLeDiff, Nat.reduceMul, Nat.reduceLT, Int.reduceEq, Int.reduceLT, Int.reduceLE, c0, p1, p2, q1, q2, q3, q4, w1, w2, w3, w4, w5, w6]
      refine k_one [v, -1, 8, -2] _ hK3 (n3 _ _ _ hr0) (by omega) (by simp) rfl rfl fun s K4 hsm hK4 => ⟨le_set (n3 _ _ _ hr0), ?_⟩
      simp +contextual -dsimp -implicitDefEqProofs (maxSteps := 5000000) only [go_sem, reduceIte, reduceCtorEq, Nat.reduceEqDiff, Nat.reduceBEq, Nat.reduceAdd, Nat.reduceLeDiff, Nat.reduceMul, Nat.reduceLT, Int.reduceEq, Int.reduceLT, Int.reduceLE, c0, p1, p2, q1, q2, q3, q4, w1, w2, w3, w4, w5, w6, v0, vl, vn]
      rw [wrO_y (y := { l.getD v.toNat default with parent := s }) vn rfl]
      simp +contextual -dsimp -implicitDefEqProofs (maxSteps := 5000000) only [go_sem, reduceIte, reduceCtorEq, Nat.reduceEqDiff, Nat.reduceBEq, Nat.reduceAdd, Nat.reduceLeDiff, Nat.reduceMul, Nat.reduceLT, Int.reduceEq, Int.reduceLT, Int.reduceLE, c0, p1, p2, q1, q2, q3, q4, w1, w2, w3, w4, w5, w6, v0, vl, vn]
      refine fin (l.set v.toNat { l.getD v.toNat default with parent := s }) _ K4 _ (by simp) (fun c hc => ?_) (rdk_mono hK4 (by omega)) ?_
      · rcases List.mem_or_eq_of_mem_set hc with q | rfl
        · exact hs c q
        · exact hs (l.getD v.toNat default) (by rw [List.getD_eq_getElem?_getD, List.getElem?_eq_getElem vn]; exact List.getElem_mem vn)
      · rfl
    · by_cases c2 : z = 2
      · simp +contextual -dsimp -implicitDefEqProofs (maxSteps := 5000000) only [go_sem, reduceIte, reduceCtorEq, Nat.reduceEqDiff, Nat.reduceBEq, Nat.reduceAdd, Nat.reduceLeDiff, Nat.reduceMul, Nat.reduceLT, Int.reduceEq, Int.reduceLT, Int.reduceLE, c0, c1, c2, p1, p2, q1, q2, q3, q4, w1, w2, w3, w4, w5, w6]
        refine retR_less (l := [.agg [.vsl [] true]]) (H' := F.set br K3) ?_ (le_ch (le_s1 (le_s1 (le_s1 (AHeap.le_refl _) hbx) hb2) hb3f)) ⟨_, [], F, K3, rfl, grow_nil, hF, rfl, rdk_mono hK3 (by omega), by simp, fun c hc => by cases hc⟩
        simp only [resA, go_sem, reduceIte, reduceCtorEq, Nat.reduceEqDiff, Nat.reduceBEq, Nat.reduceAdd, Nat.reduceLeDiff, Nat.reduceMul, Nat.reduceLT, Int.reduceEq, Int.reduceLT, Int.reduceLE, p1, p2, q1, q2, q3, q4, w1, w2, w3, w4, w5, w6]
      · simp +contextual -dsimp -implicitDefEqProofs (maxSteps := 5000000) only [go_sem, reduceIte, reduceCtorEq, Nat.reduceEqDiff, Nat.reduceBEq, Nat.reduceAdd, Nat.reduceLeDiff, Nat.reduceMul, Nat.reduceLT, Int.reduceEq, Int.reduceLT, Int.reduceLE, c0, c1, c2, p1, p2, q1, q2, q3, q4, w1, w2, w3, w4, w5, w6]
        refine fin l _ K3 _ rfl hs (rdk_mono hK3 (by omega)) ?_
        rfl
end
section
open Go Go.Sim
set_option maxRecDepth 100000

theorem c_someTreeF (F : AHeap) (br n : Nat) (K : ABlk) (h : RdK n K) (hF : F br = none) (hn : n < 800000000) : ACalls Tryz.prog 63 [.ptr br 2 0 0] (F.set br K) fun r H' =>
    ∃ l cl K', r = aTree l cl ∧ H' = F.set br K' ∧ RdK (n + 25) K' ∧ l.length ≤ 8 ∧ shortNames l := by
  refine acalls_fz (c_someTree F br n K h hF hn) ?_
  rintro _ _ ⟨x, l, G, K', rfl, hg, hr, rfl, hK, hl, hs⟩
  have hg' := grow_in (K := K') hg hr
  obtain ⟨cl, hz⟩ := grow_fz hg'
  exact ⟨_, F.set br K', grow_le hg', fz_agg (.cons hz .nil), l, cl, K', rfl, rfl, hK, hl, hs⟩
end
section
open Go Go.Sim
set_option maxRecDepth 100000

theorem bfsG_dch {h : List Fault} (ho : heapOk h) : ∀ (n : Nat) (pre : List Int) (f : Int), 0 ≤ f → f < h.length → f < n → (∀ a ∈ pre, f < a) → bfsG h n pre.length (pre ++ [f]) = pre ++ dchF h f
  | 0, pre, f, h0, h1, h2, _ => by omega
  | n + 1, pre, f, h0, h1, h2, h3 => by
    obtain ⟨o1, o2, o3⟩ := ho f.toNat (by omega)
    have e : (pre ++ [f]).getD pre.length default = f := by simp [List.getD_eq_getElem?_getD]
    have e1 : causeOf h f = -1 := o1
    have e2 : -1 ≤ ctxOf h f := o2
    have e3 : ctxOf h f < f := by have : ctxOf h f < f.toNat := o3
                                  omega
    simp only [bfsG]
    rw [if_pos (by simp), e, e1, dchF_step ho h0 h1]
    have a1 : addF (pre ++ [f]) (-1) = pre ++ [f] := by unfold addF; rw [if_neg (by omega)]
    rw [a1]
    by_cases hg : ctxOf h f < 0
    · have a2 : addF (pre ++ [f]) (ctxOf h f) = pre ++ [f] := by unfold addF; rw [if_neg (by omega)]
      rw [a2, dchF_neg hg]
      cases n with
      | zero => rfl
      | succ n => simp only [bfsG]; rw [if_neg (by simp)]
    · have a2 : addF (pre ++ [f]) (ctxOf h f) = (pre ++ [f]) ++ [ctxOf h f] := by
        have hany : ((pre ++ [f]).any fun x => decide (ctxOf h f = x)) = false := by
          rw [List.any_eq_false]
          intro a ha
          rcases List.mem_append.1 ha with q | q
          · have := h3 a q
            have : ¬ ctxOf h f = a := by omega
            simp [this]
          · simp at q
            have : ¬ ctxOf h f = a := by omega
            simp [this]
        unfold addF
        rw [if_pos ⟨by omega, hany⟩]
      rw [a2]
      have := bfsG_dch ho n (pre ++ [f]) (ctxOf h f) (by omega) (by omega) (by omega) (fun a ha => by
        rcases List.mem_append.1 ha with q | q
        · have := h3 a q; omega
        · simp at q; subst q; exact e3)
      rw [List.length_append] at this
      simpa using this
theorem bfsF_dch {h : List Fault} (ho : heapOk h) {f : Int} (h0 : 0 ≤ f) (h1 : f < h.length) : bfsF h f = dchF h f :=
  bfsG_dch ho (h.length + 1) [] f h0 h1 (by omega) (fun a ha => by cases ha)
theorem dchG_dec {h : List Fault} (ho : heapOk h) : ∀ (n : Nat) (f : Int), f < h.length → (dchG h n f).Pairwise (fun a b => b < a) ∧ ∀ a ∈ dchG h n f, a ≤ f
  | 0, f, _ => ⟨.nil, fun a ha => by cases ha⟩
  | n + 1, f, h1 => by
    simp only [dchG]
    split
    · rename_i h0
      obtain ⟨o1, o2, o3⟩ := ho f.toNat (by omega)
      have e3 : ctxOf h f < f := by have : ctxOf h f < f.toNat := o3
                                    omega
      obtain ⟨q1, q2⟩ := dchG_dec ho n (ctxOf h f) (by omega)
      refine ⟨.cons (fun a ha => by have := q2 a ha; omega) q1, fun a ha => ?_⟩
      rcases List.mem_cons.1 ha with q | q
      · omega
      · have := q2 a q; omega
    · exact ⟨.nil, fun a ha => by cases ha⟩
theorem sortI_dec {d : List Int} (hp : d.Pairwise (fun a b => b < a)) : sortI d = d.reverse := by
  have s1 : (sortI d).Pairwise (fun a b => a ≤ b) := by
    have := List.pairwise_mergeSort (le := fun x y : Int => decide (x ≤ y)) (fun a b c h1 h2 => by simp at *; omega) (fun a b => by simp; omega) d
    exact this.imp (fun h => by simpa using h)
  have s2 : d.reverse.Pairwise (fun a b => a ≤ b) := by
    rw [List.pairwise_reverse]
    exact hp.imp (fun h => by omega)
  have pm : (sortI d).Perm d.reverse := (List.mergeSort_perm d _).trans (List.reverse_perm d).symm
  exact pm.eq_of_pairwise (fun a b _ _ h1 h2 => by omega) s1 s2
end
end
end Go.Proofs.YtoacjmckefahcaaGreat
