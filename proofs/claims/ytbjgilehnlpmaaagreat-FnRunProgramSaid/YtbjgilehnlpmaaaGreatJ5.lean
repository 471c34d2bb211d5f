/- Walks and plain laws that the claims of this seat lean on. No condition. -/
import Derived.Test.YtbjgilehnlpmaaaGreatJ4
import Derived.Test.YtbjgilehnlpmaaaGreatJ2
import Derived.Test.YtbjgilehnlpmaaaGreatSimY
import Derived.Lib.ItoaNum
set_option linter.unusedVariables false
set_option linter.unusedSimpArgs false
namespace Go.Proofs.YtbjgilehnlpmaaaGreat
open Go Go.Sim
section
set_option maxRecDepth 100000
attribute [local go_sem ↓] aw_skip aw_ret aw_exit aw_region aw_draw aw_seq aw_block aw_loop aw_cond frz_nil frz_cons sq_normal sq_ret sq_exit exB_normal exB_ret exB_same exB_other retQ_ret retQ_normal ret0_ret ret0_normal ao_nil go1 g_move g_assign g_pick g_build g_load g_binOp g_unOp g_convert g_fieldAddr g_field g_indexAddr g_index g_extract g_lookup g_slice g_nilCheck g_len g_makeFunc h_call h_append h_alloc h_box h_buildSlice h_makeSlice h_store gV i_box i_buildSlice i_move i_assign i_build i_load i_binOp i_unOp i_convert i_fieldAddr i_field i_indexAddr i_index i_extract i_lookup i_makeMap i_mapUpdate i_slice i_nilCheck i_makeFunc i_len i_max i_min i_alloc i_makeSlice i_store i_append i_call i_pick boxI boxA buildSliceI buildSliceA makeSliceA makeMapA allocA storeA p_move p_assign p_pick p_build p_load p_binOp p_unOp p_convert p_fieldAddr p_field p_indexAddr p_index p_extract p_lookup p_makeMap p_mapUpdate p_slice p_nilCheck p_makeFunc p_len p_max p_min p_alloc p_box p_buildSlice p_makeSlice p_store p_append p_call x_nil x_go1 x_g0 x_g1 x_g2 x_g3 x_s0 x_s1 x_s2 x_s3 u_move u_assign u_pick u_build u_load u_binOp u_unOp u_convert u_fieldAddr u_field u_indexAddr u_index u_extract u_lookup u_slice u_nilCheck u_makeFunc u_len u_buildSlice x_s4 x_g4 rq_normal rq_ret rq_exit aw_range
attribute [local go_sem] frzV_sl frzK_some set_none set_other AHeap.set_self set_del set_set cnd_t cnd_f cnd_b retA_one retA_two retA_three retA_four retA_nil gIf_b mrgV_b mrgV_wh mrgV_U gIf_U gIf_wh mrgB_f mrgB_some mrgB_if wh_true wh_false keepA_some keepA_if gD_zero gD_succ gT_some bxA_t bxA_f callA_fn ev_tmp ev_const ev_global ev_func oc_bool oc_int oc_string oc_nil oc_nilptr oc_nilfunc cl_bool cl_int cl_string cl_nil updO_some updO_none upd_same upd_other init_at pickA_b pickA_wh selA_t selA_f selA_and selA_or selA_orn selA_orm selA_bb selA_ii beqt b_add b_sub b_mul b_and b_or b_xor b_eql b_neq b_lss b_leq b_gtr b_geq b_quo b_rem b_shr b_seql b_sneq b_sadd b_beql b_bneq b_aeql b_aneq u_not u_neg isConstOp eqA eqCellV List.getD_cons_zero List.getD_cons_succ List.map_cons List.map_nil List.nil_append List.cons_append List.append_nil if_true if_false Option.map_some Option.map_none ne_eq not_false_eq_true oneA ldv ld1v ld1s wr1s ldRow stRow row_lit row_agg row_vsl row_sl row_ptr row_fn one_I one_B one_S one_vsl one_sl one_ptr one_fn extractA okA rI rS rU rClass rFault rExit rStart rLine Int.toNat_natCast List.length_cons List.length_nil List.length_map List.all_cons List.all_nil Bool.and_true Nat.zero_add List.getElem?_cons_zero List.getElem?_cons_succ List.take_succ_cons List.take_zero List.drop_succ_cons List.drop_zero and_self true_and and_true implies_true decide_eq_true_eq decide_eq_false_iff_not Bool.or_eq_true Bool.or_eq_false_iff Bool.and_eq_true Bool.not_eq_true' Bool.not_eq_false' beq_false decide_true decide_false Int.ofNat_lt Int.ofNat_le Int.natCast_nonneg Bool.or_true Bool.or_false Bool.true_or Bool.false_or beq_self_eq_true List.drop_one Bool.not_true Bool.not_false Bool.not_not Bool.false_eq_true Bool.true_eq_false false_implies true_implies Bool.true_and Bool.false_and Bool.and_false not_true_eq_false Int.natCast_eq_zero Int.natCast_pos Int.natCast_zero false_and and_false or_false false_or or_true true_or Bool.or_self none_le_iff List.replicate_zero Int.toNat_zero List.replicate_succ buildRows List.set_cons_zero List.set_cons_succ List.set_nil List.mapM_nil maxLen_eq Nat.zero_le Nat.mul_one Nat.one_mul bldA fillA spliceA List.take_nil List.drop_nil List.getElem?_nil ld1o wr1o bldSliceA le_same cv_i cvI_t quietT_fn qvd_some ld_o ldO_1 ldO_l wr_o wrO_1 set_2 set_3 set_4 putL_nil putL_cons List.zip_cons_cons List.zip_nil_left List.zip_nil_right List.toList_toArray frzV_set ti1 ti2 tk2 ti3 te3 ts3 tk3 tz3 ti4 tb4 ti5 tk5 tz5 ti9 te9 ts9 tk9 tz9 ti12 tk12 ti13 tp13 tf13_0 tf13_1 ti20 ti21 tk21 tz21 ti22 te22 ti23 tp23 tf23_0 ti24 tp24 tf24_0 ti25 te25 ti26 te26 ti27 te27 ti28 tp28 tf28_0 ti29 tp29 tf29_0 ti30 tp30 tf30_0 tf30_1 tf30_2 tf30_3 ti31 tp31 tf31_0 tf31_1 tf31_2 tf31_3 ti32 ti33 ti34 ti35 te35 tz35 ti37 ti38 ti39 ti40 ti42 ti44 ti46 ti47 ti48 ti49 tq49 tp49 tf49_0 tf49_1 tf49_2 tf49_3 ti50 tq50 tp50 tf50_0 tf50_1 tf50_2 tf50_3 ti51 ti52 ti53 ti54 ti55 ti56 ti57 ti58 tq58 tp58 tf58_0 tf58_1 ti59 tq59 tp59 tf59_0 tf59_1 ti60 ti61 ti62 ti63 ti64 ti65 ti66 ti67 ti68 ti69 ti70 ti71 ti72 ti73 ti74 ti75 ti76 ti77 ti78 ti79 tq79 tp79 tf79_0 tf79_1 tf79_2 tf79_3 tf79_4 ti80 tq80 tp80 tf80_0 tf80_1 tf80_2 tf80_3 tf80_4 ti81 ti82 ti83 ti84 ti85 ti86 ti87 ti88 ti89 tp89 tf89_0 tf89_1 tf89_2 tf89_3 tf89_4 ti90 tp90 tf90_0 tf90_1 tf90_2 tf90_3 tf90_4 ti91 ti93 ti94 ti95 ti96 ti97 ti98 tp98 tf98_0 tf98_1 tf98_2 tf98_3 ti99 tp99 tf99_0 tf99_1 tf99_2 tf99_3 ti100 tq100 tp100 tf100_0 tf100_1 ti101 tq101 tp101 tf101_0 tf101_1 ti102 ti103 ti104 tq104 tp104 tf104_0 tf104_1 ti105 tq105 tp105 tf105_0 tf105_1 ti106 ti107 ti108 ti109 ti110 ti111 ti112 ti113 tp113 tf113_0 tf113_1 ti114 tp114 tf114_0 tf114_1 ti115 ti116 ti117 ti118 te118 ti119 ti120 ti121 ti122 ti123 ti124 ti125 ti126 ti127 ti128 ti129 ti130 ti131 te131 ti132 ti133 ti134 ti135 ti136 tk136 tz136 ti137 ti138 ti139 ti140 ti141 ti142 ti143 tk143 ti145 ti146 ti147 ti149 ti150 ti151 tk151 tz151 ti152 ti153 tk153 tz153 ti154 ti155 ti156 ti157 ti158 tk158 ti159 ti160 ti161 ti162 ti163 ti164 ti165 ti167 ti168 ti174 ti178 fp13_0 fv13_0 fp13_1 fv13_1 fp23_0 fv23_0 fp24_0 fv24_0 fp28_0 fv28_0 fp29_0 fv29_0 fp30_0 fv30_0 fp30_1 fv30_1 fp30_2 fv30_2 fp30_3 fv30_3 fp31_0 fv31_0 fp31_1 fv31_1 fp31_2 fv31_2 fp31_3 fv31_3 fp49_0 fv49_0 fp49_1 fv49_1 fp49_2 fv49_2 fp49_3 fv49_3 fp50_0 fv50_0 fp50_1 fv50_1 fp50_2 fv50_2 fp50_3 fv50_3 fp58_0 fv58_0 fp58_1 fv58_1 fp59_0 fv59_0 fp59_1 fv59_1 fp79_0 fv79_0 fp79_1 fv79_1 fp79_2 fv79_2 fp79_3 fv79_3 fp79_4 fv79_4 fp80_0 fv80_0 fp80_1 fv80_1 fp80_2 fv80_2 fp80_3 fv80_3 fp80_4 fv80_4 fp89_0 fv89_0 fp89_1 fv89_1 fp89_2 fv89_2 fp89_3 fv89_3 fp89_4 fv89_4 fp90_0 fv90_0 fp90_1 fv90_1 fp90_2 fv90_2 fp90_3 fv90_3 fp90_4 fv90_4 fp98_0 fv98_0 fp98_1 fv98_1 fp98_2 fv98_2 fp98_3 fv98_3 fp99_0 fv99_0 fp99_1 fv99_1 fp99_2 fv99_2 fp99_3 fv99_3 fp100_0 fv100_0 fp100_1 fv100_1 fp101_0 fv101_0 fp101_1 fv101_1 fp104_0 fv104_0 fp104_1 fv104_1 fp105_0 fv105_0 fp105_1 fv105_1 fp113_0 fv113_0 fp113_1 fv113_1 fp114_0 fv114_0 fp114_1 fv114_1 lv22 ll22 is22 ix22 sh22 so22 sb22 sm22 sp22 lv25 ll25 is25 ix25 sh25 so25 sb25 sm25 sp25 lv26 ll26 is26 ix26 sh26 so26 sb26 sm26 sp26 lv27 ll27 is27 ix27 sh27 so27 sb27 sm27 sp27 lv35 ll35 is35 ix35 sh35 so35 sb35 sm35 sp35 lv118 ll118 is118 sp118 lv131 ll131 is131 ix131 sh131 so131 sb131 sm131 sp131 xs9 ls9 sx9 sy9 sz9
section
open Go Go.Sim
set_option maxRecDepth 100000

theorem c_heapHas (h : List Fault) (cl : Bool) (a : Int) (H : AHeap) : ACalls Tryz.prog 74 [aHeap h cl, I a] H fun r H' => r = B (inR a 0 (h.length - 1)) ∧ H' = H := by
  refine acalls_len1 (by kernel_rfl) (List.mem_cons_self ..) fun hl => ?_
  rw [List.length_map] at hl
  refine acalls_of0 Tryz.func74 rfl (by kernel_rfl) rfl rfl (awp_sound (fz := fun _ => []) (im := fun s => s == 2) mixed _ _ _ _ (by kernel_rfl) ?_)
  simp +contextual -dsimp -implicitDefEqProofs (maxSteps := 5000000) only [go_sem, reduceIte, reduceCtorEq, Nat.reduceEqDiff, Nat.reduceBEq, Nat.reduceAdd, Nat.reduceLeDiff, Nat.reduceMul, Nat.reduceLT, Int.reduceEq, Int.reduceLT, Int.reduceLE]
  rw [w64 (by omega) (by omega)]
  exact (c_within _ _ _ _).det (by simp +contextual -dsimp -implicitDefEqProofs (maxSteps := 5000000) only [go_sem, reduceIte, reduceCtorEq, Nat.reduceEqDiff, Nat.reduceBEq, Nat.reduceAdd, Nat.reduceLeDiff, Nat.reduceMul, Nat.reduceLT, Int.reduceEq, Int.reduceLT, Int.reduceLE])
def linkF (n : Nat) (f to : Int) : Bool := decide (to = -1) || (inR to 0 (n - 1) && !decide (to = f))
theorem c_link (h : List Fault) (cl : Bool) (f a : Int) (H : AHeap) : ACalls Tryz.prog 73 [I f, I a, .vptr [[.vsl (h.map rFault) cl]] 0 0] H fun r H' => r = B (linkF h.length f a) ∧ H' = H := by
  refine acalls_of0 Tryz.func73 rfl (by kernel_rfl) rfl rfl (awp_sound (fz := fun _ => []) (im := fun _ => false) mixed _ _ _ _ (by kernel_rfl) ?_)
  by_cases h1 : a = -1
  · simp +contextual -dsimp -implicitDefEqProofs (maxSteps := 5000000) only [go_sem, reduceIte, reduceCtorEq, Nat.reduceEqDiff, Nat.reduceBEq, Nat.reduceAdd, Nat.reduceLeDiff, Nat.reduceMul, Nat.reduceLT, Int.reduceEq, Int.reduceLT, Int.reduceLE, h1, linkF]
  · simp +contextual -dsimp -implicitDefEqProofs (maxSteps := 5000000) only [go_sem, reduceIte, reduceCtorEq, Nat.reduceEqDiff, Nat.reduceBEq, Nat.reduceAdd, Nat.reduceLeDiff, Nat.reduceMul, Nat.reduceLT, Int.reduceEq, Int.reduceLT, Int.reduceLE, h1]
    refine (c_heapHas h cl a H).det ?_
    cases hI : inR a 0 (h.length - 1)
    · simp +contextual -dsimp -implicitDefEqProofs (maxSteps := 5000000) only [go_sem, reduceIte, reduceCtorEq, Nat.reduceEqDiff, Nat.reduceBEq, Nat.reduceAdd, Nat.reduceLeDiff, Nat.reduceMul, Nat.reduceLT, Int.reduceEq, Int.reduceLT, Int.reduceLE, h1, linkF, hI]
    · simp +contextual -dsimp -implicitDefEqProofs (maxSteps := 5000000) only [go_sem, reduceIte, reduceCtorEq, Nat.reduceEqDiff, Nat.reduceBEq, Nat.reduceAdd, Nat.reduceLeDiff, Nat.reduceMul, Nat.reduceLT, Int.reduceEq, Int.reduceLT, Int.reduceLE, h1, linkF, hI]
theorem c_faultsIn1 (h : List Fault) (cl : Bool) (a : Int) (H : AHeap) : ACalls Tryz.prog 110 [I a, .vptr [[.vsl (h.map rFault) cl]] 0 0] H fun r H' => r = B (!inR a 0 (h.length - 1)) ∧ H' = H := by
  refine acalls_of0 Tryz.func110 rfl (by kernel_rfl) rfl rfl (awp_sound (fz := fun _ => []) (im := fun _ => false) mixed _ _ _ _ (by kernel_rfl) ?_)
  simp +contextual -dsimp -implicitDefEqProofs (maxSteps := 5000000) only [go_sem, reduceIte, reduceCtorEq, Nat.reduceEqDiff, Nat.reduceBEq, Nat.reduceAdd, Nat.reduceLeDiff, Nat.reduceMul, Nat.reduceLT, Int.reduceEq, Int.reduceLT, Int.reduceLE]
  refine (c_heapHas h cl a H).det ?_
  simp +contextual -dsimp -implicitDefEqProofs (maxSteps := 5000000) only [go_sem, reduceIte, reduceCtorEq, Nat.reduceEqDiff, Nat.reduceBEq, Nat.reduceAdd, Nat.reduceLeDiff, Nat.reduceMul, Nat.reduceLT, Int.reduceEq, Int.reduceLT, Int.reduceLE]
theorem c_IndexFuncInt (l : List Int) (cl : Bool) (g : FuncId) (caps : List AV) (p : Int → Bool) (H : AHeap)
    (hp : ∀ c, ACalls Tryz.prog g (I c :: caps) H fun r H' => r = B (p c) ∧ H' = H) :
    ACalls Tryz.prog 107 [.vsl (l.map rI) cl, .fn g [] caps] H fun r H' => r = I (idxF p l) ∧ H' = H := by
  refine acalls_len (by kernel_rfl) (List.mem_cons_self ..) fun hl => ?_
  rw [List.length_map] at hl
  refine acalls_of0 Tryz.func107 rfl (by kernel_rfl) rfl rfl (awp_sound (fz := fun _ => []) (im := fun _ => false) mixed _ _ _ _ (by kernel_rfl) ?_)
  simp +contextual -dsimp -implicitDefEqProofs (maxSteps := 5000000) only [go_sem, reduceIte, reduceCtorEq, Nat.reduceEqDiff, Nat.reduceBEq, Nat.reduceAdd, Nat.reduceLeDiff, Nat.reduceMul, Nat.reduceLT, Int.reduceEq, Int.reduceLT, Int.reduceLE]
  refine aloop mixed (fz := fun _ => []) (im := fun _ => false) (by kernel_rfl) (fun m tm H' => ∃ k : Nat, m = l.length - k ∧ k ≤ l.length ∧ H' = H ∧ tm 0 = .vsl (l.map rI) cl ∧ tm 1 = .fn g [] caps ∧ tm 7 = I l.length ∧ tm 8 = I k ∧ (l.take k).any p = false) l.length ⟨0, ?_⟩ ?_
  · simp +contextual -dsimp -implicitDefEqProofs (maxSteps := 5000000) only [go_sem, reduceIte, reduceCtorEq, Nat.reduceEqDiff, Nat.reduceBEq, Nat.reduceAdd, Nat.reduceLeDiff, Nat.reduceMul, Nat.reduceLT, Int.reduceEq, Int.reduceLT, Int.reduceLE]
    simp
  · rintro m tm _ ⟨k, rfl, hk, rfl, h0, h1, h7, h8, hn⟩
    simp +contextual -dsimp -implicitDefEqProofs (maxSteps := 5000000) only [go_sem, reduceIte, reduceCtorEq, Nat.reduceEqDiff, Nat.reduceBEq, Nat.reduceAdd, Nat.reduceLeDiff, Nat.reduceMul, Nat.reduceLT, Int.reduceEq, Int.reduceLT, Int.reduceLE, h0, h1, h7, h8]
    refine ⟨fun h => (hp _).det ?_, fun h => ?_⟩
    · simp +contextual -dsimp -implicitDefEqProofs (maxSteps := 5000000) only [go_sem, reduceIte, reduceCtorEq, Nat.reduceEqDiff, Nat.reduceBEq, Nat.reduceAdd, Nat.reduceLeDiff, Nat.reduceMul, Nat.reduceLT, Int.reduceEq, Int.reduceLT, Int.reduceLE, h0, h1, h7, h8]
      refine ⟨fun hb => ?_, fun hb => ⟨_, ?_, k + 1, rfl, h, I_wrap (by omega) (by omega) (by omega), any_take h hn hb⟩⟩
      · rw [idxF_at h hn hb]
      · omega
    · rw [idxF_none (by omega) hn]
theorem c_ContainsFuncInt (l : List Int) (cl : Bool) (g : FuncId) (caps : List AV) (p : Int → Bool) (H : AHeap)
    (hp : ∀ c, ACalls Tryz.prog g (I c :: caps) H fun r H' => r = B (p c) ∧ H' = H) :
    ACalls Tryz.prog 71 [.vsl (l.map rI) cl, .fn g [] caps] H fun r H' => r = B (l.any p) ∧ H' = H := by
  refine acalls_of0 Tryz.func71 rfl (by kernel_rfl) rfl rfl (awp_sound (fz := fun _ => []) (im := fun _ => false) mixed _ _ _ _ (by kernel_rfl) ?_)
  simp +contextual -dsimp -implicitDefEqProofs (maxSteps := 5000000) only [go_sem, reduceIte, reduceCtorEq, Nat.reduceEqDiff, Nat.reduceBEq, Nat.reduceAdd, Nat.reduceLeDiff, Nat.reduceMul, Nat.reduceLT, Int.reduceEq, Int.reduceLT, Int.reduceLE]
  refine (c_IndexFuncInt l cl g caps p H hp).det ?_
  simp +contextual -dsimp -implicitDefEqProofs (maxSteps := 5000000) only [go_sem, reduceIte, reduceCtorEq, Nat.reduceEqDiff, Nat.reduceBEq, Nat.reduceAdd, Nat.reduceLeDiff, Nat.reduceMul, Nat.reduceLT, Int.reduceEq, Int.reduceLT, Int.reduceLE, idxF_nonneg]
theorem walkG_len (nx : Int → Int) : ∀ (n : Nat) (out : List Int) (f : Int), (walkG nx n out f).length ≤ out.length + n
  | 0, out, f => Nat.le_refl _
  | n + 1, out, f => by
    simp only [walkG]
    split
    · have := walkG_len nx n (out ++ [f]) (nx f)
      simp at this
      omega
    · omega
theorem chainF_len (h : List Fault) (f : Int) : (chainF h f).length ≤ h.length + 1 := by
  have := walkG_len (ctxOf h) (h.length + 1) [] f
  simpa [chainF, walkF] using this
theorem chainF_in {h : List Fault} (hc : ∀ k, k < h.length → (h.getD k default).ctx < h.length) {f : Int} (hf : f < h.length) {a : Int} (ha : a ∈ chainF h f) : 0 ≤ a ∧ a < h.length := by
  have := walkG_mem (nx := ctxOf h) (p := fun a => a < h.length) (fun a a0 a1 => hc a.toNat (by omega)) (h.length + 1) [] f hf a ha
  simpa using this
def lastI (l : List Int) : Int := l.getD (l.length - 1) default
theorem lastI_in {h : List Fault} (hc : ∀ k, k < h.length → (h.getD k default).ctx < h.length) {f : Int} (h0 : 0 ≤ f) (hf : f < h.length) : 0 ≤ lastI (chainF h f) ∧ lastI (chainF h f) < h.length := by
  have hne := List.length_pos_iff.2 (chainF_ne (h := h) h0)
  apply chainF_in hc hf
  have : (chainF h f).length - 1 < (chainF h f).length := by omega
  unfold lastI
  rw [List.getD_eq_getElem?_getD, List.getElem?_eq_getElem this]
  exact List.getElem_mem this
def faultOk (t : List Class) (h : List Fault) (k : Nat) : Bool := hasF t (h.getD k default).cls && inR (h.getD k default).code 0 99 && linkF h.length k (h.getD k default).cause && linkF h.length k (h.getD k default).ctx
def lastOk (h : List Fault) (k : Nat) : Bool := decide (ctxOf h (lastI (chainF h k)) = -1)
def validH (t : List Class) (h : List Fault) : Bool := (List.range h.length).all (faultOk t h) && ((List.range h.length).all (lastOk h) && (validT t && decide (h.length ≤ 24)))
theorem faultOk_links {t : List Class} {h : List Fault} (hv : (List.range h.length).all (faultOk t h) = true) : ∀ k, k < h.length → -1 ≤ (h.getD k default).ctx ∧ (h.getD k default).ctx < h.length ∧ -1 ≤ (h.getD k default).cause ∧ (h.getD k default).cause < h.length := by
  intro k hk
  rw [List.all_eq_true] at hv
  have := hv k (by simp [hk])
  simp only [faultOk, linkF, inR, Bool.and_eq_true, Bool.or_eq_true, decide_eq_true_eq, Bool.not_eq_true'] at this
  omega
theorem range_next {p : Nat → Bool} {k : Nat} (h : (List.range k).all p = true) (e : p k = true) : (List.range (k + 1)).all p = true := by
  rw [List.range_succ, List.all_append, h]; simp [e]
theorem range_bad {p : Nat → Bool} {k n : Nat} (h : k < n) (e : p k = false) : (List.range n).all p = false := by
  rw [List.all_eq_false]; exact ⟨k, by simp [h], by simp [e]⟩
theorem c_ValidHeap (t : List Class) (cl : Bool) (h : List Fault) (cl' : Bool) (H : AHeap) (hn : namesOk t) (hl : h.length ≤ 1000000) : ACalls Tryz.prog 39 [aTree t cl, aHeap h cl'] H fun r H' => r = B (validH t h) ∧ H' = H := by
  refine acalls_of0 Tryz.func39 rfl (by kernel_rfl) rfl rfl (awp_sound (fz := fun r => if r = 4 then [7] else []) (im := fun s => s == 2 || s == 3) mixed _ _ _ _ (by kernel_rfl) ?_)
  simp +contextual -dsimp -implicitDefEqProofs (maxSteps := 5000000) only [go_sem, reduceIte, reduceCtorEq, Nat.reduceEqDiff, Nat.reduceBEq, Nat.reduceAdd, Nat.reduceLeDiff, Nat.reduceMul, Nat.reduceLT, Int.reduceEq, Int.reduceLT, Int.reduceLE]
  refine aloop mixed (fz := fun r => if r = 4 then [7] else []) (im := fun s => s == 2 || s == 3) (by kernel_rfl) (fun m tm H' => ∃ k : Nat, m = h.length - k ∧ k ≤ h.length ∧ H' = H ∧ tm 2 = .vptr [[.vsl (t.map rClass) cl]] 0 0 ∧ tm 3 = .vptr [[.vsl (h.map rFault) cl']] 0 0 ∧ tm 5 = .fn 73 [] [.vptr [[.vsl (h.map rFault) cl']] 0 0] ∧ tm 12 = .vsl (h.map rFault) cl' ∧ tm 13 = I h.length ∧ tm 14 = I k ∧ (List.range k).all (faultOk t h) = true) h.length ⟨0, by omega, by omega, rfl, ?_⟩ ?_
  · simp +contextual -dsimp -implicitDefEqProofs (maxSteps := 5000000) only [go_sem, reduceIte, reduceCtorEq, Nat.reduceEqDiff, Nat.reduceBEq, Nat.reduceAdd, Nat.reduceLeDiff, Nat.reduceMul, Nat.reduceLT, Int.reduceEq, Int.reduceLT, Int.reduceLE]
    rfl
  · rintro m tm H ⟨k, rfl, hk, rfl, h2, h3, h5, h12, h13, h14, hv⟩
    by_cases hlt : k < h.length
    · have bad : faultOk t h k = false → validH t h = false := fun e => by unfold validH; rw [range_bad hlt e]; rfl
      unfold faultOk at bad
      simp +contextual -dsimp -implicitDefEqProofs (maxSteps := 5000000) only [go_sem, reduceIte, reduceCtorEq, Nat.reduceEqDiff, Nat.reduceBEq, Nat.reduceAdd, Nat.reduceLeDiff, Nat.reduceMul, Nat.reduceLT, Int.reduceEq, Int.reduceLT, Int.reduceLE, h2, h3, h5, h12, h13, h14, hlt]
      intro b hb
      refine (c_has t cl _ _).det ?_
      cases e1 : hasF t (h.getD k default).cls
      · simp +contextual -dsimp -implicitDefEqProofs (maxSteps := 5000000) only [go_sem, reduceIte, reduceCtorEq, Nat.reduceEqDiff, Nat.reduceBEq, Nat.reduceAdd, Nat.reduceLeDiff, Nat.reduceMul, Nat.reduceLT, Int.reduceEq, Int.reduceLT, Int.reduceLE, h2, h3, h5, h12, h13, h14, hlt]
        rw [bad (by simp only [e1, Bool.false_and])]
      · simp +contextual -dsimp -implicitDefEqProofs (maxSteps := 5000000) only [go_sem, reduceIte, reduceCtorEq, Nat.reduceEqDiff, Nat.reduceBEq, Nat.reduceAdd, Nat.reduceLeDiff, Nat.reduceMul, Nat.reduceLT, Int.reduceEq, Int.reduceLT, Int.reduceLE, h2, h3, h5, h12, h13, h14, hlt]
        refine (c_codeOk _ _).det ?_
        cases e2 : inR (h.getD k default).code 0 99
        · simp +contextual -dsimp -implicitDefEqProofs (maxSteps := 5000000) only [go_sem, reduceIte, reduceCtorEq, Nat.reduceEqDiff, Nat.reduceBEq, Nat.reduceAdd, Nat.reduceLeDiff, Nat.reduceMul, Nat.reduceLT, Int.reduceEq, Int.reduceLT, Int.reduceLE, h2, h3, h5, h12, h13, h14, hlt]
          rw [bad (by simp only [e1, e2, Bool.false_and, Bool.and_false])]
        · simp +contextual -dsimp -implicitDefEqProofs (maxSteps := 5000000) only [go_sem, reduceIte, reduceCtorEq, Nat.reduceEqDiff, Nat.reduceBEq, Nat.reduceAdd, Nat.reduceLeDiff, Nat.reduceMul, Nat.reduceLT, Int.reduceEq, Int.reduceLT, Int.reduceLE, h2, h3, h5, h12, h13, h14, hlt]
          refine (c_link h cl' _ _ _).det ?_
          cases e3 : linkF h.length k (h.getD k default).cause
          · simp +contextual -dsimp -implicitDefEqProofs (maxSteps := 5000000) only [go_sem, reduceIte, reduceCtorEq, Nat.reduceEqDiff, Nat.reduceBEq, Nat.reduceAdd, Nat.reduceLeDiff, Nat.reduceMul, Nat.reduceLT, Int.reduceEq, Int.reduceLT, Int.reduceLE, h2, h3, h5, h12, h13, h14, hlt]
            rw [bad (by simp only [e1, e2, e3, Bool.false_and, Bool.and_false])]
          · simp +contextual -dsimp -implicitDefEqProofs (maxSteps := 5000000) only [go_sem, reduceIte, reduceCtorEq, Nat.reduceEqDiff, Nat.reduceBEq, Nat.reduceAdd, Nat.reduceLeDiff, Nat.reduceMul, Nat.reduceLT, Int.reduceEq, Int.reduceLT, Int.reduceLE, h2, h3, h5, h12, h13, h14, hlt]
            refine (c_link h cl' _ _ _).det ?_
            cases e4 : linkF h.length k (h.getD k default).ctx
            · simp +contextual -dsimp -implicitDefEqProofs (maxSteps := 5000000) only [go_sem, reduceIte, reduceCtorEq, Nat.reduceEqDiff, Nat.reduceBEq, Nat.reduceAdd, Nat.reduceLeDiff, Nat.reduceMul, Nat.reduceLT, Int.reduceEq, Int.reduceLT, Int.reduceLE, h2, h3, h5, h12, h13, h14, hlt]
              rw [bad (by simp only [e4, Bool.and_false])]
            · simp +contextual -dsimp -implicitDefEqProofs (maxSteps := 5000000) only [go_sem, reduceIte, reduceCtorEq, Nat.reduceEqDiff, Nat.reduceBEq, Nat.reduceAdd, Nat.reduceLeDiff, Nat.reduceMul, Nat.reduceLT, Int.reduceEq, Int.reduceLT, Int.reduceLE, h2, h3, h5, h12, h13, h14, hlt]
              exact ⟨_, by omega, k + 1, rfl, hlt, I_wrap (by omega) (by omega) (by omega), range_next hv (by simp only [faultOk, e1, e2, e3, e4, Bool.and_self])⟩
    · simp +contextual -dsimp -implicitDefEqProofs (maxSteps := 5000000) only [go_sem, reduceIte, reduceCtorEq, Nat.reduceEqDiff, Nat.reduceBEq, Nat.reduceAdd, Nat.reduceLeDiff, Nat.reduceMul, Nat.reduceLT, Int.reduceEq, Int.reduceLT, Int.reduceLE, h2, h3, h5, h12, h13, h14, hlt]
      have hkl : k = h.length := by omega
      subst hkl
      have hlk := faultOk_links hv
      refine aloop mixed (fz := fun r => if r = 4 then [7] else []) (im := fun s => s == 2 || s == 3) (by kernel_rfl) (fun m tm H' => ∃ k : Nat, m = h.length - k ∧ k ≤ h.length ∧ H' = H ∧ tm 2 = .vptr [[.vsl (t.map rClass) cl]] 0 0 ∧ tm 3 = .vptr [[.vsl (h.map rFault) cl']] 0 0 ∧ tm 49 = I h.length ∧ tm 50 = I k ∧ (List.range k).all (lastOk h) = true) h.length ⟨0, by omega, by omega, rfl, ?_⟩ ?_
      · simp +contextual -dsimp -implicitDefEqProofs (maxSteps := 5000000) only [go_sem, reduceIte, reduceCtorEq, Nat.reduceEqDiff, Nat.reduceBEq, Nat.reduceAdd, Nat.reduceLeDiff, Nat.reduceMul, Nat.reduceLT, Int.reduceEq, Int.reduceLT, Int.reduceLE, h2, h3]
        rfl
      · rintro m tm H ⟨k, rfl, hk, rfl, g2, g3, g49, g50, hw⟩
        by_cases hlt : k < h.length
        · simp +contextual -dsimp -implicitDefEqProofs (maxSteps := 5000000) only [go_sem, reduceIte, reduceCtorEq, Nat.reduceEqDiff, Nat.reduceBEq, Nat.reduceAdd, Nat.reduceLeDiff, Nat.reduceMul, Nat.reduceLT, Int.reduceEq, Int.reduceLT, Int.reduceLE, g2, g3, g49, g50, hlt]
          refine acalls_frz (c_contexts h cl' k H hl (by omega) (fun k hk => (hlk k hk).2.1)) fun cl1 => ?_
          simp +contextual -dsimp -implicitDefEqProofs (maxSteps := 5000000) only [go_sem, reduceIte, reduceCtorEq, Nat.reduceEqDiff, Nat.reduceBEq, Nat.reduceAdd, Nat.reduceLeDiff, Nat.reduceMul, Nat.reduceLT, Int.reduceEq, Int.reduceLT, Int.reduceLE, g2, g3, g49, g50, hlt]
          have c1 := List.length_pos_iff.2 (chainF_ne (h := h) (g := k) (by omega))
          have c2 := chainF_len h k
          have c3 := lastI_in (fun k hk => (hlk k hk).2.1) (f := k) (by omega) (by omega)
          have hw1 : IntKind.i64.wrap (((chainF h k).length : Int) - 1) = (((chainF h k).length - 1 : Nat) : Int) := by
            have := I_wrap (a := ((chainF h k).length : Int) - 1) (b := (((chainF h k).length - 1 : Nat) : Int)) (by omega) (by omega) (by omega)
            injection this with q
            injection q
          have c4 : (chainF h k).length - 1 < (chainF h k).length := by omega
          refine draw_intro [0, 0, 0, 0, 0, 0, 0, 0, 0, 0, 0, 0] AHeap.none (by kernel_rfl) none_le ?_
          simp +contextual -dsimp -implicitDefEqProofs (maxSteps := 5000000) only [go_sem, reduceIte, reduceCtorEq, Nat.reduceEqDiff, Nat.reduceBEq, Nat.reduceAdd, Nat.reduceLeDiff, Nat.reduceMul, Nat.reduceLT, Int.reduceEq, Int.reduceLT, Int.reduceLE, g2, g3, g49, g50, hlt, hw1, c1, c4, c3]
          have bad : lastOk h k = false → validH t h = false := fun e => by simp [validH, range_bad hlt e]
          unfold lastOk ctxOf lastI at bad
          unfold lastI at c3
          exact ⟨⟨c3.1, c3.2⟩, by omega, fun hne => by rw [bad (decide_eq_false hne)], fun he => ⟨_, by omega, k + 1, rfl, hlt, I_wrap (by omega) (by omega) (by omega), range_next hw (decide_eq_true he)⟩⟩
        · simp +contextual -dsimp -implicitDefEqProofs (maxSteps := 5000000) only [go_sem, reduceIte, reduceCtorEq, Nat.reduceEqDiff, Nat.reduceBEq, Nat.reduceAdd, Nat.reduceLeDiff, Nat.reduceMul, Nat.reduceLT, Int.reduceEq, Int.reduceLT, Int.reduceLE, g2, g3, g49, g50, hlt]
          have hkl : k = h.length := by omega
          subst hkl
          refine (c_ValidTree t cl _ hn).det ?_
          cases e1 : validT t
          · simp +contextual -dsimp -implicitDefEqProofs (maxSteps := 5000000) only [go_sem, reduceIte, reduceCtorEq, Nat.reduceEqDiff, Nat.reduceBEq, Nat.reduceAdd, Nat.reduceLeDiff, Nat.reduceMul, Nat.reduceLT, Int.reduceEq, Int.reduceLT, Int.reduceLE, g2, g3]
            simp [validH, e1]
          · simp +contextual -dsimp -implicitDefEqProofs (maxSteps := 5000000) only [go_sem, reduceIte, reduceCtorEq, Nat.reduceEqDiff, Nat.reduceBEq, Nat.reduceAdd, Nat.reduceLeDiff, Nat.reduceMul, Nat.reduceLT, Int.reduceEq, Int.reduceLT, Int.reduceLE, g2, g3]
            simp only [validH, hv, hw, e1, Bool.true_and]
            exact congrArg B (decide_eq_decide.2 (by omega))
theorem c_faultsIn (t : List Class) (cl : Bool) (h : List Fault) (cl' : Bool) (l : List Int) (cl2 : Bool) (H : AHeap) (hn : namesOk t) (hl : h.length ≤ 1000000) : ACalls Tryz.prog 78 [aTree t cl, aHeap h cl', .vsl (l.map rI) cl2] H fun r H' => r = B (validH t h && l.all fun f => inR f 0 (h.length - 1)) ∧ H' = H := by
  refine acalls_of0 Tryz.func78 rfl (by kernel_rfl) rfl rfl (awp_sound (fz := fun _ => []) (im := fun s => s == 3 || s == 4) mixed _ _ _ _ (by kernel_rfl) ?_)
  simp +contextual -dsimp -implicitDefEqProofs (maxSteps := 5000000) only [go_sem, reduceIte, reduceCtorEq, Nat.reduceEqDiff, Nat.reduceBEq, Nat.reduceAdd, Nat.reduceLeDiff, Nat.reduceMul, Nat.reduceLT, Int.reduceEq, Int.reduceLT, Int.reduceLE]
  refine (c_ValidHeap t cl h cl' _ hn hl).det ?_
  cases e1 : validH t h
  · simp +contextual -dsimp -implicitDefEqProofs (maxSteps := 5000000) only [go_sem, reduceIte, reduceCtorEq, Nat.reduceEqDiff, Nat.reduceBEq, Nat.reduceAdd, Nat.reduceLeDiff, Nat.reduceMul, Nat.reduceLT, Int.reduceEq, Int.reduceLT, Int.reduceLE]
  · simp +contextual -dsimp -implicitDefEqProofs (maxSteps := 5000000) only [go_sem, reduceIte, reduceCtorEq, Nat.reduceEqDiff, Nat.reduceBEq, Nat.reduceAdd, Nat.reduceLeDiff, Nat.reduceMul, Nat.reduceLT, Int.reduceEq, Int.reduceLT, Int.reduceLE]
    refine (c_ContainsFuncInt l cl2 _ _ (fun f => !inR f 0 (h.length - 1)) _ (fun c => c_faultsIn1 h cl' c _)).det ?_
    simp +contextual -dsimp -implicitDefEqProofs (maxSteps := 5000000) only [go_sem, reduceIte, reduceCtorEq, Nat.reduceEqDiff, Nat.reduceBEq, Nat.reduceAdd, Nat.reduceLeDiff, Nat.reduceMul, Nat.reduceLT, Int.reduceEq, Int.reduceLT, Int.reduceLE]
    congr 1
    rw [Bool.eq_iff_iff]
    simp
end
section
open Go Go.Sim
set_option maxRecDepth 100000

theorem getD_app {α : Type} {a b : List α} {d : α} {i : Nat} (h : i < a.length) : (a ++ b).getD i d = a.getD i d := by
  rw [List.getD_eq_getElem?_getD, List.getD_eq_getElem?_getD, List.getElem?_append_left h]
theorem walkG_step {nx : Int → Int} : ∀ (n : Nat) (out : List Int) (f : Int), (∀ i, i + 1 < out.length → out.getD (i + 1) default = nx (out.getD i default)) → (∀ i, i + 1 = out.length → nx (out.getD i default) = f) →
    ∀ i, i + 1 < (walkG nx n out f).length → (walkG nx n out f).getD (i + 1) default = nx ((walkG nx n out f).getD i default)
  | 0, out, f, h, _, i, hi => h i hi
  | n + 1, out, f, h, h2, i, hi => by
    simp only [walkG] at hi ⊢
    by_cases c : 0 ≤ f ∧ (out.any fun x => decide (f = x)) = false
    · rw [if_pos c] at hi ⊢
      refine walkG_step n (out ++ [f]) (nx f) ?_ ?_ i hi
      · intro j hj
        rw [List.length_append, List.length_singleton] at hj
        rcases Nat.lt_or_ge (j + 1) out.length with q | q
        · rw [getD_app q, getD_app (show j < out.length by omega)]
          exact h j q
        · have e : j + 1 = out.length := by omega
          rw [getD_app (show j < out.length by omega), h2 j e, e]
          simp [List.getD_eq_getElem?_getD]
      · intro j hj
        rw [List.length_append, List.length_singleton] at hj
        have e : j = out.length := by omega
        subst e
        simp [List.getD_eq_getElem?_getD]
    · rw [if_neg c] at hi ⊢
      exact h i hi
theorem walkG_pre {nx : Int → Int} : ∀ (n : Nat) (out : List Int) (f : Int) (i : Nat), i < out.length → (walkG nx n out f).getD i default = out.getD i default
  | 0, out, f, i, hi => rfl
  | n + 1, out, f, i, hi => by
    simp only [walkG]
    split
    · rw [walkG_pre n (out ++ [f]) (nx f) i (by simp; omega), getD_app hi]
    · rfl
theorem chain_step {h : List Fault} {g : Int} {i : Nat} (hi : i + 1 < (chainF h g).length) : (chainF h g).getD (i + 1) default = ctxOf h ((chainF h g).getD i default) :=
  walkG_step (h.length + 1) [] g (fun i q => by simp at q) (fun i q => by simp at q) i hi
theorem chain_head {h : List Fault} {g : Int} (h0 : 0 ≤ g) : (chainF h g).getD 0 default = g := by
  unfold chainF walkF
  simp only [walkG]
  rw [if_pos ⟨h0, rfl⟩, walkG_pre _ _ _ 0 (by simp)]
  rfl
/-- Contexts of faults that come to an end. -/
structure Calm (h : List Fault) : Prop where
  ctx : ∀ k, k < h.length → -1 ≤ (h.getD k default).ctx ∧ (h.getD k default).ctx < h.length
  last : ∀ k, k < h.length → lastOk h k = true
theorem Calm.at {h : List Fault} (hc : Calm h) {g : Int} (h0 : 0 ≤ g) (hg : g < h.length) {i : Nat} (hi : i < (chainF h g).length) : (i + 1 < (chainF h g).length ∧ 0 ≤ ctxOf h ((chainF h g).getD i default)) ∨ (i + 1 = (chainF h g).length ∧ ctxOf h ((chainF h g).getD i default) = -1) := by
  rcases Nat.lt_or_ge (i + 1) (chainF h g).length with q | q
  · left
    refine ⟨q, ?_⟩
    rw [← chain_step q, List.getD_eq_getElem?_getD, List.getElem?_eq_getElem q]
    exact (chainF_in (fun k hk => (hc.ctx k hk).2) hg (List.getElem_mem q)).1
  · right
    have e : i + 1 = (chainF h g).length := by omega
    refine ⟨e, ?_⟩
    have := hc.last g.toNat (by omega)
    rw [lastOk, decide_eq_true_eq, lastI, Int.toNat_of_nonneg h0, ← e] at this
    simpa using this
end
section
open Go Go.Sim
set_option maxRecDepth 100000

/-- In so many steps there is nothing more. -/
def EndsAt (nx : Int → Int) : Nat → Int → Prop
  | 0, a => a < 0
  | m + 1, a => 0 ≤ a ∧ EndsAt nx m (nx a)
theorem EndsAt.uniq {nx : Int → Int} : ∀ {m m' : Nat} {a : Int}, EndsAt nx m a → EndsAt nx m' a → m = m'
  | 0, 0, _, _, _ => rfl
  | 0, m' + 1, a, h, h' => by have := h'.1; simp only [EndsAt] at h; omega
  | m + 1, 0, a, h, h' => by have := h.1; simp only [EndsAt] at h'; omega
  | m + 1, m' + 1, a, h, h' => by rw [EndsAt.uniq h.2 h'.2]
def Ends (nx : Int → Int) (a : Int) : Prop := ∃ m, EndsAt nx m a
theorem Ends.neg {nx : Int → Int} {a : Int} (h : a < 0) : Ends nx a := ⟨0, h⟩
theorem Ends.step {nx : Int → Int} {a : Int} (h : Ends nx (nx a)) : Ends nx a := by
  obtain ⟨m, hm⟩ := h
  by_cases c : a < 0
  · exact .neg c
  · exact ⟨m + 1, by omega, hm⟩
theorem Ends.ind {nx : Int → Int} {p : Int → Prop} (h0 : ∀ a, a < 0 → p a) (h1 : ∀ a, 0 ≤ a → p (nx a) → p a) {a : Int} (h : Ends nx a) : p a := by
  obtain ⟨m, hm⟩ := h
  induction m generalizing a with
  | zero => exact h0 a hm
  | succ m ih => exact h1 a hm.1 (ih hm.2)
theorem walkG_end {nx : Int → Int} {n : Nat} (hnx : ∀ a : Int, 0 ≤ a → a < n → nx a < n) : ∀ (m fuel : Nat) (out : List Int) (f : Int), EndsAt nx m f → f < n → (∀ a ∈ out, ∃ m', m < m' ∧ EndsAt nx m' a) → freeN n out < fuel → (out ≠ [] → nx (lastI out) = f) → walkG nx fuel out f ≠ [] → nx (lastI (walkG nx fuel out f)) < 0
  | m, 0, out, f, _, _, _, hfr, _, _ => by omega
  | 0, fuel + 1, out, f, he, hf, ho, hfr, hl, hne => by
    have hf0 : f < 0 := he
    simp only [walkG] at hne ⊢
    rw [if_neg (by omega)] at hne ⊢
    rw [hl hne]; exact hf0
  | m + 1, fuel + 1, out, f, he, hf, ho, hfr, hl, hne => by
    have hany : (out.any fun x => decide (f = x)) = false := by
      rw [List.any_eq_false]
      intro a ha
      obtain ⟨m', h1, h2⟩ := ho a ha
      have : ¬ f = a := by
        rintro rfl
        have := he.uniq h2
        omega
      simpa using this
    simp only [walkG] at hne ⊢
    rw [if_pos ⟨he.1, hany⟩] at hne ⊢
    have := freeN_lt he.1 hf hany
    refine walkG_end hnx m fuel (out ++ [f]) (nx f) he.2 (hnx f he.1 hf) ?_ (by omega) ?_ hne
    · intro a ha
      rcases List.mem_append.1 ha with q | q
      · obtain ⟨m', h1, h2⟩ := ho a q
        exact ⟨m', by omega, h2⟩
      · simp at q; subst q
        exact ⟨m + 1, by omega, he⟩
    · intro _
      congr 1
      simp [lastI, List.getD_eq_getElem?_getD]
theorem Calm.of_ends {h : List Fault} (hc : ∀ k, k < h.length → -1 ≤ (h.getD k default).ctx ∧ (h.getD k default).ctx < h.length) (he : ∀ k : Nat, k < h.length → Ends (ctxOf h) k) : Calm h := by
  refine ⟨hc, fun k hk => ?_⟩
  obtain ⟨m, hm⟩ := he k hk
  have hne := chainF_ne (h := h) (g := k) (by omega)
  have hnx : ∀ a : Int, 0 ≤ a → a < h.length → ctxOf h a < h.length := fun a a0 a1 => (hc a.toNat (by omega)).2
  have := walkG_end hnx m (h.length + 1) [] k hm (by omega) (fun a ha => by cases ha) (by have := freeN_nil h.length; omega) (fun q => absurd rfl q) hne
  have hin := lastI_in (fun k hk => (hc k hk).2) (f := k) (by omega) (by omega)
  have h1 := hc (lastI (chainF h k)).toNat (by omega)
  rw [lastOk, decide_eq_true_eq]
  unfold ctxOf at this ⊢
  unfold chainF walkF at h1 ⊢
  unfold ctxOf at h1 ⊢
  omega
theorem Calm.ends {h : List Fault} (hc : Calm h) {k : Int} (h0 : 0 ≤ k) (hk : k < h.length) : Ends (ctxOf h) k := by
  have hne := List.length_pos_iff.2 (chainF_ne (h := h) h0)
  have key : ∀ j, j < (chainF h k).length → Ends (ctxOf h) ((chainF h k).getD ((chainF h k).length - 1 - j) default) := by
    intro j
    induction j with
    | zero =>
      intro hj
      rcases hc.at h0 hk (i := (chainF h k).length - 1 - 0) (by omega) with ⟨q, _⟩ | ⟨_, q⟩
      · omega
      · exact .step (.neg (by omega))
    | succ j ih =>
      intro hj
      have e : (chainF h k).length - 1 - j = ((chainF h k).length - 1 - (j + 1)) + 1 := by omega
      have := ih (by omega)
      rw [e, chain_step (by omega)] at this
      exact .step this
  have := key ((chainF h k).length - 1) (by omega)
  rw [Nat.sub_self, chain_head h0] at this
  exact this
end
section
open Go Go.Sim
set_option maxRecDepth 100000
theorem Calm.nil : Calm [] := ⟨fun k hk => by simp at hk, fun k hk => by simp at hk⟩
theorem Calm.same {h h' : List Fault} (hc : Calm h) (hl : h'.length = h.length) (hx : ∀ k, k < h.length → (h'.getD k default).ctx = (h.getD k default).ctx) : Calm h' := by
  have e : ∀ a : Int, 0 ≤ a → a < h.length → ctxOf h' a = ctxOf h a := fun a a0 a1 => hx a.toNat (by omega)
  refine .of_ends (fun k hk => ?_) (fun k hk => ?_)
  · rw [hl] at hk ⊢; rw [hx k hk]; exact hc.ctx k hk
  · rw [hl] at hk
    have := hc.ends (k := k) (by omega) (by omega)
    refine Ends.ind (p := fun a => a < h.length → Ends (ctxOf h') a) (fun a q _ => .neg q) (fun a a0 q q1 => .step ?_) this (by omega)
    rw [e a a0 q1]
    exact q (hc.ctx a.toNat (by omega)).2
theorem Calm.add {h : List Fault} (hc : Calm h) {x : Fault} (hx : x.ctx = -1) : Calm (h ++ [x]) := by
  have e1 : ∀ a : Int, 0 ≤ a → a < h.length → ctxOf (h ++ [x]) a = ctxOf h a := fun a a0 a1 => by unfold ctxOf; rw [getD_app (by omega)]
  have e2 : ctxOf (h ++ [x]) h.length = -1 := by unfold ctxOf; simp [List.getD_eq_getElem?_getD, hx]
  refine .of_ends (fun k hk => ?_) (fun k hk => ?_)
  · rw [List.length_append, List.length_singleton] at hk ⊢
    show -1 ≤ ctxOf (h ++ [x]) (k : Int) ∧ ctxOf (h ++ [x]) (k : Int) < ((h.length + 1 : Nat) : Int)
    rcases Nat.lt_or_ge k h.length with q | q
    · rw [e1 k (by omega) (by omega)]
      have := hc.ctx k q
      unfold ctxOf
      simp only [Int.toNat_natCast]
      omega
    · have : k = h.length := by omega
      subst this
      rw [e2]; omega
  · rw [List.length_append, List.length_singleton] at hk
    rcases Nat.lt_or_ge k h.length with q | q
    · have := hc.ends (k := k) (by omega) (by omega)
      refine Ends.ind (p := fun a => a < h.length → Ends (ctxOf (h ++ [x])) a) (fun a q _ => .neg q) (fun a a0 q q1 => .step ?_) this (by omega)
      rw [e1 a a0 q1]
      exact q (hc.ctx a.toNat (by omega)).2
    · have : k = h.length := by omega
      subst this
      exact .step (by rw [e2]; exact .neg (by omega))
end
section
open Go Go.Sim
set_option maxRecDepth 100000

def Links (h : List Fault) : Prop := ∀ k, k < h.length → (h.getD k default).cause < h.length ∧ (h.getD k default).ctx < h.length
theorem Nums.app {n : Nat} {out : List Int} (h : Nums n out) {g : Int} (h0 : 0 ≤ g) (hg : g < n) (ha : (out.any fun x => decide (g = x)) = false) : Nums n (out ++ [g]) := by
  have := h.add hg
  unfold addF at this
  rwa [if_pos ⟨h0, ha⟩] at this
end
end
section
set_option maxRecDepth 100000
attribute [local go_sem ↓] aw_skip aw_ret aw_exit aw_region aw_draw aw_seq aw_block aw_loop aw_cond frz_nil frz_cons sq_normal sq_ret sq_exit exB_normal exB_ret exB_same exB_other retQ_ret retQ_normal ret0_ret ret0_normal ao_nil go1 g_move g_assign g_pick g_build g_load g_binOp g_unOp g_convert g_fieldAddr g_field g_indexAddr g_index g_extract g_lookup g_slice g_nilCheck g_len g_makeFunc h_call h_append h_alloc h_box h_buildSlice h_makeSlice h_store gV i_box i_buildSlice i_move i_assign i_build i_load i_binOp i_unOp i_convert i_fieldAddr i_field i_indexAddr i_index i_extract i_lookup i_makeMap i_mapUpdate i_slice i_nilCheck i_makeFunc i_len i_max i_min i_alloc i_makeSlice i_store i_append i_call i_pick boxI boxA buildSliceI buildSliceA makeSliceA makeMapA allocA storeA p_move p_assign p_pick p_build p_load p_binOp p_unOp p_convert p_fieldAddr p_field p_indexAddr p_index p_extract p_lookup p_makeMap p_mapUpdate p_slice p_nilCheck p_makeFunc p_len p_max p_min p_alloc p_box p_buildSlice p_makeSlice p_store p_append p_call x_nil x_go1 x_g0 x_g1 x_g2 x_g3 x_s0 x_s1 x_s2 x_s3 u_move u_assign u_pick u_build u_load u_binOp u_unOp u_convert u_fieldAddr u_field u_indexAddr u_index u_extract u_lookup u_slice u_nilCheck u_makeFunc u_len u_buildSlice
attribute [local go_sem] frzV_ptr frzV_sl frzK_some set_none set_other AHeap.set_self set_del set_set cnd_t cnd_f cnd_b retA_one retA_two retA_three retA_four retA_nil gIf_b mrgV_b mrgV_wh mrgV_U gIf_U gIf_wh mrgB_f mrgB_some mrgB_if wh_true wh_false keepA_some keepA_if gD_zero gD_succ gT_some bxA_t bxA_f callA_fn ev_tmp ev_const ev_global ev_func oc_bool oc_int oc_string oc_nil oc_nilptr oc_nilfunc cl_bool cl_int cl_string cl_nil updO_some updO_none upd_same upd_other init_at pickA_b pickA_wh selA_t selA_f selA_and selA_or selA_orn selA_orm selA_bb selA_ii beqt b_add b_sub b_mul b_and b_or b_xor b_eql b_neq b_lss b_leq b_gtr b_geq b_quo b_rem b_shr b_seql b_sneq b_sadd b_beql b_bneq b_aeql b_aneq u_not u_neg isConstOp eqA eqCellV List.getD_cons_zero List.getD_cons_succ List.map_cons List.map_nil List.nil_append List.cons_append List.append_nil if_true if_false Option.map_some Option.map_none ne_eq not_false_eq_true oneA ldv ld1v ld1s wr1s ldRow stRow row_lit row_agg row_vsl row_sl row_ptr row_fn one_I one_B one_S one_vsl one_sl one_ptr one_fn extractA okA rI rS rU rClass rFault rExit rStart rLine Int.toNat_natCast List.length_cons List.length_nil List.length_map List.all_cons List.all_nil Bool.and_true Nat.zero_add List.getElem?_cons_zero List.getElem?_cons_succ List.take_succ_cons List.take_zero List.drop_succ_cons List.drop_zero and_self true_and and_true implies_true decide_eq_true_eq decide_eq_false_iff_not Bool.or_eq_true Bool.or_eq_false_iff Bool.and_eq_true Bool.not_eq_true' Bool.not_eq_false' beq_false decide_true decide_false Int.ofNat_lt Int.ofNat_le Int.natCast_nonneg Bool.or_true Bool.or_false Bool.true_or Bool.false_or beq_self_eq_true List.drop_one Bool.not_true Bool.not_false Bool.not_not Bool.false_eq_true Bool.true_eq_false false_implies true_implies Bool.true_and Bool.false_and Bool.and_false not_true_eq_false Int.natCast_eq_zero Int.natCast_pos Int.natCast_zero false_and and_false or_false false_or or_true true_or Bool.or_self none_le_iff List.replicate_zero Int.toNat_zero List.replicate_succ buildRows List.set_cons_zero List.set_cons_succ List.set_nil List.mapM_nil maxLen_eq Nat.zero_le Nat.mul_one Nat.one_mul bldA fillA spliceA List.take_nil List.drop_nil List.getElem?_nil ld1o wr1o bldSliceA le_same ti1 ti2 tk2 ti3 te3 ts3 tk3 tz3 ti4 tb4 ti5 tk5 tz5 ti9 te9 ts9 tk9 tz9 ti12 tk12 ti13 tp13 tf13_0 tf13_1 ti20 ti21 tk21 tz21 ti22 te22 ti23 tp23 tf23_0 ti24 tp24 tf24_0 ti25 te25 ti26 te26 ti27 te27 ti28 tp28 tf28_0 ti29 tp29 tf29_0 ti30 tp30 tf30_0 tf30_1 tf30_2 tf30_3 ti31 tp31 tf31_0 tf31_1 tf31_2 tf31_3 ti32 ti33 ti34 ti35 te35 tz35 ti37 ti38 ti39 ti40 ti42 ti44 ti46 ti47 ti48 ti49 tq49 tp49 tf49_0 tf49_1 tf49_2 tf49_3 ti50 tq50 tp50 tf50_0 tf50_1 tf50_2 tf50_3 ti51 ti52 ti53 ti54 ti55 ti56 ti57 ti58 tq58 tp58 tf58_0 tf58_1 ti59 tq59 tp59 tf59_0 tf59_1 ti60 ti61 ti62 ti63 ti64 ti65 ti66 ti67 ti68 ti69 ti70 ti71 ti72 ti73 ti74 ti75 ti76 ti77 ti78 ti79 tq79 tp79 tf79_0 tf79_1 tf79_2 tf79_3 tf79_4 ti80 tq80 tp80 tf80_0 tf80_1 tf80_2 tf80_3 tf80_4 ti81 ti82 ti83 ti84 ti85 ti86 ti87 ti88 ti89 tp89 tf89_0 tf89_1 tf89_2 tf89_3 tf89_4 ti90 tp90 tf90_0 tf90_1 tf90_2 tf90_3 tf90_4 ti91 ti93 ti94 ti95 ti96 ti97 ti98 tp98 tf98_0 tf98_1 tf98_2 tf98_3 ti99 tp99 tf99_0 tf99_1 tf99_2 tf99_3 ti100 tq100 tp100 tf100_0 tf100_1 ti101 tq101 tp101 tf101_0 tf101_1 ti102 ti103 ti104 tq104 tp104 tf104_0 tf104_1 ti105 tq105 tp105 tf105_0 tf105_1 ti106 ti107 ti108 ti109 ti110 ti111 ti112 ti113 tp113 tf113_0 tf113_1 ti114 tp114 tf114_0 tf114_1 ti115 ti116 ti117 ti118 te118 ti119 ti120 ti121 ti122 ti123 ti124 ti125 ti126 ti127 ti128 ti129 ti130 ti131 te131 ti132 ti133 ti134 ti135 ti136 tk136 tz136 ti137 ti138 ti139 ti140 ti141 ti142 ti143 tk143 ti145 ti146 ti147 ti149 ti150 ti151 tk151 tz151 ti152 ti153 tk153 tz153 ti154 ti155 ti156 ti157 ti158 tk158 ti159 ti160 ti161 ti162 ti163 ti164 ti165 ti167 ti168 ti174 ti178 fp13_0 fv13_0 fp13_1 fv13_1 fp23_0 fv23_0 fp24_0 fv24_0 fp28_0 fv28_0 fp29_0 fv29_0 fp30_0 fv30_0 fp30_1 fv30_1 fp30_2 fv30_2 fp30_3 fv30_3 fp31_0 fv31_0 fp31_1 fv31_1 fp31_2 fv31_2 fp31_3 fv31_3 fp49_0 fv49_0 fp49_1 fv49_1 fp49_2 fv49_2 fp49_3 fv49_3 fp50_0 fv50_0 fp50_1 fv50_1 fp50_2 fv50_2 fp50_3 fv50_3 fp58_0 fv58_0 fp58_1 fv58_1 fp59_0 fv59_0 fp59_1 fv59_1 fp79_0 fv79_0 fp79_1 fv79_1 fp79_2 fv79_2 fp79_3 fv79_3 fp79_4 fv79_4 fp80_0 fv80_0 fp80_1 fv80_1 fp80_2 fv80_2 fp80_3 fv80_3 fp80_4 fv80_4 fp89_0 fv89_0 fp89_1 fv89_1 fp89_2 fv89_2 fp89_3 fv89_3 fp89_4 fv89_4 fp90_0 fv90_0 fp90_1 fv90_1 fp90_2 fv90_2 fp90_3 fv90_3 fp90_4 fv90_4 fp98_0 fv98_0 fp98_1 fv98_1 fp98_2 fv98_2 fp98_3 fv98_3 fp99_0 fv99_0 fp99_1 fv99_1 fp99_2 fv99_2 fp99_3 fv99_3 fp100_0 fv100_0 fp100_1 fv100_1 fp101_0 fv101_0 fp101_1 fv101_1 fp104_0 fv104_0 fp104_1 fv104_1 fp105_0 fv105_0 fp105_1 fv105_1 fp113_0 fv113_0 fp113_1 fv113_1 fp114_0 fv114_0 fp114_1 fv114_1 lv22 ll22 is22 ix22 sh22 so22 sb22 sm22 sp22 lv25 ll25 is25 ix25 sh25 so25 sb25 sm25 sp25 lv26 ll26 is26 ix26 sh26 so26 sb26 sm26 sp26 lv27 ll27 is27 ix27 sh27 so27 sb27 sm27 sp27 lv35 ll35 is35 ix35 sh35 so35 sb35 sm35 sp35 lv118 ll118 is118 sp118 lv131 ll131 is131 ix131 sh131 so131 sb131 sm131 sp131 xs9 ls9 sx9 sy9 sz9
section
open Go Go.Sim
set_option maxRecDepth 100000
theorem Nums.nil (n : Nat) : Nums n [] where
  mem a ha := absurd ha (List.not_mem_nil)
  free := by have := freeN_nil n; simpa using this
end
section
open Go Go.Sim
set_option maxRecDepth 100000

def insR : List Int → Int → List Int
  | [], v => [v]
  | b :: out, v => if b < v then b :: insR out v else if b = v then b :: out else v :: b :: out
theorem insF_eq : ∀ (out : List Int) (v : Int), insF out v = insR out v
  | [], v => by simp [insF, insR, insK]
  | b :: out, v => by
    have ih := insF_eq out v
    unfold insR
    by_cases c : b < v
    · rw [if_pos c, ← ih]
      have hk : insK (b :: out) v = insK out v + 1 := by simp [insK, List.takeWhile_cons, c]
      unfold insF
      rw [hk]
      simp only [List.length_cons, List.getD_cons_succ, List.take_succ_cons, List.drop_succ_cons, Nat.add_right_cancel_iff]
      split <;> simp
    · rw [if_neg c]
      have hk : insK (b :: out) v = 0 := by simp [insK, List.takeWhile_cons, c]
      unfold insF
      rw [hk]
      by_cases e : b = v
      · rw [if_pos e, if_neg (by simp [e])]
      · rw [if_neg e, if_pos (by right; simpa using e)]
        simp
theorem insR_mem : ∀ {out : List Int} {v a : Int}, a ∈ insR out v ↔ a = v ∨ a ∈ out
  | [], v, a => by simp [insR]
  | b :: out, v, a => by
    unfold insR
    split
    · rw [List.mem_cons, insR_mem, List.mem_cons]
      constructor
      · rintro (q | q | q) <;> simp [q]
      · rintro (q | q | q) <;> simp [q]
    · split
      · rename_i e; subst e; simp
      · simp
theorem insR_asc : ∀ {out : List Int} {v : Int}, out.Pairwise (· < ·) → (insR out v).Pairwise (· < ·)
  | [], v, _ => by simp [insR]
  | b :: out, v, h => by
    obtain ⟨h1, h2⟩ := List.pairwise_cons.1 h
    unfold insR
    split
    · rename_i c
      refine .cons (fun a ha => ?_) (insR_asc h2)
      rcases insR_mem.1 ha with q | q
      · omega
      · exact h1 a q
    · split
      · exact h
      · rename_i c e
        refine .cons (fun a ha => ?_) h
        rcases List.mem_cons.1 ha with q | q
        · omega
        · have := h1 a q; omega
theorem fold_asc : ∀ (l out : List Int), out.Pairwise (· < ·) → (l.foldl insF out).Pairwise (· < ·) ∧ ∀ a, a ∈ l.foldl insF out ↔ a ∈ out ∨ a ∈ l
  | [], out, h => ⟨h, fun a => by simp⟩
  | v :: l, out, h => by
    rw [List.foldl_cons, insF_eq]
    obtain ⟨h1, h2⟩ := fold_asc l (insR out v) (insR_asc h)
    refine ⟨h1, fun a => ?_⟩
    rw [h2, insR_mem, List.mem_cons]
    constructor
    · rintro ((q | q) | q) <;> simp [q]
    · rintro (q | q | q) <;> simp [q]
theorem sortedF_asc (l : List Int) : (sortedF l).Pairwise (· < ·) := (fold_asc l [] .nil).1
theorem sortedF_iff {l : List Int} {a : Int} : a ∈ sortedF l ↔ a ∈ l := by
  have := (fold_asc l [] .nil).2 a
  simpa [sortedF] using this
/-- Numbers sorted, each once: told by what is in them. -/
theorem sort_ext {l m : List Int} (hl : l.Nodup) (h : ∀ a, a ∈ l ↔ a ∈ m) : sortI l = sortedF m := by
  have s1 : (sortI l).Pairwise (fun a b => a ≤ b) := by
    have := List.pairwise_mergeSort (le := fun x y : Int => decide (x ≤ y)) (fun a b c h1 h2 => by simp at *; omega) (fun a b => by simp; omega) l
    exact this.imp (fun h => by simpa using h)
  have a2 := sortedF_asc m
  have s2 : (sortedF m).Pairwise (fun a b => a ≤ b) := a2.imp (fun h => by omega)
  have n2 : (sortedF m).Nodup := a2.imp (fun h => by omega)
  have n1 : (sortI l).Nodup := (List.mergeSort_perm l _).nodup_iff.2 hl
  have pm : (sortI l).Perm (sortedF m) := (List.perm_ext_iff_of_nodup n1 n2).2 fun a => by rw [sortI_mem, sortedF_iff, h]
  exact pm.eq_of_pairwise (fun a b _ _ h1 h2 => by omega) s1 s2
/-- What a fault reaches. -/
inductive Rch (h : List Fault) (f : Int) : Int → Prop where
  | refl : Rch h f f
  | cause {a : Int} : Rch h f a → 0 ≤ causeOf h a → Rch h f (causeOf h a)
  | ctx {a : Int} : Rch h f a → 0 ≤ ctxOf h a → Rch h f (ctxOf h a)
theorem addF_mem {out : List Int} {g a : Int} : a ∈ addF out g ↔ a ∈ out ∨ (a = g ∧ 0 ≤ g) := by
  unfold addF
  by_cases c : 0 ≤ g ∧ (out.any fun x => decide (g = x)) = false
  · rw [if_pos c, List.mem_append, List.mem_singleton]
    constructor
    · rintro (q | q)
      · exact .inl q
      · exact .inr ⟨q, c.1⟩
    · rintro (q | q)
      · exact .inl q
      · exact .inr q.1
  · rw [if_neg c]
    refine ⟨.inl, ?_⟩
    rintro (q | ⟨rfl, q⟩)
    · exact q
    · have : ¬ (out.any fun x => decide (a = x)) = false := fun e => c ⟨q, e⟩
      simpa using this
theorem addF_nodup {out : List Int} {g : Int} (h : out.Nodup) : (addF out g).Nodup := by
  unfold addF
  split
  · rename_i c
    rw [List.nodup_append]
    refine ⟨h, by simp, fun a ha b hb => ?_⟩
    simp at hb; subst hb
    rintro rfl
    have := c.2
    rw [List.any_eq_false] at this
    exact this a ha (by simp)
  · exact h
theorem bfsG_clos {h : List Fault} (hlk : Links h) (f : Int) : ∀ (n i : Nat) (out : List Int), Nums h.length out → out.Nodup → h.length ≤ i + n → (∀ a ∈ out, Rch h f a) →
    (∀ j, j < i → j < out.length → (0 ≤ causeOf h (out.getD j default) → causeOf h (out.getD j default) ∈ out) ∧ (0 ≤ ctxOf h (out.getD j default) → ctxOf h (out.getD j default) ∈ out)) →
    (∀ a ∈ out, a ∈ bfsG h n i out) ∧ (bfsG h n i out).Nodup ∧ (∀ a ∈ bfsG h n i out, Rch h f a) ∧ (∀ a ∈ bfsG h n i out, (0 ≤ causeOf h a → causeOf h a ∈ bfsG h n i out) ∧ (0 ≤ ctxOf h a → ctxOf h a ∈ bfsG h n i out)) := by
  have stop : ∀ (i : Nat) (out : List Int), out.length ≤ i → (∀ j, j < i → j < out.length → (0 ≤ causeOf h (out.getD j default) → causeOf h (out.getD j default) ∈ out) ∧ (0 ≤ ctxOf h (out.getD j default) → ctxOf h (out.getD j default) ∈ out)) →
      ∀ a ∈ out, (0 ≤ causeOf h a → causeOf h a ∈ out) ∧ (0 ≤ ctxOf h a → ctxOf h a ∈ out) := by
    intro i out hi hj a ha
    obtain ⟨j, hj1, rfl⟩ := List.mem_iff_getElem.1 ha
    have := hj j (by omega) hj1
    simpa [List.getD_eq_getElem?_getD, hj1] using this
  intro n
  induction n with
  | zero =>
    intro i out hn hd hl hr hj
    have := hn.free
    exact ⟨fun a ha => ha, hd, hr, stop i out (by omega) hj⟩
  | succ n ih =>
    intro i out hn hd hl hr hj
    simp only [bfsG]
    by_cases c : i < out.length
    · rw [if_pos c]
      have hm : out.getD i default ∈ out := by rw [List.getD_eq_getElem?_getD, List.getElem?_eq_getElem c]; exact List.getElem_mem c
      have hmm := hn.mem _ hm
      have hk := hlk (out.getD i default).toNat (by omega)
      have hri := hr _ hm
      generalize hg : out.getD i default = v at hm hmm hk hri
      have hN := (hn.add (g := causeOf h v) hk.1).add (g := ctxOf h v) hk.2
      have keep : ∀ a ∈ out, a ∈ addF (addF out (causeOf h v)) (ctxOf h v) := fun a ha => addF_mem.2 (.inl (addF_mem.2 (.inl ha)))
      have pre : ∀ (o : List Int) (g : Int) (j : Nat), j < o.length → (addF o g).getD j default = o.getD j default := by
        intro o g j hjo
        unfold addF
        split
        · rw [getD_app hjo]
        · rfl
      have l1 := addF_len out (causeOf h v)
      obtain ⟨b1, b2, b3, b4⟩ := ih (i + 1) (addF (addF out (causeOf h v)) (ctxOf h v)) hN (addF_nodup (addF_nodup hd)) (by omega) (fun a ha => by
        rcases addF_mem.1 ha with q | ⟨e, q⟩
        · rcases addF_mem.1 q with q1 | ⟨e1, q1⟩
          · exact hr a q1
          · rw [e1]; exact .cause hri q1
        · rw [e]; exact .ctx hri q) (fun j hj1 hj2 => by
        have hjo : j < out.length := by omega
        rw [pre _ _ j (by omega), pre _ _ j hjo]
        by_cases e : j = i
        · subst e
          rw [hg]
          exact ⟨fun q => addF_mem.2 (.inl (addF_mem.2 (.inr ⟨rfl, q⟩))), fun q => addF_mem.2 (.inr ⟨rfl, q⟩)⟩
        · have := hj j (by omega) hjo
          exact ⟨fun q => keep _ (this.1 q), fun q => keep _ (this.2 q)⟩)
      exact ⟨fun a ha => b1 a (keep a ha), b2, b3, b4⟩
    · rw [if_neg c]
      exact ⟨fun a ha => ha, hd, hr, stop i out (by omega) hj⟩
theorem bfsF_iff {h : List Fault} (hlk : Links h) {f : Int} (h0 : 0 ≤ f) (hf : f < h.length) : (bfsF h f).Nodup ∧ ∀ a, a ∈ bfsF h f ↔ Rch h f a := by
  obtain ⟨b1, b2, b3, b4⟩ := bfsG_clos hlk f (h.length + 1) 0 [f] (Nums.one h0 hf) (by simp) (by omega) (fun a ha => by simp at ha; subst ha; exact .refl) (fun j hj => by omega)
  refine ⟨b2, fun a => ⟨b3 a, fun r => ?_⟩⟩
  induction r with
  | refl => exact b1 f (by simp)
  | cause _ q ih => exact (b4 _ ih).1 q
  | ctx _ q ih => exact (b4 _ ih).2 q
end
end
section
set_option maxRecDepth 100000
attribute [local go_sem ↓] aw_skip aw_ret aw_exit aw_region aw_draw aw_seq aw_block aw_loop aw_cond frz_nil frz_cons sq_normal sq_ret sq_exit exB_normal exB_ret exB_same exB_other retQ_ret retQ_normal ret0_ret ret0_normal ao_nil go1 g_move g_assign g_pick g_build g_load g_binOp g_unOp g_convert g_fieldAddr g_field g_indexAddr g_index g_extract g_lookup g_slice g_nilCheck g_len g_makeFunc h_call h_append h_alloc h_box h_buildSlice h_makeSlice h_store gV i_box i_buildSlice i_move i_assign i_build i_load i_binOp i_unOp i_convert i_fieldAddr i_field i_indexAddr i_index i_extract i_lookup i_makeMap i_mapUpdate i_slice i_nilCheck i_makeFunc i_len i_max i_min i_alloc i_makeSlice i_store i_append i_call i_pick boxI boxA buildSliceI buildSliceA makeSliceA makeMapA allocA storeA p_move p_assign p_pick p_build p_load p_binOp p_unOp p_convert p_fieldAddr p_field p_indexAddr p_index p_extract p_lookup p_makeMap p_mapUpdate p_slice p_nilCheck p_makeFunc p_len p_max p_min p_alloc p_box p_buildSlice p_makeSlice p_store p_append p_call x_nil x_go1 x_g0 x_g1 x_g2 x_g3 x_s0 x_s1 x_s2 x_s3 u_move u_assign u_pick u_build u_load u_binOp u_unOp u_convert u_fieldAddr u_field u_indexAddr u_index u_extract u_lookup u_slice u_nilCheck u_makeFunc u_len u_buildSlice x_s4 x_g4 rq_normal rq_ret rq_exit aw_range
attribute [local go_sem] frzV_sl frzK_some set_none set_other AHeap.set_self set_del set_set cnd_t cnd_f cnd_b retA_one retA_two retA_three retA_four retA_nil gIf_b mrgV_b mrgV_wh mrgV_U gIf_U gIf_wh mrgB_f mrgB_some mrgB_if wh_true wh_false keepA_some keepA_if gD_zero gD_succ gT_some bxA_t bxA_f callA_fn ev_tmp ev_const ev_global ev_func oc_bool oc_int oc_string oc_nil oc_nilptr oc_nilfunc cl_bool cl_int cl_string cl_nil updO_some updO_none upd_same upd_other init_at pickA_b pickA_wh selA_t selA_f selA_and selA_or selA_orn selA_orm selA_bb selA_ii beqt b_add b_sub b_mul b_and b_or b_xor b_eql b_neq b_lss b_leq b_gtr b_geq b_quo b_rem b_shr b_seql b_sneq b_sadd b_beql b_bneq b_aeql b_aneq u_not u_neg isConstOp eqA eqCellV List.getD_cons_zero List.getD_cons_succ List.map_cons List.map_nil List.nil_append List.cons_append List.append_nil if_true if_false Option.map_some Option.map_none ne_eq not_false_eq_true oneA ldv ld1v ld1s wr1s ldRow stRow row_lit row_agg row_vsl row_sl row_ptr row_fn one_I one_B one_S one_vsl one_sl one_ptr one_fn extractA okA rI rS rU rClass rFault rExit rStart rLine Int.toNat_natCast List.length_cons List.length_nil List.length_map List.all_cons List.all_nil Bool.and_true Nat.zero_add List.getElem?_cons_zero List.getElem?_cons_succ List.take_succ_cons List.take_zero List.drop_succ_cons List.drop_zero and_self true_and and_true implies_true decide_eq_true_eq decide_eq_false_iff_not Bool.or_eq_true Bool.or_eq_false_iff Bool.and_eq_true Bool.not_eq_true' Bool.not_eq_false' beq_false decide_true decide_false Int.ofNat_lt Int.ofNat_le Int.natCast_nonneg Bool.or_true Bool.or_false Bool.true_or Bool.false_or beq_self_eq_true List.drop_one Bool.not_true Bool.not_false Bool.not_not Bool.false_eq_true Bool.true_eq_false false_implies true_implies Bool.true_and Bool.false_and Bool.and_false not_true_eq_false Int.natCast_eq_zero Int.natCast_pos Int.natCast_zero false_and and_false or_false false_or or_true true_or Bool.or_self none_le_iff List.replicate_zero Int.toNat_zero List.replicate_succ buildRows List.set_cons_zero List.set_cons_succ List.set_nil List.mapM_nil maxLen_eq Nat.zero_le Nat.mul_one Nat.one_mul bldA fillA spliceA List.take_nil List.drop_nil List.getElem?_nil ld1o wr1o bldSliceA le_same cv_i cvI_t quietT_fn qvd_some ld_o ldO_1 ldO_l wr_o wrO_1 set_2 set_3 set_4 putL_nil putL_cons List.zip_cons_cons List.zip_nil_left List.zip_nil_right List.toList_toArray frzV_set ti1 ti2 tk2 ti3 te3 ts3 tk3 tz3 ti4 tb4 ti5 tk5 tz5 ti9 te9 ts9 tk9 tz9 ti12 tk12 ti13 tp13 tf13_0 tf13_1 ti20 ti21 tk21 tz21 ti22 te22 ti23 tp23 tf23_0 ti24 tp24 tf24_0 ti25 te25 ti26 te26 ti27 te27 ti28 tp28 tf28_0 ti29 tp29 tf29_0 ti30 tp30 tf30_0 tf30_1 tf30_2 tf30_3 ti31 tp31 tf31_0 tf31_1 tf31_2 tf31_3 ti32 ti33 ti34 ti35 te35 tz35 ti37 ti38 ti39 ti40 ti42 ti44 ti46 ti47 ti48 ti49 tq49 tp49 tf49_0 tf49_1 tf49_2 tf49_3 ti50 tq50 tp50 tf50_0 tf50_1 tf50_2 tf50_3 ti51 ti52 ti53 ti54 ti55 ti56 ti57 ti58 tq58 tp58 tf58_0 tf58_1 ti59 tq59 tp59 tf59_0 tf59_1 ti60 ti61 ti62 ti63 ti64 ti65 ti66 ti67 ti68 ti69 ti70 ti71 ti72 ti73 ti74 ti75 ti76 ti77 ti78 ti79 tq79 tp79 tf79_0 tf79_1 tf79_2 tf79_3 tf79_4 ti80 tq80 tp80 tf80_0 tf80_1 tf80_2 tf80_3 tf80_4 ti81 ti82 ti83 ti84 ti85 ti86 ti87 ti88 ti89 tp89 tf89_0 tf89_1 tf89_2 tf89_3 tf89_4 ti90 tp90 tf90_0 tf90_1 tf90_2 tf90_3 tf90_4 ti91 ti93 ti94 ti95 ti96 ti97 ti98 tp98 tf98_0 tf98_1 tf98_2 tf98_3 ti99 tp99 tf99_0 tf99_1 tf99_2 tf99_3 ti100 tq100 tp100 tf100_0 tf100_1 ti101 tq101 tp101 tf101_0 tf101_1 ti102 ti103 ti104 tq104 tp104 tf104_0 tf104_1 ti105 tq105 tp105 tf105_0 tf105_1 ti106 ti107 ti108 ti109 ti110 ti111 ti112 ti113 tp113 tf113_0 tf113_1 ti114 tp114 tf114_0 tf114_1 ti115 ti116 ti117 ti118 te118 ti119 ti120 ti121 ti122 ti123 ti124 ti125 ti126 ti127 ti128 ti129 ti130 ti131 te131 ti132 ti133 ti134 ti135 ti136 tk136 tz136 ti137 ti138 ti139 ti140 ti141 ti142 ti143 tk143 ti145 ti146 ti147 ti149 ti150 ti151 tk151 tz151 ti152 ti153 tk153 tz153 ti154 ti155 ti156 ti157 ti158 tk158 ti159 ti160 ti161 ti162 ti163 ti164 ti165 ti167 ti168 ti174 ti178 fp13_0 fv13_0 fp13_1 fv13_1 fp23_0 fv23_0 fp24_0 fv24_0 fp28_0 fv28_0 fp29_0 fv29_0 fp30_0 fv30_0 fp30_1 fv30_1 fp30_2 fv30_2 fp30_3 fv30_3 fp31_0 fv31_0 fp31_1 fv31_1 fp31_2 fv31_2 fp31_3 fv31_3 fp49_0 fv49_0 fp49_1 fv49_1 fp49_2 fv49_2 fp49_3 fv49_3 fp50_0 fv50_0 fp50_1 fv50_1 fp50_2 fv50_2 fp50_3 fv50_3 fp58_0 fv58_0 fp58_1 fv58_1 fp59_0 fv59_0 fp59_1 fv59_1 fp79_0 fv79_0 fp79_1 fv79_1 fp79_2 fv79_2 fp79_3 fv79_3 fp79_4 fv79_4 fp80_0 fv80_0 fp80_1 fv80_1 fp80_2 fv80_2 fp80_3 fv80_3 fp80_4 fv80_4 fp89_0 fv89_0 fp89_1 fv89_1 fp89_2 fv89_2 fp89_3 fv89_3 fp89_4 fv89_4 fp90_0 fv90_0 fp90_1 fv90_1 fp90_2 fv90_2 fp90_3 fv90_3 fp90_4 fv90_4 fp98_0 fv98_0 fp98_1 fv98_1 fp98_2 fv98_2 fp98_3 fv98_3 fp99_0 fv99_0 fp99_1 fv99_1 fp99_2 fv99_2 fp99_3 fv99_3 fp100_0 fv100_0 fp100_1 fv100_1 fp101_0 fv101_0 fp101_1 fv101_1 fp104_0 fv104_0 fp104_1 fv104_1 fp105_0 fv105_0 fp105_1 fv105_1 fp113_0 fv113_0 fp113_1 fv113_1 fp114_0 fv114_0 fp114_1 fv114_1 lv22 ll22 is22 ix22 sh22 so22 sb22 sm22 sp22 lv25 ll25 is25 ix25 sh25 so25 sb25 sm25 sp25 lv26 ll26 is26 ix26 sh26 so26 sb26 sm26 sp26 lv27 ll27 is27 ix27 sh27 so27 sb27 sm27 sp27 lv35 ll35 is35 ix35 sh35 so35 sb35 sm35 sp35 lv118 ll118 is118 sp118 lv131 ll131 is131 ix131 sh131 so131 sb131 sm131 sp131 xs9 ls9 sx9 sy9 sz9
section
open Go Go.Sim
set_option maxRecDepth 100000

theorem validH_all {t : List Class} {h : List Fault} (hv : validH t h = true) : (List.range h.length).all (faultOk t h) = true ∧ (List.range h.length).all (lastOk h) = true ∧ validT t = true ∧ h.length ≤ 24 := by
  simpa only [validH, Bool.and_eq_true, decide_eq_true_eq] using hv
theorem validH_links {t : List Class} {h : List Fault} (hv : validH t h = true) : Links h := fun k hk => by
  have := faultOk_links (validH_all hv).1 k hk
  exact ⟨this.2.2.2, this.2.1⟩
theorem inR_len {f : Int} {n : Nat} : inR f 0 (n - 1) = true ↔ 0 ≤ f ∧ f < n := by
  simp only [inR, Bool.and_eq_true, decide_eq_true_eq]; omega
theorem c_ReachOf (t : List Class) (cl : Bool) (h : List Fault) (cl' : Bool) (f : Int) (H : AHeap) (hs : shortNames t) (hl : h.length ≤ 1000) : ACalls Tryz.prog 40 [aTree t cl, aHeap h cl', I f] H fun r H' => Grow rI 1 3 H H' r (if (validH t h && inR f 0 (h.length - 1)) = true then sortI (bfsF h f) else []) := by
  refine acalls_of0 Tryz.func40 rfl (by kernel_rfl) rfl rfl (awp_sound (fz := fun _ => []) (im := fun s => s == 3 || s == 4 || s == 10) mixed _ _ _ _ (by kernel_rfl) ?_)
  simp +contextual -dsimp -implicitDefEqProofs (maxSteps := 5000000) only [go_sem, reduceIte, reduceCtorEq, Nat.reduceEqDiff, Nat.reduceBEq, Nat.reduceAdd, Nat.reduceLeDiff, Nat.reduceMul, Nat.reduceLT, Int.reduceEq, Int.reduceLT, Int.reduceLE]
  refine (c_faultsIn t cl h cl' [f] true _ (short_ok hs) (by omega)).det ?_
  simp only [List.all_cons, List.all_nil, Bool.and_true]
  cases hv : validH t h && inR f 0 (h.length - 1)
  · simp +contextual -dsimp -implicitDefEqProofs (maxSteps := 5000000) only [go_sem, reduceIte, reduceCtorEq, Nat.reduceEqDiff, Nat.reduceBEq, Nat.reduceAdd, Nat.reduceLeDiff, Nat.reduceMul, Nat.reduceLT, Int.reduceEq, Int.reduceLT, Int.reduceLE]
    exact grow_nil
  · simp +contextual -dsimp -implicitDefEqProofs (maxSteps := 5000000) only [go_sem, reduceIte, reduceCtorEq, Nat.reduceEqDiff, Nat.reduceBEq, Nat.reduceAdd, Nat.reduceLeDiff, Nat.reduceMul, Nat.reduceLT, Int.reduceEq, Int.reduceLT, Int.reduceLE]
    have hv2 := hv
    rw [Bool.and_eq_true] at hv2
    have hf := inR_len.1 hv2.2
    refine (c_mreach h cl' f _ (by omega) hf.1 hf.2 (validH_links hv2.1)).mono fun r H' hg => ?_
    simp +contextual -dsimp -implicitDefEqProofs (maxSteps := 5000000) only [go_sem, reduceIte, reduceCtorEq, Nat.reduceEqDiff, Nat.reduceBEq, Nat.reduceAdd, Nat.reduceLeDiff, Nat.reduceMul, Nat.reduceLT, Int.reduceEq, Int.reduceLT, Int.reduceLE]
    exact hg
end
section
open Go Go.Sim
set_option maxRecDepth 100000

/-- Where a number stands in a list; -1 if it does not. -/
def posF (S : List Int) (a : Int) : Int := idxF (fun x => decide (a = x)) S
theorem posF_mem {S : List Int} {a : Int} (h : a ∈ S) : 0 ≤ posF S a ∧ posF S a < S.length ∧ S.getD (posF S a).toNat default = a := by
  unfold posF
  induction S with
  | nil => cases h
  | cons b S ih =>
    simp only [idxF]
    by_cases e : a = b
    · rw [if_pos (by simpa using e)]
      refine ⟨by omega, by simp only [List.length_cons]; omega, ?_⟩
      show (b :: S).getD 0 default = a
      rw [List.getD_cons_zero, e]
    · have hm : a ∈ S := by
        rcases List.mem_cons.1 h with q | q
        · exact absurd q e
        · exact q
      obtain ⟨i1, i2, i3⟩ := ih hm
      rw [if_neg (by simpa using e), if_neg (by omega)]
      refine ⟨by omega, by simp only [List.length_cons]; omega, ?_⟩
      have : (idxF (fun x => decide (a = x)) S + 1).toNat = (idxF (fun x => decide (a = x)) S).toNat + 1 := by omega
      rw [this, List.getD_cons_succ, i3]
theorem posF_none {S : List Int} {a : Int} (h : a ∉ S) : posF S a = -1 := by
  unfold posF
  rw [idxF_neg, List.any_eq_false]
  intro x hx
  have : ¬ a = x := by rintro rfl; exact h hx
  simpa using this
theorem posF_inj {S : List Int} {a b : Int} (ha : a ∈ S) (hb : b ∈ S) (h : posF S a = posF S b) : a = b := by
  have h1 := (posF_mem ha).2.2
  have h2 := (posF_mem hb).2.2
  rw [h] at h1
  rw [← h1, h2]
theorem posF_at {S : List Int} (hd : S.Nodup) {k : Nat} (hk : k < S.length) : posF S (S.getD k default) = k := by
  have hm : S.getD k default ∈ S := by rw [List.getD_eq_getElem?_getD, List.getElem?_eq_getElem hk]; exact List.getElem_mem hk
  obtain ⟨h1, h2, h3⟩ := posF_mem hm
  obtain ⟨j, hj⟩ : ∃ j : Nat, posF S (S.getD k default) = j := ⟨(posF S (S.getD k default)).toNat, by omega⟩
  rw [hj] at h1 h2 h3 ⊢
  have hj2 : j < S.length := by omega
  rw [Int.toNat_natCast, List.getD_eq_getElem?_getD, List.getD_eq_getElem?_getD, List.getElem?_eq_getElem hj2, List.getElem?_eq_getElem hk] at h3
  have h4 : S[j] = S[k] := by simpa using h3
  rcases Nat.lt_trichotomy j k with q | q | q
  · exact absurd h4 ((List.pairwise_iff_getElem.1 hd) j k hj2 hk q)
  · omega
  · exact absurd h4.symm ((List.pairwise_iff_getElem.1 hd) k j hk hj2 q)
theorem isoL_len (h : List Fault) (S : List Int) : (isoL h S).length = S.length := by simp [isoL]
theorem isoL_at {h : List Fault} {S : List Int} {k : Nat} (hk : k < S.length) : (isoL h S).getD k default = isoAt h S (S.getD k default) := by
  simp [isoL, List.getD_eq_getElem?_getD, hk]
theorem iso_cause {h : List Fault} {S : List Int} {a : Int} (ha : a ∈ S) : causeOf (isoL h S) (posF S a) = posF S (causeOf h a) := by
  obtain ⟨h1, h2, h3⟩ := posF_mem ha
  unfold causeOf
  rw [isoL_at (by omega), h3]
  rfl
theorem iso_ctx {h : List Fault} {S : List Int} {a : Int} (ha : a ∈ S) : ctxOf (isoL h S) (posF S a) = posF S (ctxOf h a) := by
  obtain ⟨h1, h2, h3⟩ := posF_mem ha
  unfold ctxOf
  rw [isoL_at (by omega), h3]
  rfl
theorem walk_iso {S : List Int} {n : Nat} (hS : ∀ a ∈ S, 0 ≤ a ∧ a < n) {nx nx' : Int → Int} (hnx : ∀ a ∈ S, nx a ∈ S ∨ nx a < 0) (hiso : ∀ a ∈ S, nx' (posF S a) = posF S (nx a)) :
    ∀ (fuel fuel' : Nat) (out : List Int) (f : Int), (f ∈ S ∨ f < 0) → (∀ a ∈ out, a ∈ S) → freeN n out < fuel → freeN S.length (out.map (posF S)) < fuel' → walkG nx' fuel' (out.map (posF S)) (posF S f) = (walkG nx fuel out f).map (posF S)
  | 0, fuel', out, f, _, _, h1, _ => by omega
  | fuel + 1, 0, out, f, _, _, _, h2 => by omega
  | fuel + 1, fuel' + 1, out, f, hf, ho, h1, h2 => by
    simp only [walkG]
    rcases hf with hf | hf
    · have hp := posF_mem hf
      have hany : ((out.map (posF S)).any fun x => decide (posF S f = x)) = (out.any fun x => decide (f = x)) := by
        rw [List.any_map, Bool.eq_iff_iff, List.any_eq_true, List.any_eq_true]
        constructor
        · rintro ⟨a, ha, q⟩
          exact ⟨a, ha, by simp only [Function.comp, decide_eq_true_eq] at q; simpa using posF_inj hf (ho a ha) q⟩
        · rintro ⟨a, ha, q⟩
          exact ⟨a, ha, by simp only [decide_eq_true_eq] at q; subst q; simp⟩
      rw [hany]
      cases hb : out.any fun x => decide (f = x)
      · rw [if_pos ⟨hp.1, rfl⟩, if_pos ⟨(hS f hf).1, rfl⟩, hiso f hf]
        have l1 := freeN_lt (hS f hf).1 (hS f hf).2 hb
        have l2 := freeN_lt (out := out.map (posF S)) hp.1 hp.2.1 (by rw [hany, hb])
        have e : out.map (posF S) ++ [posF S f] = (out ++ [f]).map (posF S) := by simp
        rw [e] at l2 ⊢
        refine walk_iso hS hnx hiso fuel fuel' (out ++ [f]) (nx f) (hnx f hf) (fun a ha => ?_) (by omega) (by omega)
        rcases List.mem_append.1 ha with q | q
        · exact ho a q
        · simp at q; subst q; exact hf
      · rw [if_neg (fun q => by cases q.2), if_neg (fun q => by cases q.2)]
    · have hn : f ∉ S := fun q => by have := hS f q; omega
      rw [posF_none hn, if_neg (by omega), if_neg (by omega)]
/-- What a set of faults reaches is in it. -/
structure Closed (h : List Fault) (S : List Int) : Prop where
  mem : ∀ a ∈ S, 0 ≤ a ∧ a < h.length
  cause : ∀ a ∈ S, causeOf h a ∈ S ∨ causeOf h a < 0
  ctx : ∀ a ∈ S, ctxOf h a ∈ S ∨ ctxOf h a < 0
theorem Closed.pos {h : List Fault} {S : List Int} (hc : Closed h S) {b : Int} (hb : b ∈ S ∨ b < 0) : (0 ≤ posF S b ↔ 0 ≤ b) ∧ (b < 0 → posF S b = -1) := by
  rcases hb with q | q
  · have h1 := (posF_mem q).1
    have h2 := (hc.mem b q).1
    exact ⟨⟨fun _ => h2, fun _ => h1⟩, fun w => by omega⟩
  · have hn : b ∉ S := fun w => by have := (hc.mem b w).1; omega
    rw [posF_none hn]
    exact ⟨⟨fun w => by omega, fun w => by omega⟩, fun _ => rfl⟩
theorem closed_reach {h : List Fault} (hlk : Links h) {f : Int} (h0 : 0 ≤ f) (hf : f < h.length) : Closed h (sortI (bfsF h f)) ∧ f ∈ sortI (bfsF h f) ∧ (sortI (bfsF h f)).Nodup := by
  obtain ⟨b1, b2⟩ := bfsF_iff hlk h0 hf
  have hn := bfsF_nums hlk h0 hf
  have m : ∀ a, a ∈ sortI (bfsF h f) ↔ Rch h f a := fun a => by rw [sortI_mem, b2]
  refine ⟨⟨fun a ha => hn.mem a (sortI_mem.1 ha), fun a ha => ?_, fun a ha => ?_⟩, (m f).2 .refl, (List.mergeSort_perm _ _).nodup_iff.2 b1⟩
  · by_cases c : causeOf h a < 0
    · exact .inr c
    · exact .inl ((m _).2 (.cause ((m a).1 ha) (by omega)))
  · by_cases c : ctxOf h a < 0
    · exact .inr c
    · exact .inl ((m _).2 (.ctx ((m a).1 ha) (by omega)))
theorem Closed.links {h : List Fault} {S : List Int} (hd : S.Nodup) : Links (isoL h S) := by
  intro k hk
  rw [isoL_len] at hk ⊢
  rw [isoL_at hk]
  exact ⟨idxF_lt _ _, idxF_lt _ _⟩
theorem Closed.rch {h : List Fault} {S : List Int} (hc : Closed h S) {f a : Int} (hf : f ∈ S) (r : Rch h f a) : a ∈ S ∧ Rch (isoL h S) (posF S f) (posF S a) := by
  induction r with
  | refl => exact ⟨hf, .refl⟩
  | @cause a r q ih =>
    obtain ⟨i1, i2⟩ := ih
    have hm := (hc.cause a i1).resolve_right (by omega)
    refine ⟨hm, ?_⟩
    rw [← iso_cause i1]
    exact .cause i2 (by rw [iso_cause i1]; exact (posF_mem hm).1)
  | @ctx a r q ih =>
    obtain ⟨i1, i2⟩ := ih
    have hm := (hc.ctx a i1).resolve_right (by omega)
    refine ⟨hm, ?_⟩
    rw [← iso_ctx i1]
    exact .ctx i2 (by rw [iso_ctx i1]; exact (posF_mem hm).1)
/-- The isolated heap is reached whole: sorted, it is all numbers in order. -/
theorem reach_all {h : List Fault} (hlk : Links h) {f : Int} (h0 : 0 ≤ f) (hf : f < h.length) :
    sortI (bfsF (isoL h (sortI (bfsF h f))) (posF (sortI (bfsF h f)) f)) = (List.range (sortI (bfsF h f)).length).map (fun (k : Nat) => (k : Int)) := by
  obtain ⟨hc, hm, hd⟩ := closed_reach hlk h0 hf
  have hall : ∀ a ∈ sortI (bfsF h f), Rch h f a := fun a ha => ((bfsF_iff hlk h0 hf).2 a).1 (sortI_mem.1 ha)
  generalize hS : sortI (bfsF h f) = S at hc hm hd hall ⊢
  obtain ⟨p1, p2, p3⟩ := posF_mem hm
  have hl2 : Links (isoL h S) := Closed.links hd
  obtain ⟨b1, b2⟩ := bfsF_iff hl2 p1 (by rw [isoL_len]; exact p2)
  have hn := bfsF_nums hl2 p1 (by rw [isoL_len]; exact p2)
  have s2 : ((List.range S.length).map (fun (k : Nat) => (k : Int))).Pairwise (fun a b => a < b) := by
    rw [List.pairwise_map]
    exact List.pairwise_lt_range.imp (fun q => by omega)
  have hsf : sortedF ((List.range S.length).map (fun (k : Nat) => (k : Int))) = (List.range S.length).map (fun (k : Nat) => (k : Int)) := by
    have a2 := sortedF_asc ((List.range S.length).map (fun (k : Nat) => (k : Int)))
    have pm : (sortedF ((List.range S.length).map (fun (k : Nat) => (k : Int)))).Perm ((List.range S.length).map (fun (k : Nat) => (k : Int))) :=
      (List.perm_ext_iff_of_nodup (a2.imp (fun q => by omega)) (s2.imp (fun q => by omega))).2 fun a => sortedF_iff
    exact pm.eq_of_pairwise (fun a b _ _ q1 q2 => by omega) (a2.imp (fun q => Int.le_of_lt q)) (s2.imp (fun q => Int.le_of_lt q))
  rw [← hsf]
  refine sort_ext b1 fun a => ?_
  rw [List.mem_map]
  constructor
  · intro ha
    have := hn.mem a ha
    rw [isoL_len] at this
    exact ⟨a.toNat, by simp; omega, by omega⟩
  · rintro ⟨k, hk, rfl⟩
    rw [List.mem_range] at hk
    rw [b2, ← posF_at hd hk]
    have hkm : S.getD k default ∈ S := by rw [List.getD_eq_getElem?_getD, List.getElem?_eq_getElem hk]; exact List.getElem_mem hk
    exact (hc.rch hm (hall _ hkm)).2
def natsF (n : Nat) : List Int := (List.range n).map (fun (k : Nat) => (k : Int))
theorem Closed.last {h : List Fault} {S : List Int} (hc : Closed h S) (hcm : Calm h) {a : Int} (ha : a ∈ S) : ctxOf (isoL h S) (lastI (chainF (isoL h S) (posF S a))) = -1 := by
  have hw : chainF (isoL h S) (posF S a) = (chainF h a).map (posF S) := by
    unfold chainF
    rw [isoL_len]
    exact walk_iso (S := S) (n := h.length) hc.mem (nx := ctxOf h) (nx' := ctxOf (isoL h S)) hc.ctx (fun a ha => iso_ctx ha) (h.length + 1) (S.length + 1) [] a (.inl ha) (fun a ha => by cases ha) (by have := freeN_nil h.length; omega) (by have := freeN_nil S.length; simp only [List.map_nil]; omega)
  have h0 := hc.mem a ha
  have hne := List.length_pos_iff.2 (chainF_ne (h := h) h0.1)
  have hl : (chainF h a).length - 1 < (chainF h a).length := by omega
  have hmem : ∀ b ∈ chainF h a, b ∈ S := by
    intro b hb
    have key := walkG_mem (nx := ctxOf h) (p := fun a => a ∈ S ∨ a < 0) (fun a a0 ha => hc.ctx a (ha.resolve_right (by omega))) (h.length + 1) [] a (.inl ha) b hb
    rcases key with q | ⟨q0, q⟩
    · cases q
    · exact q.resolve_right (by omega)
  have hlm : lastI (chainF h a) ∈ S := hmem _ (by unfold lastI; rw [List.getD_eq_getElem?_getD, List.getElem?_eq_getElem hl]; exact List.getElem_mem hl)
  have e : lastI ((chainF h a).map (posF S)) = posF S (lastI (chainF h a)) := by
    unfold lastI
    rw [List.length_map, List.getD_eq_getElem?_getD, List.getD_eq_getElem?_getD, List.getElem?_map, List.getElem?_eq_getElem hl]; rfl
  have hlast := hcm.last a.toNat (by omega)
  rw [lastOk, decide_eq_true_eq, Int.toNat_of_nonneg h0.1] at hlast
  rw [hw, e, iso_ctx hlm, hlast]
  exact (hc.pos (.inr (by omega))).2 (by omega)
theorem valid_isoG {t : List Class} {h : List Fault} {S : List Int} (v1 : (List.range h.length).all (faultOk t h) = true) (hcm : Calm h) (v3 : validT t = true) (hc : Closed h S) (hd : S.Nodup) (hlen : S.length ≤ 24) : validH t (isoL h S) = true := by
  have link : ∀ (k : Nat), k < S.length → ∀ b : Int, (b ∈ S ∨ b < 0) → b ≠ S.getD k default → linkF S.length k (posF S b) = true := by
    intro k hk b hb hne
    have hkm : S.getD k default ∈ S := by rw [List.getD_eq_getElem?_getD, List.getElem?_eq_getElem hk]; exact List.getElem_mem hk
    rcases hb with q | q
    · obtain ⟨p1, p2, p3⟩ := posF_mem q
      have hne2 : ¬ posF S b = k := fun e => hne (posF_inj q hkm (by rw [e, posF_at hd hk]))
      simp only [linkF, inR, Bool.or_eq_true, Bool.and_eq_true, decide_eq_true_eq, Bool.not_eq_true', decide_eq_false_iff_not]
      omega
    · rw [(hc.pos (.inr q)).2 q]; simp [linkF]
  simp only [validH, Bool.and_eq_true, decide_eq_true_eq, List.all_eq_true, List.mem_range, isoL_len]
  refine ⟨fun k hk => ?_, fun k hk => ?_, v3, hlen⟩
  · have hkm : S.getD k default ∈ S := by rw [List.getD_eq_getElem?_getD, List.getElem?_eq_getElem hk]; exact List.getElem_mem hk
    have hin := hc.mem _ hkm
    have hf := (List.all_eq_true.1 v1) (S.getD k default).toNat (List.mem_range.2 (by omega))
    simp only [faultOk, Bool.and_eq_true] at hf ⊢
    rw [isoL_at hk, isoL_len]
    have n1 : causeOf h (S.getD k default) ≠ S.getD k default := by
      have := hf.1.2
      unfold causeOf
      simp only [linkF, inR, Bool.or_eq_true, Bool.and_eq_true, decide_eq_true_eq, Bool.not_eq_true', decide_eq_false_iff_not] at this
      omega
    have n2 : ctxOf h (S.getD k default) ≠ S.getD k default := by
      have := hf.2
      unfold ctxOf
      simp only [linkF, inR, Bool.or_eq_true, Bool.and_eq_true, decide_eq_true_eq, Bool.not_eq_true', decide_eq_false_iff_not] at this
      omega
    exact ⟨⟨hf.1.1, link k hk _ (hc.cause _ hkm) n1⟩, link k hk _ (hc.ctx _ hkm) n2⟩
  · have hkm : S.getD k default ∈ S := by rw [List.getD_eq_getElem?_getD, List.getElem?_eq_getElem hk]; exact List.getElem_mem hk
    have := hc.last hcm hkm
    rw [posF_at hd hk] at this
    rw [lastOk, decide_eq_true_eq]
    exact this
end
section
open Go Go.Sim
set_option maxRecDepth 100000

theorem calm_heap {fs : List Fault} (ho : heapOk fs) : Calm fs := by
  refine .of_ends (fun k hk => by have := ho k hk; omega) (fun k hk => ?_)
  have key : ∀ n : Nat, ∀ k : Nat, k < n → k < fs.length → Ends (ctxOf fs) k := by
    intro n
    induction n with
    | zero => intro k hk; omega
    | succ n ih =>
      intro k hk hl
      obtain ⟨o1, o2, o3⟩ := ho k hl
      refine .step ?_
      have e : ctxOf fs k = (fs.getD k default).ctx := by unfold ctxOf; rw [Int.toNat_natCast]
      rw [e]
      by_cases c : (fs.getD k default).ctx < 0
      · exact .neg c
      · obtain ⟨m, hm⟩ : ∃ m : Nat, (fs.getD k default).ctx = m := ⟨(fs.getD k default).ctx.toNat, by omega⟩
        rw [hm]
        exact ih m (by omega) (by omega)
  exact key (k + 1) k (by omega) hk
/-- What a program ends with. -/
structure RunOut (t : List Class) (r : En × RS) (R : Res) : Prop where
  valid : validH t R.heap = true
  low : 0 ≤ R.val
  high : R.val < R.heap.length
  reach : sortI (bfsF R.heap R.val) = natsF R.heap.length
  cls : (R.heap.getD R.val.toNat default).cls = clsOf r.2 r.1.val
  code : (R.heap.getD R.val.toNat default).code = (r.2.fs.getD r.1.val.toNat default).code
theorem run_out {t : List Class} {r : En × RS} (ht : validT t = true) (hf : FsOk t r.2.fs) (h2 : r.1.ed = 2) (h0 : 0 ≤ r.1.val) (h1 : r.1.val < r.2.fs.length) (hd : dep r.2.fs r.1.val ≤ 24) : RunOut t r (resOf r) := by
  have ho := hf.ho
  have hlk : Links r.2.fs := heapOk_links ho
  obtain ⟨hc, hm, hn⟩ := closed_reach hlk h0 h1
  have hra := reach_all hlk h0 h1
  have hlen : (sortI (bfsF r.2.fs r.1.val)).length ≤ 24 := by
    rw [sort_dch ho h0 h1, List.length_reverse]; exact hd
  rw [res_two h2]
  unfold isoR
  generalize sortI (bfsF r.2.fs r.1.val) = S at hc hm hn hra hlen ⊢
  obtain ⟨p1, p2, p3⟩ := posF_mem hm
  have hat : (isoL r.2.fs S).getD (posF S r.1.val).toNat default = isoAt r.2.fs S r.1.val := by rw [isoL_at (by omega), p3]
  refine ⟨?_, p1, ?_, ?_, ?_, ?_⟩
  · refine valid_isoG ?_ (calm_heap ho) ht hc hn hlen
    rw [List.all_eq_true]
    intro k hk
    have hk' := List.mem_range.1 hk
    obtain ⟨o1, o2, o3⟩ := ho k hk'
    obtain ⟨c1, c2⟩ := hf.cls k hk'
    simp only [faultOk, Bool.and_eq_true]
    refine ⟨⟨⟨c1, c2⟩, ?_⟩, ?_⟩
    · rw [o1]; simp [linkF]
    · simp only [linkF, inR, Bool.or_eq_true, Bool.and_eq_true, decide_eq_true_eq, Bool.not_eq_true', decide_eq_false_iff_not]
      omega
  · show posF S r.1.val < (isoL r.2.fs S).length
    rw [isoL_len]; exact p2
  · show sortI (bfsF (isoL r.2.fs S) (posF S r.1.val)) = natsF (isoL r.2.fs S).length
    rw [hra, isoL_len]; rfl
  · show ((isoL r.2.fs S).getD (posF S r.1.val).toNat default).cls = _
    rw [hat]; rfl
  · show ((isoL r.2.fs S).getD (posF S r.1.val).toNat default).code = _
    rw [hat]; rfl
theorem run_valid {t : List Class} {p : List Line} (h : ValidP t p) (h2 : (runP t p).1.ed = 2) : RunOut t (runP t p) (resOf (runP t p)) := by
  have hg := runP_goes h
  exact run_out h.1 hg.ok h2 (hg.val h2).1 (hg.val h2).2 (dep_top h h2)
end
section
open Go Go.Sim
set_option maxRecDepth 100000
set_option maxHeartbeats 4000000

theorem At.sub {p : List Line} {i : Nat} {d : Int} {f : Fo} (h : At p i d f) : (p.take (i + f.size)).drop i = f.flat d := by
  obtain ⟨pre, post, rfl, rfl, _⟩ := h
  have e1 : (pre ++ (f.flat d ++ post)).take (pre.length + f.size) = pre ++ f.flat d := by
    rw [← List.append_assoc, ← flat_len f d, ← List.length_append, List.take_left]
  rw [e1, List.drop_left]
theorem app_lines {H0 H : AHeap} {x : AV} {out m : List Line} {es : List (List AV)} {cl : Bool} {K : AV → AHeap → Prop} {g : Tag (H, K)} (hg : Grow rLine 4 50 H0 H x out) (hb : out.length + m.length ≤ 1000000) (he : es = m.map rLine) (k : ∀ x' H', Grow rLine 4 50 H0 H' x' (out ++ m) → K x' H') : appT Tryz.prog H 25 x (.vsl es cl) K g :=
  grow_append (m := m) te25 ti50 rLine_len (by decide) hg (by show (out.length + m.length) * 32 ≤ _; omega) (by omega) he fun x' H'' hg' => k x' H'' hg'
end
section
open Go Go.Sim
set_option maxRecDepth 100000
set_option maxHeartbeats 4000000

/-- A function that draws lines into a block of their own. -/
def Drawn (f : FuncId) (p : Nat) (d : Int) : Prop := ∀ (F : AHeap) (br n : Nat) (K : ABlk) (t : List Class) (cl : Bool) (lp : Bool), RdK n K → F br = none → n + p < 600000000 →
  ACalls Tryz.prog f [.ptr br 2 0 0, aTree t cl, I d, B lp] (F.set br K) fun r H' => ∃ (l : List Line) (G : AHeap) (K' : ABlk), Grow rLine 4 50 F G r l ∧ G br = none ∧ H' = G.set br K' ∧ RdK (n + p) K' ∧ 1 ≤ l.length ∧ l.length ≤ p
/-- The same, told when nobody writes them any more. -/
def DrawnF (f : FuncId) (p : Nat) (d : Int) : Prop := ∀ (F : AHeap) (br n : Nat) (K : ABlk) (t : List Class) (cl : Bool) (lp : Bool), RdK n K → F br = none → n + p < 600000000 →
  ACalls Tryz.prog f [.ptr br 2 0 0, aTree t cl, I d, B lp] (F.set br K) fun r H' => ∃ (l : List Line) (cl' : Bool) (K' : ABlk), r = .vsl (l.map rLine) cl' ∧ H' = F.set br K' ∧ RdK (n + p) K' ∧ 1 ≤ l.length ∧ l.length ≤ p
theorem Drawn.frz {f : FuncId} {p : Nat} {d : Int} (h : Drawn f p d) : DrawnF f p d := by
  intro F br n K t cl lp hK hF hn
  refine acalls_fz (h F br n K t cl lp hK hF hn) ?_
  rintro x _ ⟨l, G, K', hg, hr, rfl, hK', h1, h2⟩
  have hg' := grow_in (K := K') hg hr
  obtain ⟨cl', hz⟩ := grow_fz hg'
  exact ⟨_, F.set br K', grow_le hg', hz, l, cl', K', rfl, rfl, hK', h1, h2⟩
/-- Lines put behind a line that stands alone. -/
theorem app_lit {H : AHeap} {y : Line} {l : List Line} {cl : Bool} {d : AV} {K : AV → AHeap → Prop} {g : Tag (H, K)} (hd : d = .vsl [rLine y] true) (hl : 1 ≤ l.length) (hb : l.length ≤ 1000000) (k : ∀ x' H', Grow rLine 4 50 H H' x' (y :: l) → K x' H') : appT Tryz.prog H 25 d (.vsl (l.map rLine) cl) K g := by
  subst hd
  show appendA Tryz.prog H 25 (.vsl [rLine y] true) (.vsl (l.map rLine) cl) K
  have hmax : maxLen = 9223372036854775807 := rfl
  unfold appendA
  simp only [te25, ti50, rowsOf]
  refine ⟨by decide, fun r hr => by simp at hr; obtain ⟨y, _, rfl⟩ := hr; rfl, fun r hr => by simp at hr; subst hr; rfl, by simp; omega, by simp; omega, fun e => ?_, fun e => ⟨trivial, fun b' hb' => ?_⟩⟩
  · have : l = [] := by simpa using e
    rw [this] at hl; simp at hl
  · refine k _ _ (.inr ⟨b', false, hb', by simp [Nat.add_comm], by simp⟩)
theorem c_aBlock {d : Int} {p : Nat} (hp : p ≤ 300000) (hS : DrawnF 151 p d) : Drawn 136 (1 + 3 * p) d := by
  intro F br n K t cl lp hK hF hn
  refine acalls_of1 Tryz.func136 rfl (by kernel_rfl) rfl rfl (awp_sound (fz := fun _ => []) (im := fun s => s == 5 || s == 11 || s == 13) mixed _ _ _ _ (by kernel_rfl) ?_)
  simp +contextual -dsimp -implicitDefEqProofs (maxSteps := 5000000) only [go_sem, reduceIte, reduceCtorEq, Nat.reduceEqDiff, Nat.reduceBEq, Nat.reduceAdd, Nat.reduceLeDiff, Nat.reduceMul, Nat.reduceLT, Int.reduceEq, Int.reduceLT, Int.reduceLE]
  refine k_one [1, 2, 1, 2, 3] _ hK hF (by omega) (by simp) rfl rfl fun v K1 hv hK1 => ?_
  have hv3 : 1 ≤ v ∧ v ≤ 3 := by simp at hv; omega
  simp +contextual -dsimp -implicitDefEqProofs (maxSteps := 5000000) only [go_sem, reduceIte, reduceCtorEq, Nat.reduceEqDiff, Nat.reduceBEq, Nat.reduceAdd, Nat.reduceLeDiff, Nat.reduceMul, Nat.reduceLT, Int.reduceEq, Int.reduceLT, Int.reduceLE]
  refine aloop mixed (fz := fun _ => []) (im := fun s => s == 5 || s == 11 || s == 13) (by kernel_rfl) (fun m tm H' => ∃ (l : List Line) (G : AHeap) (x : AV) (K : ABlk) (i : Nat), m = (v - i).toNat ∧ i ≤ v ∧ Grow rLine 4 50 F G x l ∧ G br = none ∧ RdK (n + 1 + i * p) K ∧ i ≤ l.length ∧ l.length ≤ i * p ∧ H' = G.set br K ∧ tm 0 = .ptr br 2 0 0 ∧ tm 5 = .vptr [[.vsl (t.map rClass) cl]] 0 0 ∧ tm 2 = I d ∧ tm 3 = B lp ∧ tm 9 = x ∧ tm 10 = I (v - i)) v.toNat ⟨[], F, .vsl [] true, K1, 0, by simp, by omega, grow_nil, hF, by simpa using hK1, by simp, by simp, rfl, ?_⟩ ?_
  · simp +contextual -dsimp -implicitDefEqProofs (maxSteps := 5000000) only [go_sem, reduceIte, reduceCtorEq, Nat.reduceEqDiff, Nat.reduceBEq, Nat.reduceAdd, Nat.reduceLeDiff, Nat.reduceMul, Nat.reduceLT, Int.reduceEq, Int.reduceLT, Int.reduceLE]
    simp
  · rintro m tm H' ⟨l, G, x, K, i, rfl, hiv, hg, fr, hK, hl1, hl2, rfl, t0, t5, t2, t3, t9, t10⟩
    have hm3 : i * p ≤ 3 * p := Nat.mul_le_mul_right p (by omega)
    have hs : (i + 1) * p = i * p + p := Nat.succ_mul i p
    by_cases hlt : (0 : Int) < v - i
    · simp +contextual -dsimp -implicitDefEqProofs (maxSteps := 5000000) only [go_sem, reduceIte, reduceCtorEq, Nat.reduceEqDiff, Nat.reduceBEq, Nat.reduceAdd, Nat.reduceLeDiff, Nat.reduceMul, Nat.reduceLT, Int.reduceEq, Int.reduceLT, Int.reduceLE, t0, t2, t3, t5, t9, t10, hlt]
      have hm4 : (i + 1) * p ≤ 3 * p := Nat.mul_le_mul_right p (by omega)
      refine (hS G br _ K t cl lp hK fr (by omega)).mono ?_
      rintro _ H' ⟨l2, cl2, K2, rfl, rfl, hK2, h1, h2⟩
      simp +contextual -dsimp -implicitDefEqProofs (maxSteps := 5000000) only [go_sem, reduceIte, reduceCtorEq, Nat.reduceEqDiff, Nat.reduceBEq, Nat.reduceAdd, Nat.reduceLeDiff, Nat.reduceMul, Nat.reduceLT, Int.reduceEq, Int.reduceLT, Int.reduceLE, t0, t2, t3, t5, t9, t10, hlt]
      refine app_lines (m := l2) (grow_in hg fr) (by omega) rfl fun x' H' hg' => ?_
      obtain ⟨G1, hg1, rfl, u1⟩ := grow_out hg' (grow_none hg fr)
      simp +contextual -dsimp -implicitDefEqProofs (maxSteps := 5000000) only [go_sem, reduceIte, reduceCtorEq, Nat.reduceEqDiff, Nat.reduceBEq, Nat.reduceAdd, Nat.reduceLeDiff, Nat.reduceMul, Nat.reduceLT, Int.reduceEq, Int.reduceLT, Int.reduceLE, t0, t2, t3, t5, t9, t10, hlt]
      exact ⟨_, by omega, l ++ l2, G1, x', K2, i + 1, rfl, by omega, hg1, u1, rdk_mono hK2 (by omega), by simp; omega, by simp; omega, rfl, rfl, I_wrap (by omega) (by omega) (by omega)⟩
    · simp +contextual -dsimp -implicitDefEqProofs (maxSteps := 5000000) only [go_sem, reduceIte, reduceCtorEq, Nat.reduceEqDiff, Nat.reduceBEq, Nat.reduceAdd, Nat.reduceLeDiff, Nat.reduceMul, Nat.reduceLT, Int.reduceEq, Int.reduceLT, Int.reduceLE, t0, t2, t3, t5, t9, t10, hlt]
      have hi1 : 1 ≤ i := by omega
      refine retR_less (l := [x]) (H' := G.set br K) ?_ (AHeap.le_refl _) ⟨l, G, K, hg, fr, rfl, rdk_mono hK (by omega), by omega, by omega⟩
      simp only [resA, go_sem, reduceIte, reduceCtorEq, Nat.reduceEqDiff, Nat.reduceBEq, Nat.reduceAdd, Nat.reduceLeDiff, Nat.reduceMul, Nat.reduceLT, Int.reduceEq, Int.reduceLT, Int.reduceLE]
theorem c_aTry {d : Int} {p : Nat} (hd : 0 ≤ d ∧ d ≤ 10) (hp : p ≤ 100000) (hB : DrawnF 136 p (d + 1)) : Drawn 135 (10 + 5 * p) d := by
  intro F br n K t cl lp hK hF hn
  have hwd : IntKind.i64.wrap (d + 1) = d + 1 := w64 (by omega) (by omega)
  refine acalls_of1 Tryz.func135 rfl (by kernel_rfl) rfl rfl (awp_sound (fz := fun _ => []) (im := fun s => s == 5 || s == 14 || s == 23 || s == 38 || s == 41 || s == 61 || s == 81) mixed _ _ _ _ (by kernel_rfl) ?_)
  simp +contextual -dsimp -implicitDefEqProofs (maxSteps := 5000000) only [go_sem, reduceIte, reduceCtorEq, Nat.reduceEqDiff, Nat.reduceBEq, Nat.reduceAdd, Nat.reduceLeDiff, Nat.reduceMul, Nat.reduceLT, Int.reduceEq, Int.reduceLT, Int.reduceLE, hwd]
  refine (hB F br _ K t cl lp hK hF (by omega)).mono ?_
  rintro _ H' ⟨l0, cl0, K0, rfl, rfl, hK0, h1, h2⟩
  simp +contextual -dsimp -implicitDefEqProofs (maxSteps := 5000000) only [go_sem, reduceIte, reduceCtorEq, Nat.reduceEqDiff, Nat.reduceBEq, Nat.reduceAdd, Nat.reduceLeDiff, Nat.reduceMul, Nat.reduceLT, Int.reduceEq, Int.reduceLT, Int.reduceLE]
  refine app_lit (y := ⟨d, 7, 0, 0⟩) rfl h1 (by omega) fun x H' hg => ?_
  obtain ⟨G, hg0, rfl, u0⟩ := grow_out hg hF
  simp +contextual -dsimp -implicitDefEqProofs (maxSteps := 5000000) only [go_sem, reduceIte, reduceCtorEq, Nat.reduceEqDiff, Nat.reduceBEq, Nat.reduceAdd, Nat.reduceLeDiff, Nat.reduceMul, Nat.reduceLT, Int.reduceEq, Int.reduceLT, Int.reduceLE]
  refine k_one [1, 2, 0, 1] _ hK0 u0 (by omega) (by simp) rfl rfl fun v K1 hv hK1 => ?_
  have hv2 : 0 ≤ v ∧ v ≤ 2 := by simp at hv; omega
  simp +contextual -dsimp -implicitDefEqProofs (maxSteps := 5000000) only [go_sem, reduceIte, reduceCtorEq, Nat.reduceEqDiff, Nat.reduceBEq, Nat.reduceAdd, Nat.reduceLeDiff, Nat.reduceMul, Nat.reduceLT, Int.reduceEq, Int.reduceLT, Int.reduceLE]
  refine aloop mixed (fz := fun _ => []) (im := fun s => s == 5 || s == 14 || s == 23 || s == 38 || s == 41 || s == 61 || s == 81) (by kernel_rfl) (fun m tm H' => ∃ (l : List Line) (G : AHeap) (x : AV) (K : ABlk) (i : Nat), m = (v - i).toNat ∧ i ≤ v ∧ Grow rLine 4 50 F G x l ∧ G br = none ∧ RdK (n + p + 1 + i * (p + 2)) K ∧ 1 ≤ l.length ∧ l.length ≤ 1 + p + i * (p + 2) ∧ H' = G.set br K ∧ tm 0 = .ptr br 2 0 0 ∧ tm 5 = .vptr [[.vsl (t.map rClass) cl]] 0 0 ∧ tm 2 = I d ∧ tm 3 = B lp ∧ tm 9 = x ∧ tm 10 = I v ∧ tm 11 = I (v - i)) v.toNat ⟨_, G, x, K1, 0, by simp, by omega, hg0, u0, by simpa using hK1, by simp, by simp; omega, rfl, ?_⟩ ?_
  · simp +contextual -dsimp -implicitDefEqProofs (maxSteps := 5000000) only [go_sem, reduceIte, reduceCtorEq, Nat.reduceEqDiff, Nat.reduceBEq, Nat.reduceAdd, Nat.reduceLeDiff, Nat.reduceMul, Nat.reduceLT, Int.reduceEq, Int.reduceLT, Int.reduceLE]
    simp
  · rintro m tm H' ⟨l, G, x, K, i, rfl, hiv, hg, fr, hK, hl1, hl2, rfl, t0, t5, t2, t3, t9, t10, t11⟩
    have hi2 : i * (p + 2) ≤ 2 * (p + 2) := Nat.mul_le_mul_right (p + 2) (by omega)
    have hs : (i + 1) * (p + 2) = i * (p + 2) + (p + 2) := Nat.succ_mul i (p + 2)
    by_cases hlt : (0 : Int) < v - i
    · have hi3 : (i + 1) * (p + 2) ≤ 2 * (p + 2) := Nat.mul_le_mul_right (p + 2) (by omega)
      simp +contextual -dsimp -implicitDefEqProofs (maxSteps := 5000000) only [go_sem, reduceIte, reduceCtorEq, Nat.reduceEqDiff, Nat.reduceBEq, Nat.reduceAdd, Nat.reduceLeDiff, Nat.reduceMul, Nat.reduceLT, Int.reduceEq, Int.reduceLT, Int.reduceLE, t0, t2, t3, t5, t9, t10, t11, hlt, hwd]
      refine k_pick t.length hK fr (by omega) rfl fun a K2 _ _ _ hK2 => ?_
      simp +contextual -dsimp -implicitDefEqProofs (maxSteps := 5000000) only [go_sem, reduceIte, reduceCtorEq, Nat.reduceEqDiff, Nat.reduceBEq, Nat.reduceAdd, Nat.reduceLeDiff, Nat.reduceMul, Nat.reduceLT, Int.reduceEq, Int.reduceLT, Int.reduceLE, t0, t2, t3, t5, t9, t10, t11, hlt, hwd]
      refine k_one [a, 0] _ hK2 fr (by omega) (by simp) rfl rfl fun a K3 _ hK3 => ?_
      simp +contextual -dsimp -implicitDefEqProofs (maxSteps := 5000000) only [go_sem, reduceIte, reduceCtorEq, Nat.reduceEqDiff, Nat.reduceBEq, Nat.reduceAdd, Nat.reduceLeDiff, Nat.reduceMul, Nat.reduceLT, Int.reduceEq, Int.reduceLT, Int.reduceLE, t0, t2, t3, t5, t9, t10, t11, hlt, hwd]
      refine app_lines (m := [⟨d, 8, a, 0⟩]) (grow_in hg fr) (by simp; omega) rfl fun x' H' hg' => ?_
      obtain ⟨G1, hg1, rfl, u1⟩ := grow_out hg' (grow_none hg fr)
      simp +contextual -dsimp -implicitDefEqProofs (maxSteps := 5000000) only [go_sem, reduceIte, reduceCtorEq, Nat.reduceEqDiff, Nat.reduceBEq, Nat.reduceAdd, Nat.reduceLeDiff, Nat.reduceMul, Nat.reduceLT, Int.reduceEq, Int.reduceLT, Int.reduceLE, t0, t2, t3, t5, t9, t10, t11, hlt, hwd]
      refine (hB G1 br _ K3 t cl lp hK3 u1 (by omega)).mono ?_
      rintro _ H' ⟨l2, cl2, K4, rfl, rfl, hK4, h3, h4⟩
      simp +contextual -dsimp -implicitDefEqProofs (maxSteps := 5000000) only [go_sem, reduceIte, reduceCtorEq, Nat.reduceEqDiff, Nat.reduceBEq, Nat.reduceAdd, Nat.reduceLeDiff, Nat.reduceMul, Nat.reduceLT, Int.reduceEq, Int.reduceLT, Int.reduceLE, t0, t2, t3, t5, t9, t10, t11, hlt, hwd]
      refine app_lines (m := l2) (grow_in hg1 u1) (by simp; omega) rfl fun x' H' hg' => ?_
      obtain ⟨G2, hg2, rfl, u2⟩ := grow_out hg' (grow_none hg1 u1)
      simp +contextual -dsimp -implicitDefEqProofs (maxSteps := 5000000) only [go_sem, reduceIte, reduceCtorEq, Nat.reduceEqDiff, Nat.reduceBEq, Nat.reduceAdd, Nat.reduceLeDiff, Nat.reduceMul, Nat.reduceLT, Int.reduceEq, Int.reduceLT, Int.reduceLE, t0, t2, t3, t5, t9, t10, t11, hlt, hwd]
      exact ⟨_, by omega, _, G2, x', K4, i + 1, rfl, by omega, hg2, u2, rdk_mono hK4 (by omega), by simp; omega, by simp; omega, rfl, rfl, I_wrap (by omega) (by omega) (by omega)⟩
    · simp +contextual -dsimp -implicitDefEqProofs (maxSteps := 5000000) only [go_sem, reduceIte, reduceCtorEq, Nat.reduceEqDiff, Nat.reduceBEq, Nat.reduceAdd, Nat.reduceLeDiff, Nat.reduceMul, Nat.reduceLT, Int.reduceEq, Int.reduceLT, Int.reduceLE, t0, t2, t3, t5, t9, t10, t11, hlt, hwd]
      refine ⟨fun v1 => ?_, fun v1 => ⟨fun v0 => absurd v1 (by omega), fun v0 => ?_⟩⟩
      · have v0 : ¬ v = 0 := by omega
        refine k_pick 3 hK fr (by omega) rfl fun a K2 _ _ _ hK2 => ?_
        simp +contextual -dsimp -implicitDefEqProofs (maxSteps := 5000000) only [go_sem, reduceIte, reduceCtorEq, Nat.reduceEqDiff, Nat.reduceBEq, Nat.reduceAdd, Nat.reduceLeDiff, Nat.reduceMul, Nat.reduceLT, Int.reduceEq, Int.reduceLT, Int.reduceLE, t0, t2, t3, t5, t9, t10, t11, hlt, hwd, v0, v1]
        refine ⟨fun _ => ?_, fun _ => ?_⟩
        · refine app_lines (m := [⟨d, 9, 0, 0⟩]) (grow_in hg fr) (by simp; omega) rfl fun x' H' hg' => ?_
          obtain ⟨G1, hg1, rfl, u1⟩ := grow_out hg' (grow_none hg fr)
          simp +contextual -dsimp -implicitDefEqProofs (maxSteps := 5000000) only [go_sem, reduceIte, reduceCtorEq, Nat.reduceEqDiff, Nat.reduceBEq, Nat.reduceAdd, Nat.reduceLeDiff, Nat.reduceMul, Nat.reduceLT, Int.reduceEq, Int.reduceLT, Int.reduceLE, t0, t2, t3, t5, t9, t10, t11, hlt, hwd, v0, v1]
          refine (hB G1 br _ _ t cl lp hK2 u1 (by omega)).mono ?_
          rintro _ H' ⟨l2, cl2, K4, rfl, rfl, hK4, h3, h4⟩
          simp +contextual -dsimp -implicitDefEqProofs (maxSteps := 5000000) only [go_sem, reduceIte, reduceCtorEq, Nat.reduceEqDiff, Nat.reduceBEq, Nat.reduceAdd, Nat.reduceLeDiff, Nat.reduceMul, Nat.reduceLT, Int.reduceEq, Int.reduceLT, Int.reduceLE, t0, t2, t3, t5, t9, t10, t11, hlt, hwd, v0, v1]
          refine app_lines (m := l2) (grow_in hg1 u1) (by simp; omega) rfl fun x2 H' hg' => ?_
          obtain ⟨G2, hg2, rfl, u2⟩ := grow_out hg' (grow_none hg1 u1)
          simp +contextual -dsimp -implicitDefEqProofs (maxSteps := 5000000) only [go_sem, reduceIte, reduceCtorEq, Nat.reduceEqDiff, Nat.reduceBEq, Nat.reduceAdd, Nat.reduceLeDiff, Nat.reduceMul, Nat.reduceLT, Int.reduceEq, Int.reduceLT, Int.reduceLE, t0, t2, t3, t5, t9, t10, t11, hlt, hwd, v0, v1]
          refine k_pick 2 hK4 u2 (by omega) rfl fun b K7 _ _ _ hK7 => ?_
          simp +contextual -dsimp -implicitDefEqProofs (maxSteps := 5000000) only [go_sem, reduceIte, reduceCtorEq, Nat.reduceEqDiff, Nat.reduceBEq, Nat.reduceAdd, Nat.reduceLeDiff, Nat.reduceMul, Nat.reduceLT, Int.reduceEq, Int.reduceLT, Int.reduceLE, t0, t2, t3, t5, t9, t10, t11, hlt, hwd, v0, v1]
          refine ⟨fun _ => ?_, fun _ => ?_⟩
          · skip
            refine app_lines (m := [⟨d, 10, 0, 0⟩]) (grow_in hg2 u2) (by simp; omega) rfl fun x' H' hg' => ?_
            obtain ⟨G8, hg8, rfl, u8⟩ := grow_out hg' (grow_none hg2 u2)
            simp +contextual -dsimp -implicitDefEqProofs (maxSteps := 5000000) only [go_sem, reduceIte, reduceCtorEq, Nat.reduceEqDiff, Nat.reduceBEq, Nat.reduceAdd, Nat.reduceLeDiff, Nat.reduceMul, Nat.reduceLT, Int.reduceEq, Int.reduceLT, Int.reduceLE, t0, t2, t3, t5, t9, t10, t11, hlt, hwd, v0, v1]
            refine (hB G8 br _ _ t cl lp hK7 u8 (by omega)).mono ?_
            rintro _ H' ⟨l8, cl8, K8, rfl, rfl, hK8, h8, h9⟩
            simp +contextual -dsimp -implicitDefEqProofs (maxSteps := 5000000) only [go_sem, reduceIte, reduceCtorEq, Nat.reduceEqDiff, Nat.reduceBEq, Nat.reduceAdd, Nat.reduceLeDiff, Nat.reduceMul, Nat.reduceLT, Int.reduceEq, Int.reduceLT, Int.reduceLE, t0, t2, t3, t5, t9, t10, t11, hlt, hwd, v0, v1]
            refine app_lines (m := l8) (grow_in hg8 u8) (by simp; omega) rfl fun x' H' hg' => ?_
            obtain ⟨G9, hg9, rfl, u9⟩ := grow_out hg' (grow_none hg8 u8)
            simp +contextual -dsimp -implicitDefEqProofs (maxSteps := 5000000) only [go_sem, reduceIte, reduceCtorEq, Nat.reduceEqDiff, Nat.reduceBEq, Nat.reduceAdd, Nat.reduceLeDiff, Nat.reduceMul, Nat.reduceLT, Int.reduceEq, Int.reduceLT, Int.reduceLE, t0, t2, t3, t5, t9, t10, t11, hlt, hwd, v0, v1]
            refine retR_less (l := [x']) (H' := G9.set br K8) ?_ (AHeap.le_refl _) ⟨_, G9, K8, hg9, u9, rfl, rdk_mono hK8 (by omega), by first | omega | (simp; omega), by first | omega | (simp; omega)⟩
            simp only [resA, go_sem, reduceIte, reduceCtorEq, Nat.reduceEqDiff, Nat.reduceBEq, Nat.reduceAdd, Nat.reduceLeDiff, Nat.reduceMul, Nat.reduceLT, Int.reduceEq, Int.reduceLT, Int.reduceLE]
          · refine retR_less (l := [x2]) (H' := AHeap.set _ br K7) ?_ (AHeap.le_refl _) ⟨_, _, K7, hg2, u2, rfl, rdk_mono hK7 (by omega), by first | omega | (simp; omega), by first | omega | (simp; omega)⟩
            simp only [resA, go_sem, reduceIte, reduceCtorEq, Nat.reduceEqDiff, Nat.reduceBEq, Nat.reduceAdd, Nat.reduceLeDiff, Nat.reduceMul, Nat.reduceLT, Int.reduceEq, Int.reduceLT, Int.reduceLE, t9]
        · skip
          refine k_pick 2 hK2 fr (by omega) rfl fun b K7 _ _ _ hK7 => ?_
          simp +contextual -dsimp -implicitDefEqProofs (maxSteps := 5000000) only [go_sem, reduceIte, reduceCtorEq, Nat.reduceEqDiff, Nat.reduceBEq, Nat.reduceAdd, Nat.reduceLeDiff, Nat.reduceMul, Nat.reduceLT, Int.reduceEq, Int.reduceLT, Int.reduceLE, t0, t2, t3, t5, t9, t10, t11, hlt, hwd, v0, v1]
          refine ⟨fun _ => ?_, fun _ => ?_⟩
          · skip
            refine app_lines (m := [⟨d, 10, 0, 0⟩]) (grow_in hg fr) (by simp; omega) rfl fun x' H' hg' => ?_
            obtain ⟨G8, hg8, rfl, u8⟩ := grow_out hg' (grow_none hg fr)
            simp +contextual -dsimp -implicitDefEqProofs (maxSteps := 5000000) only [go_sem, reduceIte, reduceCtorEq, Nat.reduceEqDiff, Nat.reduceBEq, Nat.reduceAdd, Nat.reduceLeDiff, Nat.reduceMul, Nat.reduceLT, Int.reduceEq, Int.reduceLT, Int.reduceLE, t0, t2, t3, t5, t9, t10, t11, hlt, hwd, v0, v1]
            refine (hB G8 br _ _ t cl lp hK7 u8 (by omega)).mono ?_
            rintro _ H' ⟨l8, cl8, K8, rfl, rfl, hK8, h8, h9⟩
            simp +contextual -dsimp -implicitDefEqProofs (maxSteps := 5000000) only [go_sem, reduceIte, reduceCtorEq, Nat.reduceEqDiff, Nat.reduceBEq, Nat.reduceAdd, Nat.reduceLeDiff, Nat.reduceMul, Nat.reduceLT, Int.reduceEq, Int.reduceLT, Int.reduceLE, t0, t2, t3, t5, t9, t10, t11, hlt, hwd, v0, v1]
            refine app_lines (m := l8) (grow_in hg8 u8) (by simp; omega) rfl fun x' H' hg' => ?_
            obtain ⟨G9, hg9, rfl, u9⟩ := grow_out hg' (grow_none hg8 u8)
            simp +contextual -dsimp -implicitDefEqProofs (maxSteps := 5000000) only [go_sem, reduceIte, reduceCtorEq, Nat.reduceEqDiff, Nat.reduceBEq, Nat.reduceAdd, Nat.reduceLeDiff, Nat.reduceMul, Nat.reduceLT, Int.reduceEq, Int.reduceLT, Int.reduceLE, t0, t2, t3, t5, t9, t10, t11, hlt, hwd, v0, v1]
            refine retR_less (l := [x']) (H' := G9.set br K8) ?_ (AHeap.le_refl _) ⟨_, G9, K8, hg9, u9, rfl, rdk_mono hK8 (by omega), by first | omega | (simp; omega), by first | omega | (simp; omega)⟩
            simp only [resA, go_sem, reduceIte, reduceCtorEq, Nat.reduceEqDiff, Nat.reduceBEq, Nat.reduceAdd, Nat.reduceLeDiff, Nat.reduceMul, Nat.reduceLT, Int.reduceEq, Int.reduceLT, Int.reduceLE]
          · refine retR_less (l := [x]) (H' := AHeap.set _ br K7) ?_ (AHeap.le_refl _) ⟨_, _, K7, hg, fr, rfl, rdk_mono hK7 (by omega), by first | omega | (simp; omega), by first | omega | (simp; omega)⟩
            simp only [resA, go_sem, reduceIte, reduceCtorEq, Nat.reduceEqDiff, Nat.reduceBEq, Nat.reduceAdd, Nat.reduceLeDiff, Nat.reduceMul, Nat.reduceLT, Int.reduceEq, Int.reduceLT, Int.reduceLE, t9]
      · skip
        refine app_lines (m := [⟨d, 10, 0, 0⟩]) (grow_in hg fr) (by simp; omega) rfl fun x' H' hg' => ?_
        obtain ⟨G8, hg8, rfl, u8⟩ := grow_out hg' (grow_none hg fr)
        simp +contextual -dsimp -implicitDefEqProofs (maxSteps := 5000000) only [go_sem, reduceIte, reduceCtorEq, Nat.reduceEqDiff, Nat.reduceBEq, Nat.reduceAdd, Nat.reduceLeDiff, Nat.reduceMul, Nat.reduceLT, Int.reduceEq, Int.reduceLT, Int.reduceLE, t0, t2, t3, t5, t9, t10, t11, hlt, hwd, v0, v1]
        refine (hB G8 br _ _ t cl lp hK u8 (by omega)).mono ?_
        rintro _ H' ⟨l8, cl8, K8, rfl, rfl, hK8, h8, h9⟩
        simp +contextual -dsimp -implicitDefEqProofs (maxSteps := 5000000) only [go_sem, reduceIte, reduceCtorEq, Nat.reduceEqDiff, Nat.reduceBEq, Nat.reduceAdd, Nat.reduceLeDiff, Nat.reduceMul, Nat.reduceLT, Int.reduceEq, Int.reduceLT, Int.reduceLE, t0, t2, t3, t5, t9, t10, t11, hlt, hwd, v0, v1]
        refine app_lines (m := l8) (grow_in hg8 u8) (by simp; omega) rfl fun x' H' hg' => ?_
        obtain ⟨G9, hg9, rfl, u9⟩ := grow_out hg' (grow_none hg8 u8)
        simp +contextual -dsimp -implicitDefEqProofs (maxSteps := 5000000) only [go_sem, reduceIte, reduceCtorEq, Nat.reduceEqDiff, Nat.reduceBEq, Nat.reduceAdd, Nat.reduceLeDiff, Nat.reduceMul, Nat.reduceLT, Int.reduceEq, Int.reduceLT, Int.reduceLE, t0, t2, t3, t5, t9, t10, t11, hlt, hwd, v0, v1]
        refine retR_less (l := [x']) (H' := G9.set br K8) ?_ (AHeap.le_refl _) ⟨_, G9, K8, hg9, u9, rfl, rdk_mono hK8 (by omega), by first | omega | (simp; omega), by first | omega | (simp; omega)⟩
        simp only [resA, go_sem, reduceIte, reduceCtorEq, Nat.reduceEqDiff, Nat.reduceBEq, Nat.reduceAdd, Nat.reduceLeDiff, Nat.reduceMul, Nat.reduceLT, Int.reduceEq, Int.reduceLT, Int.reduceLE]
end
section
open Go Go.Sim
set_option maxRecDepth 100000
set_option maxHeartbeats 4000000

theorem c_aStatement {d : Int} {p p1 p2 : Nat} (hd : 0 ≤ d ∧ d ≤ 3) (h6 : 6 ≤ p) (hp1 : p1 + 6 ≤ p) (hp2 : p2 + 6 ≤ p) (hp : p ≤ 300000) (hB : d < 3 → DrawnF 136 p1 (d + 1)) (hT : d < 3 → DrawnF 135 p2 d) : DrawnF 151 p d := by
  intro F br n K t cl lp hK hF hn
  have hwd : IntKind.i64.wrap (d + 1) = d + 1 := w64 (by omega) (by omega)
  refine acalls_of1 Tryz.func151 rfl (by kernel_rfl) rfl rfl (awp_sound (fz := fun _ => []) (im := fun s => s == 5 || s == 29 || s == 43 || s == 57 || s == 65 || s == 96 || s == 108) mixed _ _ _ _ (by kernel_rfl) ?_)
  simp +contextual -dsimp -implicitDefEqProofs (maxSteps := 5000000) only [go_sem, reduceIte, reduceCtorEq, Nat.reduceEqDiff, Nat.reduceBEq, Nat.reduceAdd, Nat.reduceLeDiff, Nat.reduceMul, Nat.reduceLT, Int.reduceEq, Int.reduceLT, Int.reduceLE]
  refine k_pick 16 hK hF (by omega) rfl fun k0 K0 q0 q1 _ hK0 => ?_
  simp +contextual -dsimp -implicitDefEqProofs (maxSteps := 5000000) only [go_sem, reduceIte, reduceCtorEq, Nat.reduceEqDiff, Nat.reduceBEq, Nat.reduceAdd, Nat.reduceLeDiff, Nat.reduceMul, Nat.reduceLT, Int.reduceEq, Int.reduceLT, Int.reduceLE]
  refine ⟨fun h3 => ?_, fun h3 => ?_⟩
  · refine k_pick 9 hK0 hF (by omega) rfl fun k K1 r0 r1 _ hK1 => ?_
    simp +contextual -dsimp -implicitDefEqProofs (maxSteps := 5000000) only [go_sem, reduceIte, reduceCtorEq, Nat.reduceEqDiff, Nat.reduceBEq, Nat.reduceAdd, Nat.reduceLeDiff, Nat.reduceMul, Nat.reduceLT, Int.reduceEq, Int.reduceLT, Int.reduceLE]
    skip
    rintro b10 ⟨n1, n2, hb⟩
    simp only [br_out n1]
    have nb : ∀ K, (F.set b10 K) br = none := fun K => by rw [set_other n2]; exact hF
    have le : ∀ K K', AHeap.le (F.set br K') ((F.set b10 K).set br K') := fun K K' => le_ch (le_s1 (AHeap.le_refl _) hb)
    by_cases c4 : k < 4
    · simp +contextual -dsimp -implicitDefEqProofs (maxSteps := 5000000) only [go_sem, reduceIte, reduceCtorEq, Nat.reduceEqDiff, Nat.reduceBEq, Nat.reduceAdd, Nat.reduceLeDiff, Nat.reduceMul, Nat.reduceLT, Int.reduceEq, Int.reduceLT, Int.reduceLE, c4, n1, n2]
      refine k_one [1, 2, 3, 4, 5] _ hK1 (nb _) (by omega) (by simp) rfl rfl fun v K1 _ hK1 => ?_
      simp +contextual -dsimp -implicitDefEqProofs (maxSteps := 5000000) only [go_sem, reduceIte, reduceCtorEq, Nat.reduceEqDiff, Nat.reduceBEq, Nat.reduceAdd, Nat.reduceLeDiff, Nat.reduceMul, Nat.reduceLT, Int.reduceEq, Int.reduceLT, Int.reduceLE, c4, n1, n2]
      refine retR_less (l := [.vsl [rLine ⟨d, 1, v, 0⟩] true]) (H' := F.set br K1) ?_ (le _ _) ⟨[⟨d, 1, v, 0⟩], true, K1, rfl, rfl, rdk_mono hK1 (by omega), by simp, by simp; omega⟩
      simp only [resA, go_sem, reduceIte, reduceCtorEq, Nat.reduceEqDiff, Nat.reduceBEq, Nat.reduceAdd, Nat.reduceLeDiff, Nat.reduceMul, Nat.reduceLT, Int.reduceEq, Int.reduceLT, Int.reduceLE]
    by_cases c6 : k < 6
    · simp +contextual -dsimp -implicitDefEqProofs (maxSteps := 5000000) only [go_sem, reduceIte, reduceCtorEq, Nat.reduceEqDiff, Nat.reduceBEq, Nat.reduceAdd, Nat.reduceLeDiff, Nat.reduceMul, Nat.reduceLT, Int.reduceEq, Int.reduceLT, Int.reduceLE, c4, c6, n1, n2]
      refine k_pick t.length hK1 (nb _) (by omega) rfl fun a K1 _ _ _ hK1 => ?_
      simp +contextual -dsimp -implicitDefEqProofs (maxSteps := 5000000) only [go_sem, reduceIte, reduceCtorEq, Nat.reduceEqDiff, Nat.reduceBEq, Nat.reduceAdd, Nat.reduceLeDiff, Nat.reduceMul, Nat.reduceLT, Int.reduceEq, Int.reduceLT, Int.reduceLE, c4, c6, n1, n2]
      refine k_one [1, 2, 3] _ hK1 (nb _) (by omega) (by simp) rfl rfl fun v K2 _ hK2 => ?_
      simp +contextual -dsimp -implicitDefEqProofs (maxSteps := 5000000) only [go_sem, reduceIte, reduceCtorEq, Nat.reduceEqDiff, Nat.reduceBEq, Nat.reduceAdd, Nat.reduceLeDiff, Nat.reduceMul, Nat.reduceLT, Int.reduceEq, Int.reduceLT, Int.reduceLE, c4, c6, n1, n2]
      refine retR_less (l := [.vsl [rLine ⟨d, 2, a, v⟩] true]) (H' := F.set br K2) ?_ (le _ _) ⟨[⟨d, 2, a, v⟩], true, K2, rfl, rfl, rdk_mono hK2 (by omega), by simp, by simp; omega⟩
      simp only [resA, go_sem, reduceIte, reduceCtorEq, Nat.reduceEqDiff, Nat.reduceBEq, Nat.reduceAdd, Nat.reduceLeDiff, Nat.reduceMul, Nat.reduceLT, Int.reduceEq, Int.reduceLT, Int.reduceLE]
    by_cases e6 : k = 6
    · simp +contextual -dsimp -implicitDefEqProofs (maxSteps := 5000000) only [go_sem, reduceIte, reduceCtorEq, Nat.reduceEqDiff, Nat.reduceBEq, Nat.reduceAdd, Nat.reduceLeDiff, Nat.reduceMul, Nat.reduceLT, Int.reduceEq, Int.reduceLT, Int.reduceLE, c4, c6, e6, n1, n2]
      refine retR_less (l := [.vsl [rLine ⟨d, 3, 0, 0⟩] true]) (H' := AHeap.set F br _) ?_ (le _ _) ⟨[⟨d, 3, 0, 0⟩], true, _, rfl, rfl, rdk_mono hK1 (by omega), by simp, by simp; omega⟩
      simp only [resA, go_sem, reduceIte, reduceCtorEq, Nat.reduceEqDiff, Nat.reduceBEq, Nat.reduceAdd, Nat.reduceLeDiff, Nat.reduceMul, Nat.reduceLT, Int.reduceEq, Int.reduceLT, Int.reduceLE]
    by_cases e7 : k = 7
    · cases lp
      · simp +contextual -dsimp -implicitDefEqProofs (maxSteps := 5000000) only [go_sem, reduceIte, reduceCtorEq, Nat.reduceEqDiff, Nat.reduceBEq, Nat.reduceAdd, Nat.reduceLeDiff, Nat.reduceMul, Nat.reduceLT, Int.reduceEq, Int.reduceLT, Int.reduceLE, c4, c6, e6, e7, n1, n2]
        refine k_one [7, 8] _ hK1 (nb _) (by omega) (by simp) rfl rfl fun v K1 _ hK1 => ?_
        simp +contextual -dsimp -implicitDefEqProofs (maxSteps := 5000000) only [go_sem, reduceIte, reduceCtorEq, Nat.reduceEqDiff, Nat.reduceBEq, Nat.reduceAdd, Nat.reduceLeDiff, Nat.reduceMul, Nat.reduceLT, Int.reduceEq, Int.reduceLT, Int.reduceLE, c4, c6, e6, e7, n1, n2]
        refine retR_less (l := [.vsl [rLine ⟨d, 4, v, 0⟩] true]) (H' := F.set br K1) ?_ (le _ _) ⟨[⟨d, 4, v, 0⟩], true, K1, rfl, rfl, rdk_mono hK1 (by omega), by simp, by simp; omega⟩
        simp only [resA, go_sem, reduceIte, reduceCtorEq, Nat.reduceEqDiff, Nat.reduceBEq, Nat.reduceAdd, Nat.reduceLeDiff, Nat.reduceMul, Nat.reduceLT, Int.reduceEq, Int.reduceLT, Int.reduceLE]
      · simp +contextual -dsimp -implicitDefEqProofs (maxSteps := 5000000) only [go_sem, reduceIte, reduceCtorEq, Nat.reduceEqDiff, Nat.reduceBEq, Nat.reduceAdd, Nat.reduceLeDiff, Nat.reduceMul, Nat.reduceLT, Int.reduceEq, Int.reduceLT, Int.reduceLE, c4, c6, e6, e7, n1, n2]
        refine k_one [5, 6] _ hK1 (nb _) (by omega) (by simp) rfl rfl fun v K1 _ hK1 => ?_
        simp +contextual -dsimp -implicitDefEqProofs (maxSteps := 5000000) only [go_sem, reduceIte, reduceCtorEq, Nat.reduceEqDiff, Nat.reduceBEq, Nat.reduceAdd, Nat.reduceLeDiff, Nat.reduceMul, Nat.reduceLT, Int.reduceEq, Int.reduceLT, Int.reduceLE, c4, c6, e6, e7, n1, n2]
        refine retR_less (l := [.vsl [rLine ⟨d, v, 0, 0⟩] true]) (H' := F.set br K1) ?_ (le _ _) ⟨[⟨d, v, 0, 0⟩], true, K1, rfl, rfl, rdk_mono hK1 (by omega), by simp, by simp; omega⟩
        simp only [resA, go_sem, reduceIte, reduceCtorEq, Nat.reduceEqDiff, Nat.reduceBEq, Nat.reduceAdd, Nat.reduceLeDiff, Nat.reduceMul, Nat.reduceLT, Int.reduceEq, Int.reduceLT, Int.reduceLE]
    by_cases e8 : k = 8
    · simp +contextual -dsimp -implicitDefEqProofs (maxSteps := 5000000) only [go_sem, reduceIte, reduceCtorEq, Nat.reduceEqDiff, Nat.reduceBEq, Nat.reduceAdd, Nat.reduceLeDiff, Nat.reduceMul, Nat.reduceLT, Int.reduceEq, Int.reduceLT, Int.reduceLE, c4, c6, e6, e7, e8, n1, n2]
      refine retR_less (l := [.vsl [rLine ⟨d, 0, 0, 0⟩] true]) (H' := AHeap.set F br _) ?_ (le _ _) ⟨[⟨d, 0, 0, 0⟩], true, _, rfl, rfl, rdk_mono hK1 (by omega), by simp, by simp; omega⟩
      simp only [resA, go_sem, reduceIte, reduceCtorEq, Nat.reduceEqDiff, Nat.reduceBEq, Nat.reduceAdd, Nat.reduceLeDiff, Nat.reduceMul, Nat.reduceLT, Int.reduceEq, Int.reduceLT, Int.reduceLE]
    omega
  · skip
    rintro b10 ⟨n1, n2, hb⟩
    simp only [br_out n1]
    have nb : ∀ K, (F.set b10 K) br = none := fun K => by rw [set_other n2]; exact hF
    have le : ∀ K K', AHeap.le (F.set br K') ((F.set b10 K).set br K') := fun K K' => le_ch (le_s1 (AHeap.le_refl _) hb)
    by_cases c4 : k0 < 4
    · simp +contextual -dsimp -implicitDefEqProofs (maxSteps := 5000000) only [go_sem, reduceIte, reduceCtorEq, Nat.reduceEqDiff, Nat.reduceBEq, Nat.reduceAdd, Nat.reduceLeDiff, Nat.reduceMul, Nat.reduceLT, Int.reduceEq, Int.reduceLT, Int.reduceLE, c4, n1, n2]
      refine k_one [1, 2, 3, 4, 5] _ hK0 (nb _) (by omega) (by simp) rfl rfl fun v K1 _ hK1 => ?_
      simp +contextual -dsimp -implicitDefEqProofs (maxSteps := 5000000) only [go_sem, reduceIte, reduceCtorEq, Nat.reduceEqDiff, Nat.reduceBEq, Nat.reduceAdd, Nat.reduceLeDiff, Nat.reduceMul, Nat.reduceLT, Int.reduceEq, Int.reduceLT, Int.reduceLE, c4, n1, n2]
      refine retR_less (l := [.vsl [rLine ⟨d, 1, v, 0⟩] true]) (H' := F.set br K1) ?_ (le _ _) ⟨[⟨d, 1, v, 0⟩], true, K1, rfl, rfl, rdk_mono hK1 (by omega), by simp, by simp; omega⟩
      simp only [resA, go_sem, reduceIte, reduceCtorEq, Nat.reduceEqDiff, Nat.reduceBEq, Nat.reduceAdd, Nat.reduceLeDiff, Nat.reduceMul, Nat.reduceLT, Int.reduceEq, Int.reduceLT, Int.reduceLE]
    by_cases c6 : k0 < 6
    · simp +contextual -dsimp -implicitDefEqProofs (maxSteps := 5000000) only [go_sem, reduceIte, reduceCtorEq, Nat.reduceEqDiff, Nat.reduceBEq, Nat.reduceAdd, Nat.reduceLeDiff, Nat.reduceMul, Nat.reduceLT, Int.reduceEq, Int.reduceLT, Int.reduceLE, c4, c6, n1, n2]
      refine k_pick t.length hK0 (nb _) (by omega) rfl fun a K1 _ _ _ hK1 => ?_
      simp +contextual -dsimp -implicitDefEqProofs (maxSteps := 5000000) only [go_sem, reduceIte, reduceCtorEq, Nat.reduceEqDiff, Nat.reduceBEq, Nat.reduceAdd, Nat.reduceLeDiff, Nat.reduceMul, Nat.reduceLT, Int.reduceEq, Int.reduceLT, Int.reduceLE, c4, c6, n1, n2]
      refine k_one [1, 2, 3] _ hK1 (nb _) (by omega) (by simp) rfl rfl fun v K2 _ hK2 => ?_
      simp +contextual -dsimp -implicitDefEqProofs (maxSteps := 5000000) only [go_sem, reduceIte, reduceCtorEq, Nat.reduceEqDiff, Nat.reduceBEq, Nat.reduceAdd, Nat.reduceLeDiff, Nat.reduceMul, Nat.reduceLT, Int.reduceEq, Int.reduceLT, Int.reduceLE, c4, c6, n1, n2]
      refine retR_less (l := [.vsl [rLine ⟨d, 2, a, v⟩] true]) (H' := F.set br K2) ?_ (le _ _) ⟨[⟨d, 2, a, v⟩], true, K2, rfl, rfl, rdk_mono hK2 (by omega), by simp, by simp; omega⟩
      simp only [resA, go_sem, reduceIte, reduceCtorEq, Nat.reduceEqDiff, Nat.reduceBEq, Nat.reduceAdd, Nat.reduceLeDiff, Nat.reduceMul, Nat.reduceLT, Int.reduceEq, Int.reduceLT, Int.reduceLE]
    by_cases e6 : k0 = 6
    · simp +contextual -dsimp -implicitDefEqProofs (maxSteps := 5000000) only [go_sem, reduceIte, reduceCtorEq, Nat.reduceEqDiff, Nat.reduceBEq, Nat.reduceAdd, Nat.reduceLeDiff, Nat.reduceMul, Nat.reduceLT, Int.reduceEq, Int.reduceLT, Int.reduceLE, c4, c6, e6, n1, n2]
      refine retR_less (l := [.vsl [rLine ⟨d, 3, 0, 0⟩] true]) (H' := AHeap.set F br _) ?_ (le _ _) ⟨[⟨d, 3, 0, 0⟩], true, _, rfl, rfl, rdk_mono hK0 (by omega), by simp, by simp; omega⟩
      simp only [resA, go_sem, reduceIte, reduceCtorEq, Nat.reduceEqDiff, Nat.reduceBEq, Nat.reduceAdd, Nat.reduceLeDiff, Nat.reduceMul, Nat.reduceLT, Int.reduceEq, Int.reduceLT, Int.reduceLE]
    by_cases e7 : k0 = 7
    · cases lp
      · simp +contextual -dsimp -implicitDefEqProofs (maxSteps := 5000000) only [go_sem, reduceIte, reduceCtorEq, Nat.reduceEqDiff, Nat.reduceBEq, Nat.reduceAdd, Nat.reduceLeDiff, Nat.reduceMul, Nat.reduceLT, Int.reduceEq, Int.reduceLT, Int.reduceLE, c4, c6, e6, e7, n1, n2]
        refine k_one [7, 8] _ hK0 (nb _) (by omega) (by simp) rfl rfl fun v K1 _ hK1 => ?_
        simp +contextual -dsimp -implicitDefEqProofs (maxSteps := 5000000) only [go_sem, reduceIte, reduceCtorEq, Nat.reduceEqDiff, Nat.reduceBEq, Nat.reduceAdd, Nat.reduceLeDiff, Nat.reduceMul, Nat.reduceLT, Int.reduceEq, Int.reduceLT, Int.reduceLE, c4, c6, e6, e7, n1, n2]
        refine retR_less (l := [.vsl [rLine ⟨d, 4, v, 0⟩] true]) (H' := F.set br K1) ?_ (le _ _) ⟨[⟨d, 4, v, 0⟩], true, K1, rfl, rfl, rdk_mono hK1 (by omega), by simp, by simp; omega⟩
        simp only [resA, go_sem, reduceIte, reduceCtorEq, Nat.reduceEqDiff, Nat.reduceBEq, Nat.reduceAdd, Nat.reduceLeDiff, Nat.reduceMul, Nat.reduceLT, Int.reduceEq, Int.reduceLT, Int.reduceLE]
      · simp +contextual -dsimp -implicitDefEqProofs (maxSteps := 5000000) only [go_sem, reduceIte, reduceCtorEq, Nat.reduceEqDiff, Nat.reduceBEq, Nat.reduceAdd, Nat.reduceLeDiff, Nat.reduceMul, Nat.reduceLT, Int.reduceEq, Int.reduceLT, Int.reduceLE, c4, c6, e6, e7, n1, n2]
        refine k_one [5, 6] _ hK0 (nb _) (by omega) (by simp) rfl rfl fun v K1 _ hK1 => ?_
        simp +contextual -dsimp -implicitDefEqProofs (maxSteps := 5000000) only [go_sem, reduceIte, reduceCtorEq, Nat.reduceEqDiff, Nat.reduceBEq, Nat.reduceAdd, Nat.reduceLeDiff, Nat.reduceMul, Nat.reduceLT, Int.reduceEq, Int.reduceLT, Int.reduceLE, c4, c6, e6, e7, n1, n2]
        refine retR_less (l := [.vsl [rLine ⟨d, v, 0, 0⟩] true]) (H' := F.set br K1) ?_ (le _ _) ⟨[⟨d, v, 0, 0⟩], true, K1, rfl, rfl, rdk_mono hK1 (by omega), by simp, by simp; omega⟩
        simp only [resA, go_sem, reduceIte, reduceCtorEq, Nat.reduceEqDiff, Nat.reduceBEq, Nat.reduceAdd, Nat.reduceLeDiff, Nat.reduceMul, Nat.reduceLT, Int.reduceEq, Int.reduceLT, Int.reduceLE]
    by_cases e8 : k0 = 8
    · simp +contextual -dsimp -implicitDefEqProofs (maxSteps := 5000000) only [go_sem, reduceIte, reduceCtorEq, Nat.reduceEqDiff, Nat.reduceBEq, Nat.reduceAdd, Nat.reduceLeDiff, Nat.reduceMul, Nat.reduceLT, Int.reduceEq, Int.reduceLT, Int.reduceLE, c4, c6, e6, e7, e8, n1, n2]
      refine retR_less (l := [.vsl [rLine ⟨d, 0, 0, 0⟩] true]) (H' := AHeap.set F br _) ?_ (le _ _) ⟨[⟨d, 0, 0, 0⟩], true, _, rfl, rfl, rdk_mono hK0 (by omega), by simp, by simp; omega⟩
      simp only [resA, go_sem, reduceIte, reduceCtorEq, Nat.reduceEqDiff, Nat.reduceBEq, Nat.reduceAdd, Nat.reduceLeDiff, Nat.reduceMul, Nat.reduceLT, Int.reduceEq, Int.reduceLT, Int.reduceLE]
    have h3' : d < 3 := by omega
    have hB := hB h3'
    have hT := hT h3'
    have nb : ∀ K, (F.set b10 K) br = none := fun K => by rw [set_other n2]; exact hF
    have le : ∀ K K', AHeap.le (F.set br K') ((F.set b10 K).set br K') := fun K K' => le_ch (le_s1 (AHeap.le_refl _) hb)
    by_cases c11 : k0 < 11
    · simp +contextual -dsimp -implicitDefEqProofs (maxSteps := 5000000) only [go_sem, reduceIte, reduceCtorEq, Nat.reduceEqDiff, Nat.reduceBEq, Nat.reduceAdd, Nat.reduceLeDiff, Nat.reduceMul, Nat.reduceLT, Int.reduceEq, Int.reduceLT, Int.reduceLE, c4, c6, e6, e7, e8, c11, n1, n2]
      refine k_pick 4 hK0 (nb _) (by omega) rfl fun a K1 _ _ _ hK1 => ?_
      simp +contextual -dsimp -implicitDefEqProofs (maxSteps := 5000000) only [go_sem, reduceIte, reduceCtorEq, Nat.reduceEqDiff, Nat.reduceBEq, Nat.reduceAdd, Nat.reduceLeDiff, Nat.reduceMul, Nat.reduceLT, Int.reduceEq, Int.reduceLT, Int.reduceLE, c4, c6, e6, e7, e8, c11, n1, n2]
      refine k_pick 2 hK1 (nb _) (by omega) rfl fun b K2 _ _ _ hK2 => ?_
      simp +contextual -dsimp -implicitDefEqProofs (maxSteps := 5000000) only [go_sem, reduceIte, reduceCtorEq, Nat.reduceEqDiff, Nat.reduceBEq, Nat.reduceAdd, Nat.reduceLeDiff, Nat.reduceMul, Nat.reduceLT, Int.reduceEq, Int.reduceLT, Int.reduceLE, c4, c6, e6, e7, e8, c11, n1, n2]
      refine draw_intro [1, 0, 0, 0, 0, 0, 0, 3, 2, 0] _ (by kernel_rfl) (le_set (nb _)) ?_
      simp +contextual -dsimp -implicitDefEqProofs (maxSteps := 5000000) only [go_sem, reduceIte, reduceCtorEq, Nat.reduceEqDiff, Nat.reduceBEq, Nat.reduceAdd, Nat.reduceLeDiff, Nat.reduceMul, Nat.reduceLT, Int.reduceEq, Int.reduceLT, Int.reduceLE, c4, c6, e6, e7, e8, c11, n1, n2, hwd]
      refine (hB _ br _ _ t cl lp hK2 (nb _) (by omega)).mono ?_
      rintro _ H' ⟨l2, cl2, K4, rfl, rfl, hK4, h3, h4⟩
      refine ⟨le_set (nb _), ?_⟩
      simp +contextual -dsimp -implicitDefEqProofs (maxSteps := 5000000) only [go_sem, reduceIte, reduceCtorEq, Nat.reduceEqDiff, Nat.reduceBEq, Nat.reduceAdd, Nat.reduceLeDiff, Nat.reduceMul, Nat.reduceLT, Int.reduceEq, Int.reduceLT, Int.reduceLE, c4, c6, e6, e7, e8, c11, n1, n2, hwd]
      refine app_lit (y := ⟨d, 11, a, b⟩) rfl h3 (by omega) fun x' H' hg => ?_
      obtain ⟨G, hg0, rfl, u0⟩ := grow_out hg (nb _)
      have hg0' := grow_in (K := K4) hg0 u0
      obtain ⟨G2, hg2, rfl, u2⟩ := grow_out hg0 hb
      have u2r : G2 br = none := by rw [set_none] at u0; exact u0.2.2
      simp +contextual -dsimp -implicitDefEqProofs (maxSteps := 5000000) only [go_sem, reduceIte, reduceCtorEq, Nat.reduceEqDiff, Nat.reduceBEq, Nat.reduceAdd, Nat.reduceLeDiff, Nat.reduceMul, Nat.reduceLT, Int.reduceEq, Int.reduceLT, Int.reduceLE, c4, c6, e6, e7, e8, c11, n1, n2, hwd]
      refine grow_frz (t := 8) hg0' fun cl3 => ?_
      refine retR_less (l := [.vsl ((⟨d, 11, a, b⟩ :: l2).map rLine) cl3]) (H' := F.set br K4) ?_ (le _ _) ⟨⟨d, 11, a, b⟩ :: l2, cl3, K4, rfl, rfl, rdk_mono hK4 (by omega), by simp, by simp; omega⟩
      simp only [resA, go_sem, reduceIte, reduceCtorEq, Nat.reduceEqDiff, Nat.reduceBEq, Nat.reduceAdd, Nat.reduceLeDiff, Nat.reduceMul, Nat.reduceLT, Int.reduceEq, Int.reduceLT, Int.reduceLE]
    by_cases e11 : k0 = 11
    · simp +contextual -dsimp -implicitDefEqProofs (maxSteps := 5000000) only [go_sem, reduceIte, reduceCtorEq, Nat.reduceEqDiff, Nat.reduceBEq, Nat.reduceAdd, Nat.reduceLeDiff, Nat.reduceMul, Nat.reduceLT, Int.reduceEq, Int.reduceLT, Int.reduceLE, c4, c6, e6, e7, e8, c11, e11, n1, n2]
      refine k_one [2, 1, 3, 0] _ hK0 (nb _) (by omega) (by simp) rfl rfl fun a K2 _ hK2 => ?_
      simp +contextual -dsimp -implicitDefEqProofs (maxSteps := 5000000) only [go_sem, reduceIte, reduceCtorEq, Nat.reduceEqDiff, Nat.reduceBEq, Nat.reduceAdd, Nat.reduceLeDiff, Nat.reduceMul, Nat.reduceLT, Int.reduceEq, Int.reduceLT, Int.reduceLE, c4, c6, e6, e7, e8, c11, e11, n1, n2]
      refine draw_intro [1, 0, 0, 0, 0, 0, 3, 2, 0] _ (by kernel_rfl) (le_set (nb _)) ?_
      simp +contextual -dsimp -implicitDefEqProofs (maxSteps := 5000000) only [go_sem, reduceIte, reduceCtorEq, Nat.reduceEqDiff, Nat.reduceBEq, Nat.reduceAdd, Nat.reduceLeDiff, Nat.reduceMul, Nat.reduceLT, Int.reduceEq, Int.reduceLT, Int.reduceLE, c4, c6, e6, e7, e8, c11, n1, n2, e11, hwd]
      refine (hB _ br _ _ t cl true hK2 (nb _) (by omega)).mono ?_
      rintro _ H' ⟨l2, cl2, K4, rfl, rfl, hK4, h3, h4⟩
      refine ⟨le_set (nb _), ?_⟩
      simp +contextual -dsimp -implicitDefEqProofs (maxSteps := 5000000) only [go_sem, reduceIte, reduceCtorEq, Nat.reduceEqDiff, Nat.reduceBEq, Nat.reduceAdd, Nat.reduceLeDiff, Nat.reduceMul, Nat.reduceLT, Int.reduceEq, Int.reduceLT, Int.reduceLE, c4, c6, e6, e7, e8, c11, n1, n2, e11, hwd]
      refine app_lit (y := ⟨d, 12, a, 0⟩) rfl h3 (by omega) fun x' H' hg => ?_
      obtain ⟨G, hg0, rfl, u0⟩ := grow_out hg (nb _)
      have hg0' := grow_in (K := K4) hg0 u0
      obtain ⟨G2, hg2, rfl, u2⟩ := grow_out hg0 hb
      have u2r : G2 br = none := by rw [set_none] at u0; exact u0.2.2
      simp +contextual -dsimp -implicitDefEqProofs (maxSteps := 5000000) only [go_sem, reduceIte, reduceCtorEq, Nat.reduceEqDiff, Nat.reduceBEq, Nat.reduceAdd, Nat.reduceLeDiff, Nat.reduceMul, Nat.reduceLT, Int.reduceEq, Int.reduceLT, Int.reduceLE, c4, c6, e6, e7, e8, c11, n1, n2, e11, hwd]
      refine grow_frz (t := 8) hg0' fun cl3 => ?_
      refine retR_less (l := [.vsl ((⟨d, 12, a, 0⟩ :: l2).map rLine) cl3]) (H' := F.set br K4) ?_ (le _ _) ⟨⟨d, 12, a, 0⟩ :: l2, cl3, K4, rfl, rfl, rdk_mono hK4 (by omega), by simp, by simp; omega⟩
      simp only [resA, go_sem, reduceIte, reduceCtorEq, Nat.reduceEqDiff, Nat.reduceBEq, Nat.reduceAdd, Nat.reduceLeDiff, Nat.reduceMul, Nat.reduceLT, Int.reduceEq, Int.reduceLT, Int.reduceLE]
    · simp +contextual -dsimp -implicitDefEqProofs (maxSteps := 5000000) only [go_sem, reduceIte, reduceCtorEq, Nat.reduceEqDiff, Nat.reduceBEq, Nat.reduceAdd, Nat.reduceLeDiff, Nat.reduceMul, Nat.reduceLT, Int.reduceEq, Int.reduceLT, Int.reduceLE, c4, c6, e6, e7, e8, c11, e11, n1, n2]
      refine (hT _ br _ _ t cl lp hK0 (nb _) (by omega)).mono ?_
      rintro _ H' ⟨l2, cl2, K4, rfl, rfl, hK4, h3, h4⟩
      simp +contextual -dsimp -implicitDefEqProofs (maxSteps := 5000000) only [go_sem, reduceIte, reduceCtorEq, Nat.reduceEqDiff, Nat.reduceBEq, Nat.reduceAdd, Nat.reduceLeDiff, Nat.reduceMul, Nat.reduceLT, Int.reduceEq, Int.reduceLT, Int.reduceLE, c4, c6, e6, e7, e8, c11, e11, n1, n2]
      refine retR_less (l := [.vsl (l2.map rLine) cl2]) (H' := F.set br K4) ?_ (le _ _) ⟨l2, cl2, K4, rfl, rfl, rdk_mono hK4 (by omega), h3, by omega⟩
      simp only [resA, go_sem, reduceIte, reduceCtorEq, Nat.reduceEqDiff, Nat.reduceBEq, Nat.reduceAdd, Nat.reduceLeDiff, Nat.reduceMul, Nat.reduceLT, Int.reduceEq, Int.reduceLT, Int.reduceLE]
end
section
open Go Go.Sim
set_option maxRecDepth 100000
set_option maxHeartbeats 4000000

theorem st3 : DrawnF 151 6 3 := c_aStatement (p1 := 0) (p2 := 0) (by omega) (by omega) (by omega) (by omega) (by omega) (fun h => absurd h (by omega)) (fun h => absurd h (by omega))
theorem blk3 : Drawn 136 19 3 := c_aBlock (by omega) st3
theorem try2 : Drawn 135 105 2 := c_aTry (p := 19) (by omega) (by omega) blk3.frz
theorem st2 : DrawnF 151 111 2 := c_aStatement (p1 := 19) (p2 := 105) (by omega) (by omega) (by omega) (by omega) (by omega) (fun _ => blk3.frz) (fun _ => try2.frz)
theorem blk2 : Drawn 136 334 2 := c_aBlock (by omega) st2
theorem try1 : Drawn 135 1680 1 := c_aTry (p := 334) (by omega) (by omega) blk2.frz
theorem st1 : DrawnF 151 1686 1 := c_aStatement (p1 := 334) (p2 := 1680) (by omega) (by omega) (by omega) (by omega) (by omega) (fun _ => blk2.frz) (fun _ => try1.frz)
theorem blk1 : Drawn 136 5059 1 := c_aBlock (by omega) st1
theorem try0 : Drawn 135 25305 0 := c_aTry (p := 5059) (by omega) (by omega) blk1.frz
theorem st0 : DrawnF 151 25311 0 := c_aStatement (p1 := 5059) (p2 := 25305) (by omega) (by omega) (by omega) (by omega) (by omega) (fun _ => blk1.frz) (fun _ => try0.frz)
theorem blk0 : Drawn 136 75934 0 := c_aBlock (by omega) st0
/-- What is told beside blocks that nobody needs. -/
theorem grow_drop {α : Type} {f : α → List AV} {sz : Nat} {ty : TypeId} {F F0 G : AHeap} {x : AV} {l : List α} (hg : Grow f sz ty F0 G x l) (hle : F.le F0) : ∃ G', Grow f sz ty F G' x l ∧ G'.le G := by
  rcases hg with ⟨rfl, rfl, rfl⟩ | ⟨b, cl, hb, rfl, rfl⟩
  · exact ⟨F, .inl ⟨rfl, rfl, rfl⟩, hle⟩
  · have hb' : F b = none := by
      cases h : F b with
      | none => rfl
      | some k => rw [hle b k h] at hb; cases hb
    exact ⟨_, .inr ⟨b, cl, hb', rfl, rfl⟩, le_ch hle⟩
theorem le_none {F G : AHeap} {b : Nat} (h : F.le G) (hb : G b = none) : F b = none := by
  cases hq : F b with
  | none => rfl
  | some k => rw [h b k hq] at hb; cases hb
theorem c_goodProgram (F : AHeap) (br n : Nat) (K : ABlk) (t : List Class) (cl : Bool) (h : RdK n K) (hF : F br = none) (hn : n < 500000000) : ACalls Tryz.prog 95 [.ptr br 2 0 0, aTree t cl] (F.set br K) fun r H' =>
    ∃ (l : List Line) (G : AHeap) (K' : ABlk), Grow rLine 4 50 F G r l ∧ G br = none ∧ H' = G.set br K' ∧ RdK (n + 900000) K' ∧ 1 ≤ l.length ∧ l.length ≤ 24 := by
  refine acalls_of1 Tryz.func95 rfl (by kernel_rfl) rfl rfl (awp_sound (fz := fun _ => []) (im := fun s => s == 3) mixed _ _ _ _ (by kernel_rfl) ?_)
  simp +contextual -dsimp -implicitDefEqProofs (maxSteps := 5000000) only [go_sem, reduceIte, reduceCtorEq, Nat.reduceEqDiff, Nat.reduceBEq, Nat.reduceAdd, Nat.reduceLeDiff, Nat.reduceMul, Nat.reduceLT, Int.reduceEq, Int.reduceLT, Int.reduceLE]
  refine aloop mixed (fz := fun _ => []) (im := fun s => s == 3) (by kernel_rfl) (fun m tm H' => ∃ (F0 : AHeap) (K : ABlk) (i : Nat), m = 4 - i ∧ i ≤ 4 ∧ F.le F0 ∧ F0 br = none ∧ RdK (n + i * 180000) K ∧ H' = F0.set br K ∧ tm 0 = .ptr br 2 0 0 ∧ tm 3 = .vptr [[.vsl (t.map rClass) cl]] 0 0 ∧ tm 5 = I i) 4 ⟨F, K, 0, rfl, by omega, AHeap.le_refl _, hF, by simpa using h, rfl, ?_⟩ ?_
  · simp +contextual -dsimp -implicitDefEqProofs (maxSteps := 5000000) only [go_sem, reduceIte, reduceCtorEq, Nat.reduceEqDiff, Nat.reduceBEq, Nat.reduceAdd, Nat.reduceLeDiff, Nat.reduceMul, Nat.reduceLT, Int.reduceEq, Int.reduceLT, Int.reduceLE]
  · rintro m tm H' ⟨F0, K, i, rfl, hi, hle, fr, hK, rfl, t0, t3, t5⟩
    by_cases hlt : (i : Int) < 4
    · have hi4 : i < 4 := by omega
      simp +contextual -dsimp -implicitDefEqProofs (maxSteps := 5000000) only [go_sem, reduceIte, reduceCtorEq, Nat.reduceEqDiff, Nat.reduceBEq, Nat.reduceAdd, Nat.reduceLeDiff, Nat.reduceMul, Nat.reduceLT, Int.reduceEq, Int.reduceLT, Int.reduceLE, t0, t3, t5, hlt]
      refine (try0 F0 br _ K t cl false hK fr (by omega)).mono ?_
      rintro x H' ⟨l, G, K1, hg, fr1, rfl, hK1, h1, h2⟩
      simp +contextual -dsimp -implicitDefEqProofs (maxSteps := 5000000) only [go_sem, reduceIte, reduceCtorEq, Nat.reduceEqDiff, Nat.reduceBEq, Nat.reduceAdd, Nat.reduceLeDiff, Nat.reduceMul, Nat.reduceLT, Int.reduceEq, Int.reduceLT, Int.reduceLE, t0, t3, t5, hlt]
      refine k_pick 3 hK1 fr1 (by omega) rfl fun v K2 _ _ _ hK2 => ?_
      simp +contextual -dsimp -implicitDefEqProofs (maxSteps := 5000000) only [go_sem, reduceIte, reduceCtorEq, Nat.reduceEqDiff, Nat.reduceBEq, Nat.reduceAdd, Nat.reduceLeDiff, Nat.reduceMul, Nat.reduceLT, Int.reduceEq, Int.reduceLT, Int.reduceLE, t0, t3, t5, hlt]
      refine ⟨fun _ => ?_, fun _ => ?_⟩
      · refine (blk0.frz G br _ K2 t cl false hK2 fr1 (by omega)).mono ?_
        rintro _ H' ⟨l2, cl2, K3, rfl, rfl, hK3, h3, h4⟩
        simp +contextual -dsimp -implicitDefEqProofs (maxSteps := 5000000) only [go_sem, reduceIte, reduceCtorEq, Nat.reduceEqDiff, Nat.reduceBEq, Nat.reduceAdd, Nat.reduceLeDiff, Nat.reduceMul, Nat.reduceLT, Int.reduceEq, Int.reduceLT, Int.reduceLE, t0, t3, t5, hlt]
        refine app_lines (m := l2) (grow_in hg fr1) (by omega) rfl fun x' H' hg' => ?_
        obtain ⟨G1, hg1, rfl, u1⟩ := grow_out hg' (grow_none hg fr1)
        simp +contextual -dsimp -implicitDefEqProofs (maxSteps := 5000000) only [go_sem, reduceIte, reduceCtorEq, Nat.reduceEqDiff, Nat.reduceBEq, Nat.reduceAdd, Nat.reduceLeDiff, Nat.reduceMul, Nat.reduceLT, Int.reduceEq, Int.reduceLT, Int.reduceLE, t0, t3, t5, hlt]
        refine k_pick 4 hK3 u1 (by omega) rfl fun w K5 _ _ _ hK5 => ?_
        simp +contextual -dsimp -implicitDefEqProofs (maxSteps := 5000000) only [go_sem, reduceIte, reduceCtorEq, Nat.reduceEqDiff, Nat.reduceBEq, Nat.reduceAdd, Nat.reduceLeDiff, Nat.reduceMul, Nat.reduceLT, Int.reduceEq, Int.reduceLT, Int.reduceLE, t0, t3, t5, hlt]
        refine ⟨fun _ => ?_, fun _ => ?_⟩
        · refine (blk0 _ br _ _ t cl false hK5 u1 (by omega)).mono ?_
          rintro x6 H' ⟨l6, G6, K6, hg6, fr6, rfl, hK6, h5, h6⟩
          simp +contextual -dsimp -implicitDefEqProofs (maxSteps := 5000000) only [go_sem, reduceIte, reduceCtorEq, Nat.reduceEqDiff, Nat.reduceBEq, Nat.reduceAdd, Nat.reduceLeDiff, Nat.reduceMul, Nat.reduceLT, Int.reduceEq, Int.reduceLT, Int.reduceLE, t0, t3, t5, hlt]
          have hlen := grow_len te25 hg6
          simp +contextual -dsimp -implicitDefEqProofs (maxSteps := 5000000) only [go_sem, reduceIte, reduceCtorEq, Nat.reduceEqDiff, Nat.reduceBEq, Nat.reduceAdd, Nat.reduceLeDiff, Nat.reduceMul, Nat.reduceLT, Int.reduceEq, Int.reduceLT, Int.reduceLE, t0, t3, t5, hlt, hlen]
          refine ⟨fun h24 => ?_, fun h24 => ?_⟩
          · obtain ⟨G', hg', le'⟩ := grow_drop hg6 (AHeap.le_trans hle (grow_le hg1))
            refine retR_less (l := [x6]) (H' := G'.set br _) ?_ (le_ch le') ⟨_, G', _, hg', le_none le' fr6, rfl, rdk_mono hK6 (by omega), by first | omega | (simp; omega), by first | omega | (simp at h24 ⊢; omega)⟩
            simp only [resA, go_sem, reduceIte, reduceCtorEq, Nat.reduceEqDiff, Nat.reduceBEq, Nat.reduceAdd, Nat.reduceLeDiff, Nat.reduceMul, Nat.reduceLT, Int.reduceEq, Int.reduceLT, Int.reduceLE]
          · exact ⟨_, by omega, _, _, i + 1, rfl, by omega, AHeap.le_trans (AHeap.le_trans hle (grow_le hg1)) (grow_le hg6), fr6, rdk_mono hK6 (by omega), rfl, I_wrap (by omega) (by omega) (by omega)⟩
        · skip
          have hlen := grow_len te25 hg1
          simp +contextual -dsimp -implicitDefEqProofs (maxSteps := 5000000) only [go_sem, reduceIte, reduceCtorEq, Nat.reduceEqDiff, Nat.reduceBEq, Nat.reduceAdd, Nat.reduceLeDiff, Nat.reduceMul, Nat.reduceLT, Int.reduceEq, Int.reduceLT, Int.reduceLE, t0, t3, t5, hlt, hlen]
          refine ⟨fun h24 => ?_, fun h24 => ?_⟩
          · obtain ⟨G', hg', le'⟩ := grow_drop hg1 hle
            refine retR_less (l := [x']) (H' := G'.set br _) ?_ (le_ch le') ⟨_, G', _, hg', le_none le' u1, rfl, rdk_mono hK5 (by omega), by first | omega | (simp; omega), by first | omega | (simp at h24 ⊢; omega)⟩
            simp only [resA, go_sem, reduceIte, reduceCtorEq, Nat.reduceEqDiff, Nat.reduceBEq, Nat.reduceAdd, Nat.reduceLeDiff, Nat.reduceMul, Nat.reduceLT, Int.reduceEq, Int.reduceLT, Int.reduceLE]
          · exact ⟨_, by omega, _, _, i + 1, rfl, by omega, AHeap.le_trans hle (grow_le hg1), u1, rdk_mono hK5 (by omega), rfl, I_wrap (by omega) (by omega) (by omega)⟩
      · skip
        refine k_pick 4 hK2 fr1 (by omega) rfl fun w K5 _ _ _ hK5 => ?_
        simp +contextual -dsimp -implicitDefEqProofs (maxSteps := 5000000) only [go_sem, reduceIte, reduceCtorEq, Nat.reduceEqDiff, Nat.reduceBEq, Nat.reduceAdd, Nat.reduceLeDiff, Nat.reduceMul, Nat.reduceLT, Int.reduceEq, Int.reduceLT, Int.reduceLE, t0, t3, t5, hlt]
        refine ⟨fun _ => ?_, fun _ => ?_⟩
        · refine (blk0 _ br _ _ t cl false hK5 fr1 (by omega)).mono ?_
          rintro x6 H' ⟨l6, G6, K6, hg6, fr6, rfl, hK6, h5, h6⟩
          simp +contextual -dsimp -implicitDefEqProofs (maxSteps := 5000000) only [go_sem, reduceIte, reduceCtorEq, Nat.reduceEqDiff, Nat.reduceBEq, Nat.reduceAdd, Nat.reduceLeDiff, Nat.reduceMul, Nat.reduceLT, Int.reduceEq, Int.reduceLT, Int.reduceLE, t0, t3, t5, hlt]
          have hlen := grow_len te25 hg6
          simp +contextual -dsimp -implicitDefEqProofs (maxSteps := 5000000) only [go_sem, reduceIte, reduceCtorEq, Nat.reduceEqDiff, Nat.reduceBEq, Nat.reduceAdd, Nat.reduceLeDiff, Nat.reduceMul, Nat.reduceLT, Int.reduceEq, Int.reduceLT, Int.reduceLE, t0, t3, t5, hlt, hlen]
          refine ⟨fun h24 => ?_, fun h24 => ?_⟩
          · obtain ⟨G', hg', le'⟩ := grow_drop hg6 (AHeap.le_trans hle (grow_le hg))
            refine retR_less (l := [x6]) (H' := G'.set br _) ?_ (le_ch le') ⟨_, G', _, hg', le_none le' fr6, rfl, rdk_mono hK6 (by omega), by first | omega | (simp; omega), by first | omega | (simp at h24 ⊢; omega)⟩
            simp only [resA, go_sem, reduceIte, reduceCtorEq, Nat.reduceEqDiff, Nat.reduceBEq, Nat.reduceAdd, Nat.reduceLeDiff, Nat.reduceMul, Nat.reduceLT, Int.reduceEq, Int.reduceLT, Int.reduceLE]
          · exact ⟨_, by omega, _, _, i + 1, rfl, by omega, AHeap.le_trans (AHeap.le_trans hle (grow_le hg)) (grow_le hg6), fr6, rdk_mono hK6 (by omega), rfl, I_wrap (by omega) (by omega) (by omega)⟩
        · skip
          have hlen := grow_len te25 hg
          simp +contextual -dsimp -implicitDefEqProofs (maxSteps := 5000000) only [go_sem, reduceIte, reduceCtorEq, Nat.reduceEqDiff, Nat.reduceBEq, Nat.reduceAdd, Nat.reduceLeDiff, Nat.reduceMul, Nat.reduceLT, Int.reduceEq, Int.reduceLT, Int.reduceLE, t0, t3, t5, hlt, hlen]
          refine ⟨fun h24 => ?_, fun h24 => ?_⟩
          · obtain ⟨G', hg', le'⟩ := grow_drop hg hle
            refine retR_less (l := [x]) (H' := G'.set br _) ?_ (le_ch le') ⟨_, G', _, hg', le_none le' fr1, rfl, rdk_mono hK5 (by omega), by first | omega | (simp; omega), by first | omega | (simp at h24 ⊢; omega)⟩
            simp only [resA, go_sem, reduceIte, reduceCtorEq, Nat.reduceEqDiff, Nat.reduceBEq, Nat.reduceAdd, Nat.reduceLeDiff, Nat.reduceMul, Nat.reduceLT, Int.reduceEq, Int.reduceLT, Int.reduceLE]
          · exact ⟨_, by omega, _, _, i + 1, rfl, by omega, AHeap.le_trans hle (grow_le hg), fr1, rdk_mono hK5 (by omega), rfl, I_wrap (by omega) (by omega) (by omega)⟩
    · simp +contextual -dsimp -implicitDefEqProofs (maxSteps := 5000000) only [go_sem, reduceIte, reduceCtorEq, Nat.reduceEqDiff, Nat.reduceBEq, Nat.reduceAdd, Nat.reduceLeDiff, Nat.reduceMul, Nat.reduceLT, Int.reduceEq, Int.reduceLT, Int.reduceLE, t0, t3, t5, hlt]
      rintro b36 ⟨w1, w2, hb36⟩
      rw [br_out w1]
      have hb : F b36 = none := le_none hle hb36
      refine retR_less (l := [.sl b36 4 0 4 true]) (H' := (F.set b36 ⟨4, 50, ([⟨0, 7, 0, 0⟩, ⟨1, 2, 0, 1⟩, ⟨0, 10, 0, 0⟩, ⟨1, 1, 1, 0⟩] : List Line).map rLine⟩).set br K) ?_ (le_ch (le_ch hle)) ⟨_, _, K, .inr ⟨b36, true, hb, rfl, rfl⟩, by rw [set_other w2]; exact hF, rfl, rdk_mono hK (by omega), by simp, by simp⟩
      simp only [resA, go_sem, reduceIte, reduceCtorEq, Nat.reduceEqDiff, Nat.reduceBEq, Nat.reduceAdd, Nat.reduceLeDiff, Nat.reduceMul, Nat.reduceLT, Int.reduceEq, Int.reduceLT, Int.reduceLE]
end
section
open Go Go.Sim
set_option maxRecDepth 100000
set_option maxHeartbeats 4000000

theorem c_someProgram0 (F : AHeap) (br n : Nat) (K : ABlk) (h : RdK n K) (hF : F br = none) (hn : n < 400000000) : ACalls Tryz.prog 51 [.ptr br 2 0 0] (F.set br K) fun r H' =>
    ∃ t cl x, ∃ l : List Line, ∃ cl' G K', r = .tup [aTree t cl, x] ∧ Fz (AHeap.set G br K') (F.set br K') x (.vsl (l.map rLine) cl') ∧ F.le G ∧ H' = G.set br K' ∧ RdK (n + 1000000) K' ∧ t.length ≤ 8 ∧ shortNames t ∧ l.length ≤ 24 := by
  refine acalls_of1 Tryz.func51 rfl (by kernel_rfl) rfl rfl (awp_sound (fz := fun r => if r = 13 then [5] else []) (im := fun s => s == 15 || s == 30 || s == 39 || s == 48) mixed _ _ _ _ (by kernel_rfl) ?_)
  simp +contextual -dsimp -implicitDefEqProofs (maxSteps := 5000000) only [go_sem, reduceIte, reduceCtorEq, Nat.reduceEqDiff, Nat.reduceBEq, Nat.reduceAdd, Nat.reduceLeDiff, Nat.reduceMul, Nat.reduceLT, Int.reduceEq, Int.reduceLT, Int.reduceLE]
  rintro b2 ⟨p1, p2, hb2⟩
  rw [br_out p1]
  have n2 : ∀ K4, (F.set b2 K4) br = none := fun K4 => by rw [set_other p2]; exact hF
  refine (c_someTreeF _ br n K h (n2 _) (by omega)).mono ?_
  rintro _ _ ⟨t, cl, K1, rfl, rfl, hK1, ht8, hs⟩
  simp +contextual -dsimp -implicitDefEqProofs (maxSteps := 5000000) only [go_sem, reduceIte, reduceCtorEq, Nat.reduceEqDiff, Nat.reduceBEq, Nat.reduceAdd, Nat.reduceLeDiff, Nat.reduceMul, Nat.reduceLT, Int.reduceEq, Int.reduceLT, Int.reduceLE, p1, p2]
  rintro b4 ⟨q1, q2, q3, q4, hb4⟩
  simp only [br_out q1]
  have n4 : ∀ K4 K5, ((F.set b2 K4).set b4 K5) br = none := fun K4 K5 => by rw [set_other q2]; exact n2 _
  refine ⟨fun h0 => ?_, fun h0 => ?_⟩
  · refine retR_less (l := [aTree t cl, .vsl [rLine ⟨0, 0, 0, 0⟩] true]) (H' := F.set br K1) ?_ (le_ch (le_s1 (le_s1 (AHeap.le_refl _) hb2) hb4)) ⟨t, cl, _, [⟨0, 0, 0, 0⟩], true, F, K1, rfl, .same _, AHeap.le_refl _, rfl, rdk_mono hK1 (by omega), ht8, hs, by simp⟩
    simp only [resA, go_sem, reduceIte, reduceCtorEq, Nat.reduceEqDiff, Nat.reduceBEq, Nat.reduceAdd, Nat.reduceLeDiff, Nat.reduceMul, Nat.reduceLT, Int.reduceEq, Int.reduceLT, Int.reduceLE, p1, p2, q1, q2, q3, q4]
  · refine (c_goodProgram _ br _ K1 t cl hK1 (n4 _ _) (by omega)).mono ?_
    rintro _ _ ⟨l, G0, K2, hg0, hr0, rfl, hK2, h1, h24⟩
    rcases hg0 with ⟨e, _, _⟩ | ⟨bx, clx, hbx, rfl, rfl⟩
    · rw [e] at h1; simp at h1
    have hbx' := hbx
    have hr' := hr0
    rw [set_none, set_none] at hbx'
    rw [set_none] at hr'
    obtain ⟨s1, s2, s3, s4, hbF⟩ := hbx'
    obtain ⟨s5, s6, _⟩ := hr'
    have n6 : ∀ (A C D : ABlk), (((F.set b2 A).set b4 C).set bx D) br = none := fun A C D => by rw [set_other s5]; exact n4 _ _
    have fin : ∀ (l' : List Line) (off len : Nat) (c' : Bool) (K3 : ABlk) (tm : Tm), off + len ≤ l'.length → len ≤ 24 → RdK (n + 1000000) K3 → tm 2 = .ptr b2 1 0 0 → tm 3 = .sl bx 4 off len c' → retR Tryz.prog [.cell 2 24, .tmp 3] (fun r H' => ∃ t cl x, ∃ l : List Line, ∃ cl' G K', r = .tup [aTree t cl, x] ∧ Fz (AHeap.set G br K') (F.set br K') x (.vsl (l.map rLine) cl') ∧ F.le G ∧ H' = G.set br K' ∧ RdK (n + 1000000) K' ∧ t.length ≤ 8 ∧ shortNames t ∧ l.length ≤ 24) tm
        ((((F.set b2 ⟨1, 24, [[.vsl (t.map rClass) cl]]⟩).set b4 ⟨1, 24, [[.vsl (t.map rClass) cl]]⟩).set bx ⟨4, 50, l'.map rLine⟩).set br K3) := by
      intro l' off len c' K3 tm hol hl24 hK3 h2 h3
      have hz := Fz.sl (H := (F.set bx ⟨4, 50, l'.map rLine⟩).set br K3) (K := F.set br K3) (b := bx) (sz := 4) (off := off) (len := len) (cl := c') (k := ⟨4, 50, l'.map rLine⟩) (by rw [set_other s6, AHeap.set_self]) rfl (by simpa using hol) (by rw [set_other s6]; exact hbF)
      have he : ((l'.map rLine).drop off).take len = ((l'.drop off).take len).map rLine := by rw [List.map_take, List.map_drop]
      simp only [he] at hz
      refine retR_less (l := [aTree t cl, .sl bx 4 off len c']) (H' := (F.set bx ⟨4, 50, l'.map rLine⟩).set br K3) ?_ (le_ch (le_ch (le_s1 (le_s1 (AHeap.le_refl _) hb2) hb4))) ⟨t, cl, _, (l'.drop off).take len, c', _, K3, rfl, hz, le_s1 (AHeap.le_refl _) hbF, rfl, hK3, ht8, hs, by simp; omega⟩
      simp only [resA, go_sem, reduceIte, reduceCtorEq, Nat.reduceEqDiff, Nat.reduceBEq, Nat.reduceAdd, Nat.reduceLeDiff, Nat.reduceMul, Nat.reduceLT, Int.reduceEq, Int.reduceLT, Int.reduceLE, p1, p2, q1, q2, q3, q4, s1, s2, s3, s4, s5, s6, h2, h3]
    have finV : ∀ (l' : List Line) (c' : Bool) (K3 : ABlk) (tm : Tm), l'.length ≤ 24 → RdK (n + 1000000) K3 → tm 2 = .ptr b2 1 0 0 → tm 3 = .vsl (l'.map rLine) c' → retR Tryz.prog [.cell 2 24, .tmp 3] (fun r H' => ∃ t cl x, ∃ l : List Line, ∃ cl' G K', r = .tup [aTree t cl, x] ∧ Fz (AHeap.set G br K') (F.set br K') x (.vsl (l.map rLine) cl') ∧ F.le G ∧ H' = G.set br K' ∧ RdK (n + 1000000) K' ∧ t.length ≤ 8 ∧ shortNames t ∧ l.length ≤ 24) tm
        (((F.set b2 ⟨1, 24, [[.vsl (t.map rClass) cl]]⟩).set b4 ⟨1, 24, [[.vsl (t.map rClass) cl]]⟩).set br K3) := by
      intro l' c' K3 tm hl24 hK3 h2 h3
      refine retR_less (l := [aTree t cl, .vsl (l'.map rLine) c']) (H' := F.set br K3) ?_ (le_ch (le_s1 (le_s1 (AHeap.le_refl _) hb2) hb4)) ⟨t, cl, _, l', c', F, K3, rfl, .same _, AHeap.le_refl _, rfl, hK3, ht8, hs, hl24⟩
      simp only [resA, go_sem, reduceIte, reduceCtorEq, Nat.reduceEqDiff, Nat.reduceBEq, Nat.reduceAdd, Nat.reduceLeDiff, Nat.reduceMul, Nat.reduceLT, Int.reduceEq, Int.reduceLT, Int.reduceLE, p1, p2, q1, q2, q3, q4, h2, h3]
    have htk : List.take l.length (l.map rLine) = l.map rLine := List.take_of_length_le (by simp)
    have delx : ∀ (G : AHeap) (L K : ABlk), G bx = none → ((G.set bx L).set br K).del bx = G.set br K := fun G L K hG => by rw [set_comm s6, set_del (by rw [set_other s6]; exact hG)]
    simp +contextual -dsimp -implicitDefEqProofs (maxSteps := 5000000) only [go_sem, reduceIte, reduceCtorEq, Nat.reduceEqDiff, Nat.reduceBEq, Nat.reduceAdd, Nat.reduceLeDiff, Nat.reduceMul, Nat.reduceLT, Int.reduceEq, Int.reduceLT, Int.reduceLE, p1, p2, q1, q2, q3, q4, s1, s2, s3, s4, s5, s6]
    refine k_pick l.length hK2 (n6 _ _ _) (by omega) rfl fun v K3 v0 v1 _ hK3 => ?_
    have vl := v1 (by omega)
    have vn : v.toNat < l.length := by omega
    simp +contextual -dsimp -implicitDefEqProofs (maxSteps := 5000000) only [go_sem, reduceIte, reduceCtorEq, Nat.reduceEqDiff, Nat.reduceBEq, Nat.reduceAdd, Nat.reduceLeDiff, Nat.reduceMul, Nat.reduceLT, Int.reduceEq, Int.reduceLT, Int.reduceLE, p1, p2, q1, q2, q3, q4, s1, s2, s3, s4, s5, s6]
    refine k_pick 24 hK3 (n6 _ _ _) (by omega) rfl fun z K4 _ _ _ hK4 => ?_
    by_cases c0 : z = 0
    · simp +contextual -dsimp -implicitDefEqProofs (maxSteps := 5000000) only [go_sem, reduceIte, reduceCtorEq, Nat.reduceEqDiff, Nat.reduceBEq, Nat.reduceAdd, Nat.reduceLeDiff, Nat.reduceMul, Nat.reduceLT, Int.reduceEq, Int.reduceLT, Int.reduceLE, c0, p1, p2, q1, q2, q3, q4, s1, s2, s3, s4, s5, s6]
      refine k_one [-1, 6, 0, 1] _ hK4 (n6 _ _ _) (by omega) (by simp) rfl rfl fun s K5 _ hK5 => ?_
      simp +contextual -dsimp -implicitDefEqProofs (maxSteps := 5000000) only [go_sem, reduceIte, reduceCtorEq, Nat.reduceEqDiff, Nat.reduceBEq, Nat.reduceAdd, Nat.reduceLeDiff, Nat.reduceMul, Nat.reduceLT, Int.reduceEq, Int.reduceLT, Int.reduceLE, c0, p1, p2, q1, q2, q3, q4, s1, s2, s3, s4, s5, s6, v0, vl, vn]
      rw [wrO_y (y := { l.getD v.toNat default with depth := s }) vn rfl]
      simp +contextual -dsimp -implicitDefEqProofs (maxSteps := 5000000) only [go_sem, reduceIte, reduceCtorEq, Nat.reduceEqDiff, Nat.reduceBEq, Nat.reduceAdd, Nat.reduceLeDiff, Nat.reduceMul, Nat.reduceLT, Int.reduceEq, Int.reduceLT, Int.reduceLE, c0, p1, p2, q1, q2, q3, q4, s1, s2, s3, s4, s5, s6, v0, vl, vn]
      refine fin (l.set v.toNat { l.getD v.toNat default with depth := s }) 0 l.length clx K5 _ (by simp) h24 (rdk_mono hK5 (by omega)) rfl rfl
    by_cases c1 : z = 1
    · simp +contextual -dsimp -implicitDefEqProofs (maxSteps := 5000000) only [go_sem, reduceIte, reduceCtorEq, Nat.reduceEqDiff, Nat.reduceBEq, Nat.reduceAdd, Nat.reduceLeDiff, Nat.reduceMul, Nat.reduceLT, Int.reduceEq, Int.reduceLT, Int.reduceLE, c0, c1, p1, p2, q1, q2, q3, q4, s1, s2, s3, s4, s5, s6]
      refine k_one [-1, 13, 5, 9, 0] _ hK4 (n6 _ _ _) (by omega) (by simp) rfl rfl fun s K5 _ hK5 => ?_
      simp +contextual -dsimp -implicitDefEqProofs (maxSteps := 5000000) only [go_sem, reduceIte, reduceCtorEq, Nat.reduceEqDiff, Nat.reduceBEq, Nat.reduceAdd, Nat.reduceLeDiff, Nat.reduceMul, Nat.reduceLT, Int.reduceEq, Int.reduceLT, Int.reduceLE, c0, c1, p1, p2, q1, q2, q3, q4, s1, s2, s3, s4, s5, s6, v0, vl, vn]
      rw [wrO_y (y := { l.getD v.toNat default with kind := s }) vn rfl]
      simp +contextual -dsimp -implicitDefEqProofs (maxSteps := 5000000) only [go_sem, reduceIte, reduceCtorEq, Nat.reduceEqDiff, Nat.reduceBEq, Nat.reduceAdd, Nat.reduceLeDiff, Nat.reduceMul, Nat.reduceLT, Int.reduceEq, Int.reduceLT, Int.reduceLE, c0, c1, p1, p2, q1, q2, q3, q4, s1, s2, s3, s4, s5, s6, v0, vl, vn]
      refine fin (l.set v.toNat { l.getD v.toNat default with kind := s }) 0 l.length clx K5 _ (by simp) h24 (rdk_mono hK5 (by omega)) rfl rfl
    by_cases c2 : z = 2
    · simp +contextual -dsimp -implicitDefEqProofs (maxSteps := 5000000) only [go_sem, reduceIte, reduceCtorEq, Nat.reduceEqDiff, Nat.reduceBEq, Nat.reduceAdd, Nat.reduceLeDiff, Nat.reduceMul, Nat.reduceLT, Int.reduceEq, Int.reduceLT, Int.reduceLE, c0, c1, c2, p1, p2, q1, q2, q3, q4, s1, s2, s3, s4, s5, s6]
      refine k_one [-1, 100, 8] _ hK4 (n6 _ _ _) (by omega) (by simp) rfl rfl fun s K5 _ hK5 => ?_
      simp +contextual -dsimp -implicitDefEqProofs (maxSteps := 5000000) only [go_sem, reduceIte, reduceCtorEq, Nat.reduceEqDiff, Nat.reduceBEq, Nat.reduceAdd, Nat.reduceLeDiff, Nat.reduceMul, Nat.reduceLT, Int.reduceEq, Int.reduceLT, Int.reduceLE, c0, c1, c2, p1, p2, q1, q2, q3, q4, s1, s2, s3, s4, s5, s6, v0, vl, vn]
      rw [wrO_y (y := { l.getD v.toNat default with a := s }) vn rfl]
      simp +contextual -dsimp -implicitDefEqProofs (maxSteps := 5000000) only [go_sem, reduceIte, reduceCtorEq, Nat.reduceEqDiff, Nat.reduceBEq, Nat.reduceAdd, Nat.reduceLeDiff, Nat.reduceMul, Nat.reduceLT, Int.reduceEq, Int.reduceLT, Int.reduceLE, c0, c1, c2, p1, p2, q1, q2, q3, q4, s1, s2, s3, s4, s5, s6, v0, vl, vn]
      refine fin (l.set v.toNat { l.getD v.toNat default with a := s }) 0 l.length clx K5 _ (by simp) h24 (rdk_mono hK5 (by omega)) rfl rfl
    by_cases c3 : z = 3
    · simp +contextual -dsimp -implicitDefEqProofs (maxSteps := 5000000) only [go_sem, reduceIte, reduceCtorEq, Nat.reduceEqDiff, Nat.reduceBEq, Nat.reduceAdd, Nat.reduceLeDiff, Nat.reduceMul, Nat.reduceLT, Int.reduceEq, Int.reduceLT, Int.reduceLE, c0, c1, c2, c3, p1, p2, q1, q2, q3, q4, s1, s2, s3, s4, s5, s6]
      refine ⟨Nat.le_refl _, ?_⟩
      have h1i : (1 : Int) ≤ l.length := by omega
      rw [delx _ _ _ hbx, htk]
      simp +contextual -dsimp -implicitDefEqProofs (maxSteps := 5000000) only [go_sem, reduceIte, reduceCtorEq, Nat.reduceEqDiff, Nat.reduceBEq, Nat.reduceAdd, Nat.reduceLeDiff, Nat.reduceMul, Nat.reduceLT, Int.reduceEq, Int.reduceLT, Int.reduceLE, h1i, c0, c1, c2, c3, p1, p2, q1, q2, q3, q4, s1, s2, s3, s4, s5, s6]
      refine finV (l.drop 1) clx K4 _ (by simp; omega) (rdk_mono hK4 (by omega)) rfl rfl
    · simp +contextual -dsimp -implicitDefEqProofs (maxSteps := 5000000) only [go_sem, reduceIte, reduceCtorEq, Nat.reduceEqDiff, Nat.reduceBEq, Nat.reduceAdd, Nat.reduceLeDiff, Nat.reduceMul, Nat.reduceLT, Int.reduceEq, Int.reduceLT, Int.reduceLE, c0, c1, c2, c3, p1, p2, q1, q2, q3, q4, s1, s2, s3, s4, s5, s6]
      refine ⟨Nat.le_refl _, ?_⟩
      rw [delx _ _ _ hbx]
      simp +contextual -dsimp -implicitDefEqProofs (maxSteps := 5000000) only [go_sem, reduceIte, reduceCtorEq, Nat.reduceEqDiff, Nat.reduceBEq, Nat.reduceAdd, Nat.reduceLeDiff, Nat.reduceMul, Nat.reduceLT, Int.reduceEq, Int.reduceLT, Int.reduceLE, htk, c0, c1, c2, c3, p1, p2, q1, q2, q3, q4, s1, s2, s3, s4, s5, s6]
      refine finV l clx K4 _ h24 (rdk_mono hK4 (by omega)) rfl rfl
theorem c_someProgram (F : AHeap) (br n : Nat) (K : ABlk) (h : RdK n K) (hF : F br = none) (hn : n < 400000000) : ACalls Tryz.prog 51 [.ptr br 2 0 0] (F.set br K) fun r H' =>
    ∃ t cl, ∃ l : List Line, ∃ cl' K', r = .tup [aTree t cl, .vsl (l.map rLine) cl'] ∧ H' = F.set br K' ∧ RdK (n + 1000000) K' ∧ t.length ≤ 8 ∧ shortNames t ∧ l.length ≤ 24 := by
  refine acalls_fz (c_someProgram0 F br n K h hF hn) ?_
  rintro _ _ ⟨t, cl, x, l, cl', G, K', rfl, hz, hle, rfl, hK, ht, hs, hl⟩
  exact ⟨_, F.set br K', le_ch hle, fz_tup (.cons (.same _) (.cons hz .nil)), t, cl, l, cl', K', rfl, rfl, hK, ht, hs, hl⟩
end
section
open Go Go.Sim
set_option maxRecDepth 100000
set_option maxHeartbeats 4000000
theorem c_DrawRunProgram (F : AHeap) (bs : List UInt8) (cb : Bool) : ACalls Tryz.prog 38 [.vsl (bs.map rU) cb] F fun r H' =>
    ∃ t cl, ∃ l : List Line, ∃ cl', r = .tup [aTree t cl, .vsl (l.map rLine) cl'] ∧ H' = F ∧ shortNames t ∧ t.length ≤ 8 ∧ l.length ≤ 24 := by
  refine acalls_of1 Tryz.func38 rfl (by kernel_rfl) rfl rfl (awp_sound (fz := fun _ => []) (im := fun _ => false) mixed _ _ _ _ (by kernel_rfl) ?_)
  simp +contextual -dsimp -implicitDefEqProofs (maxSteps := 5000000) only [go_sem, reduceIte, reduceCtorEq, Nat.reduceEqDiff, Nat.reduceBEq, Nat.reduceAdd, Nat.reduceLeDiff, Nat.reduceMul, Nat.reduceLT, Int.reduceEq, Int.reduceLT, Int.reduceLE]
  rintro b2 h2
  refine (c_newReader bs cb _).mono ?_
  rintro _ H' ⟨br, rfl, hR⟩
  obtain ⟨K1, hK1, rfl⟩ := rd_to hR
  have f4 : ∀ K2, (F.set b2 K2) br = none := by
    have q := hR; obtain ⟨_, _, _, _, _, q, _⟩ := q
    rw [set_none] at q
    intro K2; rw [set_none]; exact q
  have q1 := f4 ⟨1, 0, []⟩
  rw [set_none] at q1
  obtain ⟨u1, u2, hr⟩ := q1
  simp +contextual -dsimp -implicitDefEqProofs (maxSteps := 5000000) only [go_sem, reduceIte, reduceCtorEq, Nat.reduceEqDiff, Nat.reduceBEq, Nat.reduceAdd, Nat.reduceLeDiff, Nat.reduceMul, Nat.reduceLT, Int.reduceEq, Int.reduceLT, Int.reduceLE]
  refine (c_someProgram _ br 0 K1 hK1 (f4 _) (by omega)).mono ?_
  rintro _ _ ⟨t, cl, l, cl', K2, rfl, rfl, hK2, ht8, hs, hl⟩
  simp +contextual -dsimp -implicitDefEqProofs (maxSteps := 5000000) only [go_sem, reduceIte, reduceCtorEq, Nat.reduceEqDiff, Nat.reduceBEq, Nat.reduceAdd, Nat.reduceLeDiff, Nat.reduceMul, Nat.reduceLT, Int.reduceEq, Int.reduceLT, Int.reduceLE, u1, u2]
  refine retR_less (l := [aTree t cl, .vsl (l.map rLine) cl']) (H' := F) ?_ (le_s1 (le_s1 (AHeap.le_refl _) h2) hr) ⟨t, cl, l, cl', rfl, rfl, hs, ht8, hl⟩
  simp only [resA, go_sem, reduceIte, reduceCtorEq, Nat.reduceEqDiff, Nat.reduceBEq, Nat.reduceAdd, Nat.reduceLeDiff, Nat.reduceMul, Nat.reduceLT, Int.reduceEq, Int.reduceLT, Int.reduceLE, u1, u2]
end
end
end Go.Proofs.YtbjgilehnlpmaaaGreat
