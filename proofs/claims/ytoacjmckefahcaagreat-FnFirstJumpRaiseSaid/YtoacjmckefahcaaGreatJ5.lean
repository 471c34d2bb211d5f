/- Walks and plain laws that the claims of this seat lean on. No condition. -/
import Derived.Test.YtoacjmckefahcaaGreatJ4
import Derived.Test.YtoacjmckefahcaaGreatJ1
import Derived.Test.YtoacjmckefahcaaGreatSimY
set_option linter.unusedVariables false
set_option linter.unusedSimpArgs false
namespace Go.Proofs.YtoacjmckefahcaaGreat
open Go Go.Sim
section
set_option maxRecDepth 100000
attribute [local go_sem ↓] aw_skip aw_ret aw_exit aw_region aw_draw aw_seq aw_block aw_loop aw_cond frz_nil frz_cons sq_normal sq_ret sq_exit exB_normal exB_ret exB_same exB_other retQ_ret retQ_normal ret0_ret ret0_normal ao_nil go1 g_move g_assign g_pick g_build g_load g_binOp g_unOp g_convert g_fieldAddr g_field g_indexAddr g_index g_extract g_lookup g_slice g_nilCheck g_len g_makeFunc h_call h_append h_alloc h_box h_buildSlice h_makeSlice h_store gV i_box i_buildSlice i_move i_assign i_build i_load i_binOp i_unOp i_convert i_fieldAddr i_field i_indexAddr i_index i_extract i_lookup i_makeMap i_mapUpdate i_slice i_nilCheck i_makeFunc i_len i_max i_min i_alloc i_makeSlice i_store i_append i_call i_pick boxI boxA buildSliceI buildSliceA makeSliceA makeMapA allocA storeA p_move p_assign p_pick p_build p_load p_binOp p_unOp p_convert p_fieldAddr p_field p_indexAddr p_index p_extract p_lookup p_makeMap p_mapUpdate p_slice p_nilCheck p_makeFunc p_len p_max p_min p_alloc p_box p_buildSlice p_makeSlice p_store p_append p_call x_nil x_go1 x_g0 x_g1 x_g2 x_g3 x_s0 x_s1 x_s2 x_s3 u_move u_assign u_pick u_build u_load u_binOp u_unOp u_convert u_fieldAddr u_field u_indexAddr u_index u_extract u_lookup u_slice u_nilCheck u_makeFunc u_len u_buildSlice x_s4 x_g4 rq_normal rq_ret rq_exit aw_range
attribute [local go_sem] frzV_sl frzK_some set_none set_other AHeap.set_self set_del set_set cnd_t cnd_f cnd_b retA_one retA_two retA_three retA_four retA_nil gIf_b mrgV_b mrgV_wh mrgV_U gIf_U gIf_wh mrgB_f mrgB_some mrgB_if wh_true wh_false keepA_some keepA_if gD_zero gD_succ gT_some bxA_t bxA_f callA_fn ev_tmp ev_const ev_global ev_func oc_bool oc_int oc_string oc_nil oc_nilptr oc_nilfunc cl_bool cl_int cl_string cl_nil updO_some updO_none upd_same upd_other init_at pickA_b pickA_wh selA_t selA_f selA_and selA_or selA_orn selA_orm selA_bb selA_ii beqt b_add b_sub b_mul b_and b_or b_xor b_eql b_neq b_lss b_leq b_gtr b_geq b_quo b_rem b_shr b_seql b_sneq b_sadd b_beql b_bneq b_aeql b_aneq u_not u_neg isConstOp eqA eqCellV List.getD_cons_zero List.getD_cons_succ List.map_cons List.map_nil List.nil_append List.cons_append List.append_nil if_true if_false Option.map_some Option.map_none ne_eq not_false_eq_true oneA ldv ld1v ld1s wr1s ldRow stRow row_lit row_agg row_vsl row_sl row_ptr row_fn one_I one_B one_S one_vsl one_sl one_ptr one_fn extractA okA rI rS rU rClass rFault rExit rStart rLine Int.toNat_natCast List.length_cons List.length_nil List.length_map List.all_cons List.all_nil Bool.and_true Nat.zero_add List.getElem?_cons_zero List.getElem?_cons_succ List.take_succ_cons List.take_zero List.drop_succ_cons List.drop_zero and_self true_and and_true implies_true decide_eq_true_eq decide_eq_false_iff_not Bool.or_eq_true Bool.or_eq_false_iff Bool.and_eq_true Bool.not_eq_true' Bool.not_eq_false' beq_false decide_true decide_false Int.ofNat_lt Int.ofNat_le Int.natCast_nonneg Bool.or_true Bool.or_false Bool.true_or Bool.false_or beq_self_eq_true List.drop_one Bool.not_true Bool.not_false Bool.not_not Bool.false_eq_true Bool.true_eq_false false_implies true_implies Bool.true_and Bool.false_and Bool.and_false not_true_eq_false Int.natCast_eq_zero Int.natCast_pos Int.natCast_zero false_and and_false or_false false_or or_true true_or Bool.or_self none_le_iff List.replicate_zero Int.toNat_zero List.replicate_succ buildRows List.set_cons_zero List.set_cons_succ List.set_nil List.mapM_nil maxLen_eq Nat.zero_le Nat.mul_one Nat.one_mul bldA fillA spliceA List.take_nil List.drop_nil List.getElem?_nil ld1o wr1o bldSliceA le_same cv_i cvI_t quietT_fn qvd_some ld_o ldO_1 ldO_l wr_o wrO_1 set_2 set_3 set_4 putL_nil putL_cons List.zip_cons_cons List.zip_nil_left List.zip_nil_right List.toList_toArray frzV_set ti1 ti2 tk2 ti3 te3 ts3 tk3 tz3 ti4 tb4 ti5 tk5 tz5 ti9 te9 ts9 tk9 tz9 ti12 tk12 ti13 tp13 tf13_0 tf13_1 ti20 ti21 tk21 tz21 ti22 te22 tz22 ti23 te23 ti24 tp24 tf24_0 ti25 tp25 tf25_0 ti26 te26 ti28 ti29 ti30 ti31 ti32 ti33 te33 ti34 te34 ti35 tp35 tf35_0 ti36 tp36 tf36_0 ti37 tp37 tf37_0 tf37_1 tf37_2 tf37_3 ti38 tp38 tf38_0 tf38_1 tf38_2 tf38_3 ti39 ti40 ti41 ti42 ti43 tq43 tp43 tf43_0 tf43_1 tf43_2 tf43_3 ti44 tq44 tp44 tf44_0 tf44_1 tf44_2 tf44_3 ti45 ti46 ti47 ti48 ti49 ti50 ti51 tq51 tp51 tf51_0 tf51_1 tf51_2 ti52 tq52 tp52 tf52_0 tf52_1 tf52_2 ti54 ti55 ti56 ti57 ti58 ti59 ti60 ti61 ti62 ti63 ti64 ti65 ti66 ti67 ti68 ti69 ti70 tq70 tp70 tf70_0 tf70_1 ti71 tq71 tp71 tf71_0 tf71_1 ti72 ti73 ti74 ti75 ti76 ti77 ti78 ti79 tp79 tf79_0 tf79_1 tf79_2 tf79_3 tf79_4 ti80 tp80 tf80_0 tf80_1 tf80_2 tf80_3 tf80_4 ti81 ti83 ti84 ti85 ti86 tq86 tp86 tf86_0 tf86_1 tf86_2 tf86_3 tf86_4 ti87 tq87 tp87 tf87_0 tf87_1 tf87_2 tf87_3 tf87_4 ti88 ti89 ti90 ti91 ti92 tp92 tf92_0 tf92_1 ti93 tp93 tf93_0 tf93_1 ti94 ti95 ti96 ti97 tq97 tp97 tf97_0 tf97_1 ti98 tq98 tp98 tf98_0 tf98_1 ti99 ti100 ti101 ti103 ti104 ti105 ti106 ti107 ti108 ti109 ti110 ti111 te111 ti112 ti113 ti114 ti115 ti116 ti117 ti118 ti119 ti120 ti121 ti122 ti123 ti124 ti125 ti126 ti127 tk127 tz127 ti128 ti129 ti130 tk130 ti132 ti133 ti134 ti136 ti137 ti138 tk138 tz138 ti139 ti140 tk140 tz140 ti141 tk141 ti142 ti143 ti144 ti145 ti146 ti147 ti148 ti149 ti155 ti159 fp13_0 fv13_0 fp13_1 fv13_1 fp24_0 fv24_0 fp25_0 fv25_0 fp35_0 fv35_0 fp36_0 fv36_0 fp37_0 fv37_0 fp37_1 fv37_1 fp37_2 fv37_2 fp37_3 fv37_3 fp38_0 fv38_0 fp38_1 fv38_1 fp38_2 fv38_2 fp38_3 fv38_3 fp43_0 fv43_0 fp43_1 fv43_1 fp43_2 fv43_2 fp43_3 fv43_3 fp44_0 fv44_0 fp44_1 fv44_1 fp44_2 fv44_2 fp44_3 fv44_3 fp51_0 fv51_0 fp51_1 fv51_1 fp51_2 fv51_2 fp52_0 fv52_0 fp52_1 fv52_1 fp52_2 fv52_2 fp70_0 fv70_0 fp70_1 fv70_1 fp71_0 fv71_0 fp71_1 fv71_1 fp79_0 fv79_0 fp79_1 fv79_1 fp79_2 fv79_2 fp79_3 fv79_3 fp79_4 fv79_4 fp80_0 fv80_0 fp80_1 fv80_1 fp80_2 fv80_2 fp80_3 fv80_3 fp80_4 fv80_4 fp86_0 fv86_0 fp86_1 fv86_1 fp86_2 fv86_2 fp86_3 fv86_3 fp86_4 fv86_4 fp87_0 fv87_0 fp87_1 fv87_1 fp87_2 fv87_2 fp87_3 fv87_3 fp87_4 fv87_4 fp92_0 fv92_0 fp92_1 fv92_1 fp93_0 fv93_0 fp93_1 fv93_1 fp97_0 fv97_0 fp97_1 fv97_1 fp98_0 fv98_0 fp98_1 fv98_1 lv22 ll22 is22 ix22 sh22 so22 sb22 sm22 sp22 lv23 ll23 is23 ix23 sh23 so23 sb23 sm23 sp23 lv26 ll26 is26 ix26 sh26 so26 sb26 sm26 sp26 lv33 ll33 is33 ix33 sh33 so33 sb33 sm33 sp33 lv34 ll34 is34 ix34 sh34 so34 sb34 sm34 sp34 lv111 ll111 is111 ix111 sh111 so111 sb111 sm111 sp111 xs9 ls9 sx9 sy9 sz9
section
open Go Go.Sim
set_option maxRecDepth 100000

theorem c_heapHas (h : List Fault) (cl : Bool) (a : Int) (H : AHeap) : ACalls Tryz.prog 95 [aHeap h cl, I a] H fun r H' => r = B (inR a 0 (h.length - 1)) ∧ H' = H := by
  refine acalls_len1 (by kernel_rfl) (List.mem_cons_self ..) fun hl => ?_
  rw [List.length_map] at hl
  refine acalls_of0 Tryz.func95 rfl (by kernel_rfl) rfl rfl (awp_sound (fz := fun _ => []) (im := fun s => s == 2) mixed _ _ _ _ (by kernel_rfl) ?_)
  simp +contextual -dsimp -implicitDefEqProofs (maxSteps := 5000000) only [go_sem, reduceIte, reduceCtorEq, Nat.reduceEqDiff, Nat.reduceBEq, Nat.reduceAdd, Nat.reduceLeDiff, Nat.reduceMul, Nat.reduceLT, Int.reduceEq, Int.reduceLT, Int.reduceLE]
  rw [w64 (by omega) (by omega)]
  exact (c_within _ _ _ _).det (by simp +contextual -dsimp -implicitDefEqProofs (maxSteps := 5000000) only [go_sem, reduceIte, reduceCtorEq, Nat.reduceEqDiff, Nat.reduceBEq, Nat.reduceAdd, Nat.reduceLeDiff, Nat.reduceMul, Nat.reduceLT, Int.reduceEq, Int.reduceLT, Int.reduceLE])
def linkF (n : Nat) (f to : Int) : Bool := decide (to = -1) || (inR to 0 (n - 1) && !decide (to = f))
theorem c_link (h : List Fault) (cl : Bool) (f a : Int) (H : AHeap) : ACalls Tryz.prog 120 [I f, I a, .vptr [[.vsl (h.map rFault) cl]] 0 0] H fun r H' => r = B (linkF h.length f a) ∧ H' = H := by
  refine acalls_of0 Tryz.func120 rfl (by kernel_rfl) rfl rfl (awp_sound (fz := fun _ => []) (im := fun _ => false) mixed _ _ _ _ (by kernel_rfl) ?_)
  by_cases h1 : a = -1
  · simp +contextual -dsimp -implicitDefEqProofs (maxSteps := 5000000) only [go_sem, reduceIte, reduceCtorEq, Nat.reduceEqDiff, Nat.reduceBEq, Nat.reduceAdd, Nat.reduceLeDiff, Nat.reduceMul, Nat.reduceLT, Int.reduceEq, Int.reduceLT, Int.reduceLE, h1, linkF]
  · simp +contextual -dsimp -implicitDefEqProofs (maxSteps := 5000000) only [go_sem, reduceIte, reduceCtorEq, Nat.reduceEqDiff, Nat.reduceBEq, Nat.reduceAdd, Nat.reduceLeDiff, Nat.reduceMul, Nat.reduceLT, Int.reduceEq, Int.reduceLT, Int.reduceLE, h1]
    refine (c_heapHas h cl a H).det ?_
    cases hI : inR a 0 (h.length - 1)
    · simp +contextual -dsimp -implicitDefEqProofs (maxSteps := 5000000) only [go_sem, reduceIte, reduceCtorEq, Nat.reduceEqDiff, Nat.reduceBEq, Nat.reduceAdd, Nat.reduceLeDiff, Nat.reduceMul, Nat.reduceLT, Int.reduceEq, Int.reduceLT, Int.reduceLE, h1, linkF, hI]
    · simp +contextual -dsimp -implicitDefEqProofs (maxSteps := 5000000) only [go_sem, reduceIte, reduceCtorEq, Nat.reduceEqDiff, Nat.reduceBEq, Nat.reduceAdd, Nat.reduceLeDiff, Nat.reduceMul, Nat.reduceLT, Int.reduceEq, Int.reduceLT, Int.reduceLE, h1, linkF, hI]
theorem c_faultsIn1 (h : List Fault) (cl : Bool) (a : Int) (H : AHeap) : ACalls Tryz.prog 94 [I a, .vptr [[.vsl (h.map rFault) cl]] 0 0] H fun r H' => r = B (!inR a 0 (h.length - 1)) ∧ H' = H := by
  refine acalls_of0 Tryz.func94 rfl (by kernel_rfl) rfl rfl (awp_sound (fz := fun _ => []) (im := fun _ => false) mixed _ _ _ _ (by kernel_rfl) ?_)
  simp +contextual -dsimp -implicitDefEqProofs (maxSteps := 5000000) only [go_sem, reduceIte, reduceCtorEq, Nat.reduceEqDiff, Nat.reduceBEq, Nat.reduceAdd, Nat.reduceLeDiff, Nat.reduceMul, Nat.reduceLT, Int.reduceEq, Int.reduceLT, Int.reduceLE]
  refine (c_heapHas h cl a H).det ?_
  simp +contextual -dsimp -implicitDefEqProofs (maxSteps := 5000000) only [go_sem, reduceIte, reduceCtorEq, Nat.reduceEqDiff, Nat.reduceBEq, Nat.reduceAdd, Nat.reduceLeDiff, Nat.reduceMul, Nat.reduceLT, Int.reduceEq, Int.reduceLT, Int.reduceLE]
theorem c_IndexFuncInt (l : List Int) (cl : Bool) (g : FuncId) (caps : List AV) (p : Int → Bool) (H : AHeap)
    (hp : ∀ c, ACalls Tryz.prog g (I c :: caps) H fun r H' => r = B (p c) ∧ H' = H) :
    ACalls Tryz.prog 86 [.vsl (l.map rI) cl, .fn g [] caps] H fun r H' => r = I (idxF p l) ∧ H' = H := by
  refine acalls_len (by kernel_rfl) (List.mem_cons_self ..) fun hl => ?_
  rw [List.length_map] at hl
  refine acalls_of0 Tryz.func86 rfl (by kernel_rfl) rfl rfl (awp_sound (fz := fun _ => []) (im := fun _ => false) mixed _ _ _ _ (by kernel_rfl) ?_)
  simp +contextual -dsimp -implicitDefEqProofs (maxSteps := 5000000) only [go_sem, reduceIte, reduceCtorEq, Nat.reduceEqDiff, Nat.reduceBEq, Nat.reduceAdd, Nat.reduceLeDiff, Nat.reduceMul, Nat.reduceLT, Int.reduceEq, Int.reduceLT, Int.reduceLE]
  refine aloop mixed (fz := fun _ => []) (im := fun _ => false) (by kernel_rfl) (fun m tm H' => ∃ k : Nat, m = l.length - k ∧ k ≤ l.length ∧ H' = H ∧ tm 0 = .vsl (l.map rI) cl ∧ tm 1 = .fn g [] caps ∧ tm 7 = I l.length ∧ tm 8 = I k ∧ (l.take k).any p = false) l.length ⟨0, ?_⟩ ?_
  · simp +contextual -dsimp -implicitDefEqProofs (maxSteps := 5000000) only [go_sem, reduceIte, reduceCtorEq, Nat.reduceEqDiff, Nat.reduceBEq, Nat.reduceAdd, Nat.reduceLeDiff, Nat.reduceMul, Nat.reduceLT, Int.reduceEq, Int.reduceLT, Int.reduceLE]
    simp
  · rintro m tm _ ⟨k, rfl, hk, rfl, h0, h1, h7, h8, hn⟩
    simp +contextual -dsimp -implicitDefEqProofs (maxSteps := 5000000) only [go_sem, reduceIte, reduceCtorEq, Nat.reduceEqDiff, Nat.reduceBEq, Nat.reduceAdd, Nat.reduceLeDiff, Nat.reduceMul, Nat.reduceLT, Int.reduceEq, Int.reduceLT, Int.reduceLE, h0, h1, h7, h8]
    refine ⟨fun h => (hp _).det ?_, fun h => ?_⟩
    · simp +contextual -dsimp -implicitDefEqProofs (maxSteps := 5000000) only [go_sem, reduceIte, reduceCtorEq, Nat.reduceEqDiff, Nat.reduceBEq, Nat.reduceAdd, Nat.reduceLeDiff, Nat.reduceMul, Nat.reduceLT, Int.reduceEq, Int.reduceLT, Int.reduceLE, h0, h1, h7, h8]
      refine ⟨fun hb => ?_, fun hb => ⟨_, ?_, k + 1, rfl, h, I_wrap (by omega) (by omega) (by omega), any_take h hn hb⟩⟩
      · rw [idxF_at h hn hb]
      · omega
    · rw [idxF_none (by omega) hn]
theorem c_ContainsFuncInt (l : List Int) (cl : Bool) (g : FuncId) (caps : List AV) (p : Int → Bool) (H : AHeap)
    (hp : ∀ c, ACalls Tryz.prog g (I c :: caps) H fun r H' => r = B (p c) ∧ H' = H) :
    ACalls Tryz.prog 52 [.vsl (l.map rI) cl, .fn g [] caps] H fun r H' => r = B (l.any p) ∧ H' = H := by
  refine acalls_of0 Tryz.func52 rfl (by kernel_rfl) rfl rfl (awp_sound (fz := fun _ => []) (im := fun _ => false) mixed _ _ _ _ (by kernel_rfl) ?_)
  simp +contextual -dsimp -implicitDefEqProofs (maxSteps := 5000000) only [go_sem, reduceIte, reduceCtorEq, Nat.reduceEqDiff, Nat.reduceBEq, Nat.reduceAdd, Nat.reduceLeDiff, Nat.reduceMul, Nat.reduceLT, Int.reduceEq, Int.reduceLT, Int.reduceLE]
  refine (c_IndexFuncInt l cl g caps p H hp).det ?_
  simp +contextual -dsimp -implicitDefEqProofs (maxSteps := 5000000) only [go_sem, reduceIte, reduceCtorEq, Nat.reduceEqDiff, Nat.reduceBEq, Nat.reduceAdd, Nat.reduceLeDiff, Nat.reduceMul, Nat.reduceLT, Int.reduceEq, Int.reduceLT, Int.reduceLE, idxF_nonneg]
theorem walkG_len (nx : Int → Int) : ∀ (n : Nat) (out : List Int) (f : Int), (walkG nx n out f).length ≤ out.length + n
  | 0, out, f => Nat.le_refl _
  | n + 1, out, f => by
    simp only [walkG]
    split
    · have := walkG_len nx n (out ++ [f]) (nx f)
      simp at this
      omega
    · omega
theorem chainF_len (h : List Fault) (f : Int) : (chainF h f).length ≤ h.length + 1 := by
  have := walkG_len (ctxOf h) (h.length + 1) [] f
  simpa [chainF, walkF] using this
theorem chainF_in {h : List Fault} (hc : ∀ k, k < h.length → (h.getD k default).ctx < h.length) {f : Int} (hf : f < h.length) {a : Int} (ha : a ∈ chainF h f) : 0 ≤ a ∧ a < h.length := by
  have := walkG_mem (nx := ctxOf h) (p := fun a => a < h.length) (fun a a0 a1 => hc a.toNat (by omega)) (h.length + 1) [] f hf a ha
  simpa using this
def lastI (l : List Int) : Int := l.getD (l.length - 1) default
theorem lastI_in {h : List Fault} (hc : ∀ k, k < h.length → (h.getD k default).ctx < h.length) {f : Int} (h0 : 0 ≤ f) (hf : f < h.length) : 0 ≤ lastI (chainF h f) ∧ lastI (chainF h f) < h.length := by
  have hne := List.length_pos_iff.2 (chainF_ne (h := h) h0)
  apply chainF_in hc hf
  have : (chainF h f).length - 1 < (chainF h f).length := by omega
  unfold lastI
  rw [List.getD_eq_getElem?_getD, List.getElem?_eq_getElem this]
  exact List.getElem_mem this
def faultOk (t : List Class) (h : List Fault) (k : Nat) : Bool := hasF t (h.getD k default).cls && inR (h.getD k default).code 0 99 && linkF h.length k (h.getD k default).cause && linkF h.length k (h.getD k default).ctx
def lastOk (h : List Fault) (k : Nat) : Bool := decide (ctxOf h (lastI (chainF h k)) = -1)
def validH (t : List Class) (h : List Fault) : Bool := (List.range h.length).all (faultOk t h) && ((List.range h.length).all (lastOk h) && (validT t && decide (h.length ≤ 24)))
theorem faultOk_links {t : List Class} {h : List Fault} (hv : (List.range h.length).all (faultOk t h) = true) : ∀ k, k < h.length → -1 ≤ (h.getD k default).ctx ∧ (h.getD k default).ctx < h.length ∧ -1 ≤ (h.getD k default).cause ∧ (h.getD k default).cause < h.length := by
  intro k hk
  rw [List.all_eq_true] at hv
  have := hv k (by simp [hk])
  simp only [faultOk, linkF, inR, Bool.and_eq_true, Bool.or_eq_true, decide_eq_true_eq, Bool.not_eq_true'] at this
  omega
theorem range_next {p : Nat → Bool} {k : Nat} (h : (List.range k).all p = true) (e : p k = true) : (List.range (k + 1)).all p = true := by
  rw [List.range_succ, List.all_append, h]; simp [e]
theorem range_bad {p : Nat → Bool} {k n : Nat} (h : k < n) (e : p k = false) : (List.range n).all p = false := by
  rw [List.all_eq_false]; exact ⟨k, by simp [h], by simp [e]⟩
theorem c_ValidHeap (t : List Class) (cl : Bool) (h : List Fault) (cl' : Bool) (H : AHeap) (hn : namesOk t) (hl : h.length ≤ 1000000) : ACalls Tryz.prog 93 [aTree t cl, aHeap h cl'] H fun r H' => r = B (validH t h) ∧ H' = H := by
  refine acalls_of0 Tryz.func93 rfl (by kernel_rfl) rfl rfl (awp_sound (fz := fun r => if r = 4 then [7] else []) (im := fun s => s == 2 || s == 3) mixed _ _ _ _ (by kernel_rfl) ?_)
  simp +contextual -dsimp -implicitDefEqProofs (maxSteps := 5000000) only [go_sem, reduceIte, reduceCtorEq, Nat.reduceEqDiff, Nat.reduceBEq, Nat.reduceAdd, Nat.reduceLeDiff, Nat.reduceMul, Nat.reduceLT, Int.reduceEq, Int.reduceLT, Int.reduceLE]
  refine aloop mixed (fz := fun r => if r = 4 then [7] else []) (im := fun s => s == 2 || s == 3) (by kernel_rfl) (fun m tm H' => ∃ k : Nat, m = h.length - k ∧ k ≤ h.length ∧ H' = H ∧ tm 2 = .vptr [[.vsl (t.map rClass) cl]] 0 0 ∧ tm 3 = .vptr [[.vsl (h.map rFault) cl']] 0 0 ∧ tm 5 = .fn 120 [] [.vptr [[.vsl (h.map rFault) cl']] 0 0] ∧ tm 12 = .vsl (h.map rFault) cl' ∧ tm 13 = I h.length ∧ tm 14 = I k ∧ (List.range k).all (faultOk t h) = true) h.length ⟨0, by omega, by omega, rfl, ?_⟩ ?_
  · simp +contextual -dsimp -implicitDefEqProofs (maxSteps := 5000000) only [go_sem, reduceIte, reduceCtorEq, Nat.reduceEqDiff, Nat.reduceBEq, Nat.reduceAdd, Nat.reduceLeDiff, Nat.reduceMul, Nat.reduceLT, Int.reduceEq, Int.reduceLT, Int.reduceLE]
    rfl
  · rintro m tm H ⟨k, rfl, hk, rfl, h2, h3, h5, h12, h13, h14, hv⟩
    by_cases hlt : k < h.length
    · have bad : faultOk t h k = false → validH t h = false := fun e => by unfold validH; rw [range_bad hlt e]; rfl
      unfold faultOk at bad
      simp +contextual -dsimp -implicitDefEqProofs (maxSteps := 5000000) only [go_sem, reduceIte, reduceCtorEq, Nat.reduceEqDiff, Nat.reduceBEq, Nat.reduceAdd, Nat.reduceLeDiff, Nat.reduceMul, Nat.reduceLT, Int.reduceEq, Int.reduceLT, Int.reduceLE, h2, h3, h5, h12, h13, h14, hlt]
      intro b hb
      refine (c_has t cl _ _).det ?_
      cases e1 : hasF t (h.getD k default).cls
      · simp +contextual -dsimp -implicitDefEqProofs (maxSteps := 5000000) only [go_sem, reduceIte, reduceCtorEq, Nat.reduceEqDiff, Nat.reduceBEq, Nat.reduceAdd, Nat.reduceLeDiff, Nat.reduceMul, Nat.reduceLT, Int.reduceEq, Int.reduceLT, Int.reduceLE, h2, h3, h5, h12, h13, h14, hlt]
        rw [bad (by simp only [e1, Bool.false_and])]
      · simp +contextual -dsimp -implicitDefEqProofs (maxSteps := 5000000) only [go_sem, reduceIte, reduceCtorEq, Nat.reduceEqDiff, Nat.reduceBEq, Nat.reduceAdd, Nat.reduceLeDiff, Nat.reduceMul, Nat.reduceLT, Int.reduceEq, Int.reduceLT, Int.reduceLE, h2, h3, h5, h12, h13, h14, hlt]
        refine (c_codeOk _ _).det ?_
        cases e2 : inR (h.getD k default).code 0 99
        · simp +contextual -dsimp -implicitDefEqProofs (maxSteps := 5000000) only [go_sem, reduceIte, reduceCtorEq, Nat.reduceEqDiff, Nat.reduceBEq, Nat.reduceAdd, Nat.reduceLeDiff, Nat.reduceMul, Nat.reduceLT, Int.reduceEq, Int.reduceLT, Int.reduceLE, h2, h3, h5, h12, h13, h14, hlt]
          rw [bad (by simp only [e1, e2, Bool.false_and, Bool.and_false])]
        · simp +contextual -dsimp -implicitDefEqProofs (maxSteps := 5000000) only [go_sem, reduceIte, reduceCtorEq, Nat.reduceEqDiff, Nat.reduceBEq, Nat.reduceAdd, Nat.reduceLeDiff, Nat.reduceMul, Nat.reduceLT, Int.reduceEq, Int.reduceLT, Int.reduceLE, h2, h3, h5, h12, h13, h14, hlt]
          refine (c_link h cl' _ _ _).det ?_
          cases e3 : linkF h.length k (h.getD k default).cause
          · simp +contextual -dsimp -implicitDefEqProofs (maxSteps := 5000000) only [go_sem, reduceIte, reduceCtorEq, Nat.reduceEqDiff, Nat.reduceBEq, Nat.reduceAdd, Nat.reduceLeDiff, Nat.reduceMul, Nat.reduceLT, Int.reduceEq, Int.reduceLT, Int.reduceLE, h2, h3, h5, h12, h13, h14, hlt]
            rw [bad (by simp only [e1, e2, e3, Bool.false_and, Bool.and_false])]
          · simp +contextual -dsimp -implicitDefEqProofs (maxSteps := 5000000) only [go_sem, reduceIte, reduceCtorEq, Nat.reduceEqDiff, Nat.reduceBEq, Nat.reduceAdd, Nat.reduceLeDiff, Nat.reduceMul, Nat.reduceLT, Int.reduceEq, Int.reduceLT, Int.reduceLE, h2, h3, h5, h12, h13, h14, hlt]
            refine (c_link h cl' _ _ _).det ?_
            cases e4 : linkF h.length k (h.getD k default).ctx
            · simp +contextual -dsimp -implicitDefEqProofs (maxSteps := 5000000) only [go_sem, reduceIte, reduceCtorEq, Nat.reduceEqDiff, Nat.reduceBEq, Nat.reduceAdd, Nat.reduceLeDiff, Nat.reduceMul, Nat.reduceLT, Int.reduceEq, Int.reduceLT, Int.reduceLE, h2, h3, h5, h12, h13, h14, hlt]
              rw [bad (by simp only [e4, Bool.and_false])]
            · simp +contextual -dsimp -implicitDefEqProofs (maxSteps := 5000000) only [go_sem, reduceIte, reduceCtorEq, Nat.reduceEqDiff, Nat.reduceBEq, Nat.reduceAdd, Nat.reduceLeDiff, Nat.reduceMul, Nat.reduceLT, Int.reduceEq, Int.reduceLT, Int.reduceLE, h2, h3, h5, h12, h13, h14, hlt]
              exact ⟨_, by omega, k + 1, rfl, hlt, I_wrap (by omega) (by omega) (by omega), range_next hv (by simp only [faultOk, e1, e2, e3, e4, Bool.and_self])⟩
    · simp +contextual -dsimp -implicitDefEqProofs (maxSteps := 5000000) only [go_sem, reduceIte, reduceCtorEq, Nat.reduceEqDiff, Nat.reduceBEq, Nat.reduceAdd, Nat.reduceLeDiff, Nat.reduceMul, Nat.reduceLT, Int.reduceEq, Int.reduceLT, Int.reduceLE, h2, h3, h5, h12, h13, h14, hlt]
      have hkl : k = h.length := by omega
      subst hkl
      have hlk := faultOk_links hv
      refine aloop mixed (fz := fun r => if r = 4 then [7] else []) (im := fun s => s == 2 || s == 3) (by kernel_rfl) (fun m tm H' => ∃ k : Nat, m = h.length - k ∧ k ≤ h.length ∧ H' = H ∧ tm 2 = .vptr [[.vsl (t.map rClass) cl]] 0 0 ∧ tm 3 = .vptr [[.vsl (h.map rFault) cl']] 0 0 ∧ tm 49 = I h.length ∧ tm 50 = I k ∧ (List.range k).all (lastOk h) = true) h.length ⟨0, by omega, by omega, rfl, ?_⟩ ?_
      · simp +contextual -dsimp -implicitDefEqProofs (maxSteps := 5000000) only [go_sem, reduceIte, reduceCtorEq, Nat.reduceEqDiff, Nat.reduceBEq, Nat.reduceAdd, Nat.reduceLeDiff, Nat.reduceMul, Nat.reduceLT, Int.reduceEq, Int.reduceLT, Int.reduceLE, h2, h3]
        rfl
      · rintro m tm H ⟨k, rfl, hk, rfl, g2, g3, g49, g50, hw⟩
        by_cases hlt : k < h.length
        · simp +contextual -dsimp -implicitDefEqProofs (maxSteps := 5000000) only [go_sem, reduceIte, reduceCtorEq, Nat.reduceEqDiff, Nat.reduceBEq, Nat.reduceAdd, Nat.reduceLeDiff, Nat.reduceMul, Nat.reduceLT, Int.reduceEq, Int.reduceLT, Int.reduceLE, g2, g3, g49, g50, hlt]
          refine acalls_frz (c_contexts h cl' k H hl (by omega) (fun k hk => (hlk k hk).2.1)) fun cl1 => ?_
          simp +contextual -dsimp -implicitDefEqProofs (maxSteps := 5000000) only [go_sem, reduceIte, reduceCtorEq, Nat.reduceEqDiff, Nat.reduceBEq, Nat.reduceAdd, Nat.reduceLeDiff, Nat.reduceMul, Nat.reduceLT, Int.reduceEq, Int.reduceLT, Int.reduceLE, g2, g3, g49, g50, hlt]
          have c1 := List.length_pos_iff.2 (chainF_ne (h := h) (g := k) (by omega))
          have c2 := chainF_len h k
          have c3 := lastI_in (fun k hk => (hlk k hk).2.1) (f := k) (by omega) (by omega)
          have hw1 : IntKind.i64.wrap (((chainF h k).length : Int) - 1) = (((chainF h k).length - 1 : Nat) : Int) := by
            have := I_wrap (a := ((chainF h k).length : Int) - 1) (b := (((chainF h k).length - 1 : Nat) : Int)) (by omega) (by omega) (by omega)
            injection this with q
            injection q
          have c4 : (chainF h k).length - 1 < (chainF h k).length := by omega
          refine draw_intro [0, 0, 0, 0, 0, 0, 0, 0, 0, 0, 0, 0] AHeap.none (by kernel_rfl) none_le ?_
          simp +contextual -dsimp -implicitDefEqProofs (maxSteps := 5000000) only [go_sem, reduceIte, reduceCtorEq, Nat.reduceEqDiff, Nat.reduceBEq, Nat.reduceAdd, Nat.reduceLeDiff, Nat.reduceMul, Nat.reduceLT, Int.reduceEq, Int.reduceLT, Int.reduceLE, g2, g3, g49, g50, hlt, hw1, c1, c4, c3]
          have bad : lastOk h k = false → validH t h = false := fun e => by simp [validH, range_bad hlt e]
          unfold lastOk ctxOf lastI at bad
          unfold lastI at c3
          exact ⟨⟨c3.1, c3.2⟩, by omega, fun hne => by rw [bad (decide_eq_false hne)], fun he => ⟨_, by omega, k + 1, rfl, hlt, I_wrap (by omega) (by omega) (by omega), range_next hw (decide_eq_true he)⟩⟩
        · simp +contextual -dsimp -implicitDefEqProofs (maxSteps := 5000000) only [go_sem, reduceIte, reduceCtorEq, Nat.reduceEqDiff, Nat.reduceBEq, Nat.reduceAdd, Nat.reduceLeDiff, Nat.reduceMul, Nat.reduceLT, Int.reduceEq, Int.reduceLT, Int.reduceLE, g2, g3, g49, g50, hlt]
          have hkl : k = h.length := by omega
          subst hkl
          refine (c_ValidTree t cl _ hn).det ?_
          cases e1 : validT t
          · simp +contextual -dsimp -implicitDefEqProofs (maxSteps := 5000000) only [go_sem, reduceIte, reduceCtorEq, Nat.reduceEqDiff, Nat.reduceBEq, Nat.reduceAdd, Nat.reduceLeDiff, Nat.reduceMul, Nat.reduceLT, Int.reduceEq, Int.reduceLT, Int.reduceLE, g2, g3]
            simp [validH, e1]
          · simp +contextual -dsimp -implicitDefEqProofs (maxSteps := 5000000) only [go_sem, reduceIte, reduceCtorEq, Nat.reduceEqDiff, Nat.reduceBEq, Nat.reduceAdd, Nat.reduceLeDiff, Nat.reduceMul, Nat.reduceLT, Int.reduceEq, Int.reduceLT, Int.reduceLE, g2, g3]
            simp only [validH, hv, hw, e1, Bool.true_and]
            exact congrArg B (decide_eq_decide.2 (by omega))
theorem c_faultsIn (t : List Class) (cl : Bool) (h : List Fault) (cl' : Bool) (l : List Int) (cl2 : Bool) (H : AHeap) (hn : namesOk t) (hl : h.length ≤ 1000000) : ACalls Tryz.prog 62 [aTree t cl, aHeap h cl', .vsl (l.map rI) cl2] H fun r H' => r = B (validH t h && l.all fun f => inR f 0 (h.length - 1)) ∧ H' = H := by
  refine acalls_of0 Tryz.func62 rfl (by kernel_rfl) rfl rfl (awp_sound (fz := fun _ => []) (im := fun s => s == 3 || s == 4) mixed _ _ _ _ (by kernel_rfl) ?_)
  simp +contextual -dsimp -implicitDefEqProofs (maxSteps := 5000000) only [go_sem, reduceIte, reduceCtorEq, Nat.reduceEqDiff, Nat.reduceBEq, Nat.reduceAdd, Nat.reduceLeDiff, Nat.reduceMul, Nat.reduceLT, Int.reduceEq, Int.reduceLT, Int.reduceLE]
  refine (c_ValidHeap t cl h cl' _ hn hl).det ?_
  cases e1 : validH t h
  · simp +contextual -dsimp -implicitDefEqProofs (maxSteps := 5000000) only [go_sem, reduceIte, reduceCtorEq, Nat.reduceEqDiff, Nat.reduceBEq, Nat.reduceAdd, Nat.reduceLeDiff, Nat.reduceMul, Nat.reduceLT, Int.reduceEq, Int.reduceLT, Int.reduceLE]
  · simp +contextual -dsimp -implicitDefEqProofs (maxSteps := 5000000) only [go_sem, reduceIte, reduceCtorEq, Nat.reduceEqDiff, Nat.reduceBEq, Nat.reduceAdd, Nat.reduceLeDiff, Nat.reduceMul, Nat.reduceLT, Int.reduceEq, Int.reduceLT, Int.reduceLE]
    refine (c_ContainsFuncInt l cl2 _ _ (fun f => !inR f 0 (h.length - 1)) _ (fun c => c_faultsIn1 h cl' c _)).det ?_
    simp +contextual -dsimp -implicitDefEqProofs (maxSteps := 5000000) only [go_sem, reduceIte, reduceCtorEq, Nat.reduceEqDiff, Nat.reduceBEq, Nat.reduceAdd, Nat.reduceLeDiff, Nat.reduceMul, Nat.reduceLT, Int.reduceEq, Int.reduceLT, Int.reduceLE]
    congr 1
    rw [Bool.eq_iff_iff]
    simp
end
section
open Go Go.Sim
set_option maxRecDepth 100000
set_option maxHeartbeats 4000000

/-- A function that draws lines into a block of their own. -/
def Drawn (f : FuncId) (p : Nat) (d : Int) : Prop := ∀ (F : AHeap) (br n : Nat) (K : ABlk) (t : List Class) (cl : Bool) (lp : Bool), RdK n K → F br = none → n + p < 600000000 →
  ACalls Tryz.prog f [.ptr br 2 0 0, aTree t cl, I d, B lp] (F.set br K) fun r H' => ∃ (l : List Line) (G : AHeap) (K' : ABlk), Grow rLine 4 44 F G r l ∧ G br = none ∧ H' = G.set br K' ∧ RdK (n + p) K' ∧ 1 ≤ l.length ∧ l.length ≤ p
/-- The same, told when nobody writes them any more. -/
def DrawnF (f : FuncId) (p : Nat) (d : Int) : Prop := ∀ (F : AHeap) (br n : Nat) (K : ABlk) (t : List Class) (cl : Bool) (lp : Bool), RdK n K → F br = none → n + p < 600000000 →
  ACalls Tryz.prog f [.ptr br 2 0 0, aTree t cl, I d, B lp] (F.set br K) fun r H' => ∃ (l : List Line) (cl' : Bool) (K' : ABlk), r = .vsl (l.map rLine) cl' ∧ H' = F.set br K' ∧ RdK (n + p) K' ∧ 1 ≤ l.length ∧ l.length ≤ p
theorem Drawn.frz {f : FuncId} {p : Nat} {d : Int} (h : Drawn f p d) : DrawnF f p d := by
  intro F br n K t cl lp hK hF hn
  refine acalls_fz (h F br n K t cl lp hK hF hn) ?_
  rintro x _ ⟨l, G, K', hg, hr, rfl, hK', h1, h2⟩
  have hg' := grow_in (K := K') hg hr
  obtain ⟨cl', hz⟩ := grow_fz hg'
  exact ⟨_, F.set br K', grow_le hg', hz, l, cl', K', rfl, rfl, hK', h1, h2⟩
/-- Lines put behind a line that stands alone. -/
theorem app_lit {H : AHeap} {y : Line} {l : List Line} {cl : Bool} {d : AV} {K : AV → AHeap → Prop} {g : Tag (H, K)} (hd : d = .vsl [rLine y] true) (hl : 1 ≤ l.length) (hb : l.length ≤ 1000000) (k : ∀ x' H', Grow rLine 4 44 H H' x' (y :: l) → K x' H') : appT Tryz.prog H 26 d (.vsl (l.map rLine) cl) K g := by
  subst hd
  show appendA Tryz.prog H 26 (.vsl [rLine y] true) (.vsl (l.map rLine) cl) K
  have hmax : maxLen = 9223372036854775807 := rfl
  unfold appendA
  simp only [te26, ti44, rowsOf]
  refine ⟨by decide, fun r hr => by simp at hr; obtain ⟨y, _, rfl⟩ := hr; rfl, fun r hr => by simp at hr; subst hr; rfl, by simp; omega, by simp; omega, fun e => ?_, fun e => ⟨trivial, fun b' hb' => ?_⟩⟩
  · have : l = [] := by simpa using e
    rw [this] at hl; simp at hl
  · refine k _ _ (.inr ⟨b', false, hb', by simp [Nat.add_comm], by simp⟩)
theorem c_aBlock {d : Int} {p : Nat} (hp : p ≤ 300000) (hS : DrawnF 122 p d) : Drawn 99 (1 + 3 * p) d := by
  intro F br n K t cl lp hK hF hn
  refine acalls_of1 Tryz.func99 rfl (by kernel_rfl) rfl rfl (awp_sound (fz := fun _ => []) (im := fun s => s == 5 || s == 11 || s == 13) mixed _ _ _ _ (by kernel_rfl) ?_)
  simp +contextual -dsimp -implicitDefEqProofs (maxSteps := 5000000) only [go_sem, reduceIte, reduceCtorEq, Nat.reduceEqDiff, Nat.reduceBEq, Nat.reduceAdd, Nat.reduceLeDiff, Nat.reduceMul, Nat.reduceLT, Int.reduceEq, Int.reduceLT, Int.reduceLE]
  refine k_one [1, 2, 1, 2, 3] _ hK hF (by omega) (by simp) rfl rfl fun v K1 hv hK1 => ?_
  have hv3 : 1 ≤ v ∧ v ≤ 3 := by simp at hv; omega
  simp +contextual -dsimp -implicitDefEqProofs (maxSteps := 5000000) only [go_sem, reduceIte, reduceCtorEq, Nat.reduceEqDiff, Nat.reduceBEq, Nat.reduceAdd, Nat.reduceLeDiff, Nat.reduceMul, Nat.reduceLT, Int.reduceEq, Int.reduceLT, Int.reduceLE]
  refine aloop mixed (fz := fun _ => []) (im := fun s => s == 5 || s == 11 || s == 13) (by kernel_rfl) (fun m tm H' => ∃ (l : List Line) (G : AHeap) (x : AV) (K : ABlk) (i : Nat), m = (v - i).toNat ∧ i ≤ v ∧ Grow rLine 4 44 F G x l ∧ G br = none ∧ RdK (n + 1 + i * p) K ∧ i ≤ l.length ∧ l.length ≤ i * p ∧ H' = G.set br K ∧ tm 0 = .ptr br 2 0 0 ∧ tm 5 = .vptr [[.vsl (t.map rClass) cl]] 0 0 ∧ tm 2 = I d ∧ tm 3 = B lp ∧ tm 9 = x ∧ tm 10 = I (v - i)) v.toNat ⟨[], F, .vsl [] true, K1, 0, by simp, by omega, grow_nil, hF, by simpa using hK1, by simp, by simp, rfl, ?_⟩ ?_
  · simp +contextual -dsimp -implicitDefEqProofs (maxSteps := 5000000) only [go_sem, reduceIte, reduceCtorEq, Nat.reduceEqDiff, Nat.reduceBEq, Nat.reduceAdd, Nat.reduceLeDiff, Nat.reduceMul, Nat.reduceLT, Int.reduceEq, Int.reduceLT, Int.reduceLE]
    simp
  · rintro m tm H' ⟨l, G, x, K, i, rfl, hiv, hg, fr, hK, hl1, hl2, rfl, t0, t5, t2, t3, t9, t10⟩
    have hm3 : i * p ≤ 3 * p := Nat.mul_le_mul_right p (by omega)
    have hs : (i + 1) * p = i * p + p := Nat.succ_mul i p
    by_cases hlt : (0 : Int) < v - i
    · simp +contextual -dsimp -implicitDefEqProofs (maxSteps := 5000000) only [go_sem, reduceIte, reduceCtorEq, Nat.reduceEqDiff, Nat.reduceBEq, Nat.reduceAdd, Nat.reduceLeDiff, Nat.reduceMul, Nat.reduceLT, Int.reduceEq, Int.reduceLT, Int.reduceLE, t0, t2, t3, t5, t9, t10, hlt]
      have hm4 : (i + 1) * p ≤ 3 * p := Nat.mul_le_mul_right p (by omega)
      refine (hS G br _ K t cl lp hK fr (by omega)).mono ?_
      rintro _ H' ⟨l2, cl2, K2, rfl, rfl, hK2, h1, h2⟩
      simp +contextual -dsimp -implicitDefEqProofs (maxSteps := 5000000) only [go_sem, reduceIte, reduceCtorEq, Nat.reduceEqDiff, Nat.reduceBEq, Nat.reduceAdd, Nat.reduceLeDiff, Nat.reduceMul, Nat.reduceLT, Int.reduceEq, Int.reduceLT, Int.reduceLE, t0, t2, t3, t5, t9, t10, hlt]
      refine app_lines (m := l2) (grow_in hg fr) (by omega) rfl fun x' H' hg' => ?_
      obtain ⟨G1, hg1, rfl, u1⟩ := grow_out hg' (grow_none hg fr)
      simp +contextual -dsimp -implicitDefEqProofs (maxSteps := 5000000) only [go_sem, reduceIte, reduceCtorEq, Nat.reduceEqDiff, Nat.reduceBEq, Nat.reduceAdd, Nat.reduceLeDiff, Nat.reduceMul, Nat.reduceLT, Int.reduceEq, Int.reduceLT, Int.reduceLE, t0, t2, t3, t5, t9, t10, hlt]
      exact ⟨_, by omega, l ++ l2, G1, x', K2, i + 1, rfl, by omega, hg1, u1, rdk_mono hK2 (by omega), by simp; omega, by simp; omega, rfl, rfl, I_wrap (by omega) (by omega) (by omega)⟩
    · simp +contextual -dsimp -implicitDefEqProofs (maxSteps := 5000000) only [go_sem, reduceIte, reduceCtorEq, Nat.reduceEqDiff, Nat.reduceBEq, Nat.reduceAdd, Nat.reduceLeDiff, Nat.reduceMul, Nat.reduceLT, Int.reduceEq, Int.reduceLT, Int.reduceLE, t0, t2, t3, t5, t9, t10, hlt]
      have hi1 : 1 ≤ i := by omega
      refine retR_less (l := [x]) (H' := G.set br K) ?_ (AHeap.le_refl _) ⟨l, G, K, hg, fr, rfl, rdk_mono hK (by omega), by omega, by omega⟩
      simp only [resA, go_sem, reduceIte, reduceCtorEq, Nat.reduceEqDiff, Nat.reduceBEq, Nat.reduceAdd, Nat.reduceLeDiff, Nat.reduceMul, Nat.reduceLT, Int.reduceEq, Int.reduceLT, Int.reduceLE]
theorem c_aTry {d : Int} {p : Nat} (hd : 0 ≤ d ∧ d ≤ 10) (hp : p ≤ 100000) (hB : DrawnF 99 p (d + 1)) : Drawn 98 (10 + 5 * p) d := by
  intro F br n K t cl lp hK hF hn
  have hwd : IntKind.i64.wrap (d + 1) = d + 1 := w64 (by omega) (by omega)
  refine acalls_of1 Tryz.func98 rfl (by kernel_rfl) rfl rfl (awp_sound (fz := fun _ => []) (im := fun s => s == 5 || s == 14 || s == 23 || s == 38 || s == 41 || s == 61 || s == 81) mixed _ _ _ _ (by kernel_rfl) ?_)
  simp +contextual -dsimp -implicitDefEqProofs (maxSteps := 5000000) only [go_sem, reduceIte, reduceCtorEq, Nat.reduceEqDiff, Nat.reduceBEq, Nat.reduceAdd, Nat.reduceLeDiff, Nat.reduceMul, Nat.reduceLT, Int.reduceEq, Int.reduceLT, Int.reduceLE, hwd]
  refine (hB F br _ K t cl lp hK hF (by omega)).mono ?_
  rintro _ H' ⟨l0, cl0, K0, rfl, rfl, hK0, h1, h2⟩
  simp +contextual -dsimp -implicitDefEqProofs (maxSteps := 5000000) only [go_sem, reduceIte, reduceCtorEq, Nat.reduceEqDiff, Nat.reduceBEq, Nat.reduceAdd, Nat.reduceLeDiff, Nat.reduceMul, Nat.reduceLT, Int.reduceEq, Int.reduceLT, Int.reduceLE]
  refine app_lit (y := ⟨d, 7, 0, 0⟩) rfl h1 (by omega) fun x H' hg => ?_
  obtain ⟨G, hg0, rfl, u0⟩ := grow_out hg hF
  simp +contextual -dsimp -implicitDefEqProofs (maxSteps := 5000000) only [go_sem, reduceIte, reduceCtorEq, Nat.reduceEqDiff, Nat.reduceBEq, Nat.reduceAdd, Nat.reduceLeDiff, Nat.reduceMul, Nat.reduceLT, Int.reduceEq, Int.reduceLT, Int.reduceLE]
  refine k_one [1, 2, 0, 1] _ hK0 u0 (by omega) (by simp) rfl rfl fun v K1 hv hK1 => ?_
  have hv2 : 0 ≤ v ∧ v ≤ 2 := by simp at hv; omega
  simp +contextual -dsimp -implicitDefEqProofs (maxSteps := 5000000) only [go_sem, reduceIte, reduceCtorEq, Nat.reduceEqDiff, Nat.reduceBEq, Nat.reduceAdd, Nat.reduceLeDiff, Nat.reduceMul, Nat.reduceLT, Int.reduceEq, Int.reduceLT, Int.reduceLE]
  refine aloop mixed (fz := fun _ => []) (im := fun s => s == 5 || s == 14 || s == 23 || s == 38 || s == 41 || s == 61 || s == 81) (by kernel_rfl) (fun m tm H' => ∃ (l : List Line) (G : AHeap) (x : AV) (K : ABlk) (i : Nat), m = (v - i).toNat ∧ i ≤ v ∧ Grow rLine 4 44 F G x l ∧ G br = none ∧ RdK (n + p + 1 + i * (p + 2)) K ∧ 1 ≤ l.length ∧ l.length ≤ 1 + p + i * (p + 2) ∧ H' = G.set br K ∧ tm 0 = .ptr br 2 0 0 ∧ tm 5 = .vptr [[.vsl (t.map rClass) cl]] 0 0 ∧ tm 2 = I d ∧ tm 3 = B lp ∧ tm 9 = x ∧ tm 10 = I v ∧ tm 11 = I (v - i)) v.toNat ⟨_, G, x, K1, 0, by simp, by omega, hg0, u0, by simpa using hK1, by simp, by simp; omega, rfl, ?_⟩ ?_
  · simp +contextual -dsimp -implicitDefEqProofs (maxSteps := 5000000) only [go_sem, reduceIte, reduceCtorEq, Nat.reduceEqDiff, Nat.reduceBEq, Nat.reduceAdd, Nat.reduceLeDiff, Nat.reduceMul, Nat.reduceLT, Int.reduceEq, Int.reduceLT, Int.reduceLE]
    simp
  · rintro m tm H' ⟨l, G, x, K, i, rfl, hiv, hg, fr, hK, hl1, hl2, rfl, t0, t5, t2, t3, t9, t10, t11⟩
    have hi2 : i * (p + 2) ≤ 2 * (p + 2) := Nat.mul_le_mul_right (p + 2) (by omega)
    have hs : (i + 1) * (p + 2) = i * (p + 2) + (p + 2) := Nat.succ_mul i (p + 2)
    by_cases hlt : (0 : Int) < v - i
    · have hi3 : (i + 1) * (p + 2) ≤ 2 * (p + 2) := Nat.mul_le_mul_right (p + 2) (by omega)
      simp +contextual -dsimp -implicitDefEqProofs (maxSteps := 5000000) only [go_sem, reduceIte, reduceCtorEq, Nat.reduceEqDiff, Nat.reduceBEq, Nat.reduceAdd, Nat.reduceLeDiff, Nat.reduceMul, Nat.reduceLT, Int.reduceEq, Int.reduceLT, Int.reduceLE, t0, t2, t3, t5, t9, t10, t11, hlt, hwd]
      refine k_pick t.length hK fr (by omega) rfl fun a K2 _ _ _ hK2 => ?_
      simp +contextual -dsimp -implicitDefEqProofs (maxSteps := 5000000) only [go_sem, reduceIte, reduceCtorEq, Nat.reduceEqDiff, Nat.reduceBEq, Nat.reduceAdd, Nat.reduceLeDiff, Nat.reduceMul, Nat.reduceLT, Int.reduceEq, Int.reduceLT, Int.reduceLE, t0, t2, t3, t5, t9, t10, t11, hlt, hwd]
      refine k_one [a, 0] _ hK2 fr (by omega) (by simp) rfl rfl fun a K3 _ hK3 => ?_
      simp +contextual -dsimp -implicitDefEqProofs (maxSteps := 5000000) only [go_sem, reduceIte, reduceCtorEq, Nat.reduceEqDiff, Nat.reduceBEq, Nat.reduceAdd, Nat.reduceLeDiff, Nat.reduceMul, Nat.reduceLT, Int.reduceEq, Int.reduceLT, Int.reduceLE, t0, t2, t3, t5, t9, t10, t11, hlt, hwd]
      refine app_lines (m := [⟨d, 8, a, 0⟩]) (grow_in hg fr) (by simp; omega) rfl fun x' H' hg' => ?_
      obtain ⟨G1, hg1, rfl, u1⟩ := grow_out hg' (grow_none hg fr)
      simp +contextual -dsimp -implicitDefEqProofs (maxSteps := 5000000) only [go_sem, reduceIte, reduceCtorEq, Nat.reduceEqDiff, Nat.reduceBEq, Nat.reduceAdd, Nat.reduceLeDiff, Nat.reduceMul, Nat.reduceLT, Int.reduceEq, Int.reduceLT, Int.reduceLE, t0, t2, t3, t5, t9, t10, t11, hlt, hwd]
      refine (hB G1 br _ K3 t cl lp hK3 u1 (by omega)).mono ?_
      rintro _ H' ⟨l2, cl2, K4, rfl, rfl, hK4, h3, h4⟩
      simp +contextual -dsimp -implicitDefEqProofs (maxSteps := 5000000) only [go_sem, reduceIte, reduceCtorEq, Nat.reduceEqDiff, Nat.reduceBEq, Nat.reduceAdd, Nat.reduceLeDiff, Nat.reduceMul, Nat.reduceLT, Int.reduceEq, Int.reduceLT, Int.reduceLE, t0, t2, t3, t5, t9, t10, t11, hlt, hwd]
      refine app_lines (m := l2) (grow_in hg1 u1) (by simp; omega) rfl fun x' H' hg' => ?_
      obtain ⟨G2, hg2, rfl, u2⟩ := grow_out hg' (grow_none hg1 u1)
      simp +contextual -dsimp -implicitDefEqProofs (maxSteps := 5000000) only [go_sem, reduceIte, reduceCtorEq, Nat.reduceEqDiff, Nat.reduceBEq, Nat.reduceAdd, Nat.reduceLeDiff, Nat.reduceMul, Nat.reduceLT, Int.reduceEq, Int.reduceLT, Int.reduceLE, t0, t2, t3, t5, t9, t10, t11, hlt, hwd]
      exact ⟨_, by omega, _, G2, x', K4, i + 1, rfl, by omega, hg2, u2, rdk_mono hK4 (by omega), by simp; omega, by simp; omega, rfl, rfl, I_wrap (by omega) (by omega) (by omega)⟩
    · simp +contextual -dsimp -implicitDefEqProofs (maxSteps := 5000000) only [go_sem, reduceIte, reduceCtorEq, Nat.reduceEqDiff, Nat.reduceBEq, Nat.reduceAdd, Nat.reduceLeDiff, Nat.reduceMul, Nat.reduceLT, Int.reduceEq, Int.reduceLT, Int.reduceLE, t0, t2, t3, t5, t9, t10, t11, hlt, hwd]
      refine ⟨fun v1 => ?_, fun v1 => ⟨fun v0 => absurd v1 (by omega), fun v0 => ?_⟩⟩
      · have v0 : ¬ v = 0 := by omega
        refine k_pick 3 hK fr (by omega) rfl fun a K2 _ _ _ hK2 => ?_
        simp +contextual -dsimp -implicitDefEqProofs (maxSteps := 5000000) only [go_sem, reduceIte, reduceCtorEq, Nat.reduceEqDiff, Nat.reduceBEq, Nat.reduceAdd, Nat.reduceLeDiff, Nat.reduceMul, Nat.reduceLT, Int.reduceEq, Int.reduceLT, Int.reduceLE, t0, t2, t3, t5, t9, t10, t11, hlt, hwd, v0, v1]
        refine ⟨fun _ => ?_, fun _ => ?_⟩
        · refine app_lines (m := [⟨d, 9, 0, 0⟩]) (grow_in hg fr) (by simp; omega) rfl fun x' H' hg' => ?_
          obtain ⟨G1, hg1, rfl, u1⟩ := grow_out hg' (grow_none hg fr)
          simp +contextual -dsimp -implicitDefEqProofs (maxSteps := 5000000) only [go_sem, reduceIte, reduceCtorEq, Nat.reduceEqDiff, Nat.reduceBEq, Nat.reduceAdd, Nat.reduceLeDiff, Nat.reduceMul, Nat.reduceLT, Int.reduceEq, Int.reduceLT, Int.reduceLE, t0, t2, t3, t5, t9, t10, t11, hlt, hwd, v0, v1]
          refine (hB G1 br _ _ t cl lp hK2 u1 (by omega)).mono ?_
          rintro _ H' ⟨l2, cl2, K4, rfl, rfl, hK4, h3, h4⟩
          simp +contextual -dsimp -implicitDefEqProofs (maxSteps := 5000000) only [go_sem, reduceIte, reduceCtorEq, Nat.reduceEqDiff, Nat.reduceBEq, Nat.reduceAdd, Nat.reduceLeDiff, Nat.reduceMul, Nat.reduceLT, Int.reduceEq, Int.reduceLT, Int.reduceLE, t0, t2, t3, t5, t9, t10, t11, hlt, hwd, v0, v1]
          refine app_lines (m := l2) (grow_in hg1 u1) (by simp; omega) rfl fun x2 H' hg' => ?_
          obtain ⟨G2, hg2, rfl, u2⟩ := grow_out hg' (grow_none hg1 u1)
          simp +contextual -dsimp -implicitDefEqProofs (maxSteps := 5000000) only [go_sem, reduceIte, reduceCtorEq, Nat.reduceEqDiff, Nat.reduceBEq, Nat.reduceAdd, Nat.reduceLeDiff, Nat.reduceMul, Nat.reduceLT, Int.reduceEq, Int.reduceLT, Int.reduceLE, t0, t2, t3, t5, t9, t10, t11, hlt, hwd, v0, v1]
          refine k_pick 2 hK4 u2 (by omega) rfl fun b K7 _ _ _ hK7 => ?_
          simp +contextual -dsimp -implicitDefEqProofs (maxSteps := 5000000) only [go_sem, reduceIte, reduceCtorEq, Nat.reduceEqDiff, Nat.reduceBEq, Nat.reduceAdd, Nat.reduceLeDiff, Nat.reduceMul, Nat.reduceLT, Int.reduceEq, Int.reduceLT, Int.reduceLE, t0, t2, t3, t5, t9, t10, t11, hlt, hwd, v0, v1]
          refine ⟨fun _ => ?_, fun _ => ?_⟩
          · skip
            refine app_lines (m := [⟨d, 10, 0, 0⟩]) (grow_in hg2 u2) (by simp; omega) rfl fun x' H' hg' => ?_
            obtain ⟨G8, hg8, rfl, u8⟩ := grow_out hg' (grow_none hg2 u2)
            simp +contextual -dsimp -implicitDefEqProofs (maxSteps := 5000000) only [go_sem, reduceIte, reduceCtorEq, Nat.reduceEqDiff, Nat.reduceBEq, Nat.reduceAdd, Nat.reduceLeDiff, Nat.reduceMul, Nat.reduceLT, Int.reduceEq, Int.reduceLT, Int.reduceLE, t0, t2, t3, t5, t9, t10, t11, hlt, hwd, v0, v1]
            refine (hB G8 br _ _ t cl lp hK7 u8 (by omega)).mono ?_
            rintro _ H' ⟨l8, cl8, K8, rfl, rfl, hK8, h8, h9⟩
            simp +contextual -dsimp -implicitDefEqProofs (maxSteps := 5000000) only [go_sem, reduceIte, reduceCtorEq, Nat.reduceEqDiff, Nat.reduceBEq, Nat.reduceAdd, Nat.reduceLeDiff, Nat.reduceMul, Nat.reduceLT, Int.reduceEq, Int.reduceLT, Int.reduceLE, t0, t2, t3, t5, t9, t10, t11, hlt, hwd, v0, v1]
            refine app_lines (m := l8) (grow_in hg8 u8) (by simp; omega) rfl fun x' H' hg' => ?_
            obtain ⟨G9, hg9, rfl, u9⟩ := grow_out hg' (grow_none hg8 u8)
            simp +contextual -dsimp -implicitDefEqProofs (maxSteps := 5000000) only [go_sem, reduceIte, reduceCtorEq, Nat.reduceEqDiff, Nat.reduceBEq, Nat.reduceAdd, Nat.reduceLeDiff, Nat.reduceMul, Nat.reduceLT, Int.reduceEq, Int.reduceLT, Int.reduceLE, t0, t2, t3, t5, t9, t10, t11, hlt, hwd, v0, v1]
            refine retR_less (l := [x']) (H' := G9.set br K8) ?_ (AHeap.le_refl _) ⟨_, G9, K8, hg9, u9, rfl, rdk_mono hK8 (by omega), by first | omega | (simp; omega), by first | omega | (simp; omega)⟩
            simp only [resA, go_sem, reduceIte, reduceCtorEq, Nat.reduceEqDiff, Nat.reduceBEq, Nat.reduceAdd, Nat.reduceLeDiff, Nat.reduceMul, Nat.reduceLT, Int.reduceEq, Int.reduceLT, Int.reduceLE]
          · refine retR_less (l := [x2]) (H' := AHeap.set _ br K7) ?_ (AHeap.le_refl _) ⟨_, _, K7, hg2, u2, rfl, rdk_mono hK7 (by omega), by first | omega | (simp; omega), by first | omega | (simp; omega)⟩
            simp only [resA, go_sem, reduceIte, reduceCtorEq, Nat.reduceEqDiff, Nat.reduceBEq, Nat.reduceAdd, Nat.reduceLeDiff, Nat.reduceMul, Nat.reduceLT, Int.reduceEq, Int.reduceLT, Int.reduceLE, t9]
        · skip
          refine k_pick 2 hK2 fr (by omega) rfl fun b K7 _ _ _ hK7 => ?_
          simp +contextual -dsimp -implicitDefEqProofs (maxSteps := 5000000) only [go_sem, reduceIte, reduceCtorEq, Nat.reduceEqDiff, Nat.reduceBEq, Nat.reduceAdd, Nat.reduceLeDiff, Nat.reduceMul, Nat.reduceLT, Int.reduceEq, Int.reduceLT, Int.reduceLE, t0, t2, t3, t5, t9, t10, t11, hlt, hwd, v0, v1]
          refine ⟨fun _ => ?_, fun _ => ?_⟩
          · skip
            refine app_lines (m := [⟨d, 10, 0, 0⟩]) (grow_in hg fr) (by simp; omega) rfl fun x' H' hg' => ?_
            obtain ⟨G8, hg8, rfl, u8⟩ := grow_out hg' (grow_none hg fr)
            simp +contextual -dsimp -implicitDefEqProofs (maxSteps := 5000000) only [go_sem, reduceIte, reduceCtorEq, Nat.reduceEqDiff, Nat.reduceBEq, Nat.reduceAdd, Nat.reduceLeDiff, Nat.reduceMul, Nat.reduceLT, Int.reduceEq, Int.reduceLT, Int.reduceLE, t0, t2, t3, t5, t9, t10, t11, hlt, hwd, v0, v1]
            refine (hB G8 br _ _ t cl lp hK7 u8 (by omega)).mono ?_
            rintro _ H' ⟨l8, cl8, K8, rfl, rfl, hK8, h8, h9⟩
            simp +contextual -dsimp -implicitDefEqProofs (maxSteps := 5000000) only [go_sem, reduceIte, reduceCtorEq, Nat.reduceEqDiff, Nat.reduceBEq, Nat.reduceAdd, Nat.reduceLeDiff, Nat.reduceMul, Nat.reduceLT, Int.reduceEq, Int.reduceLT, Int.reduceLE, t0, t2, t3, t5, t9, t10, t11, hlt, hwd, v0, v1]
            refine app_lines (m := l8) (grow_in hg8 u8) (by simp; omega) rfl fun x' H' hg' => ?_
            obtain ⟨G9, hg9, rfl, u9⟩ := grow_out hg' (grow_none hg8 u8)
            simp +contextual -dsimp -implicitDefEqProofs (maxSteps := 5000000) only [go_sem, reduceIte, reduceCtorEq, Nat.reduceEqDiff, Nat.reduceBEq, Nat.reduceAdd, Nat.reduceLeDiff, Nat.reduceMul, Nat.reduceLT, Int.reduceEq, Int.reduceLT, Int.reduceLE, t0, t2, t3, t5, t9, t10, t11, hlt, hwd, v0, v1]
            refine retR_less (l := [x']) (H' := G9.set br K8) ?_ (AHeap.le_refl _) ⟨_, G9, K8, hg9, u9, rfl, rdk_mono hK8 (by omega), by first | omega | (simp; omega), by first | omega | (simp; omega)⟩
            simp only [resA, go_sem, reduceIte, reduceCtorEq, Nat.reduceEqDiff, Nat.reduceBEq, Nat.reduceAdd, Nat.reduceLeDiff, Nat.reduceMul, Nat.reduceLT, Int.reduceEq, Int.reduceLT, Int.reduceLE]
          · refine retR_less (l := [x]) (H' := AHeap.set _ br K7) ?_ (AHeap.le_refl _) ⟨_, _, K7, hg, fr, rfl, rdk_mono hK7 (by omega), by first | omega | (simp; omega), by first | omega | (simp; omega)⟩
            simp only [resA, go_sem, reduceIte, reduceCtorEq, Nat.reduceEqDiff, Nat.reduceBEq, Nat.reduceAdd, Nat.reduceLeDiff, Nat.reduceMul, Nat.reduceLT, Int.reduceEq, Int.reduceLT, Int.reduceLE, t9]
      · skip
        refine app_lines (m := [⟨d, 10, 0, 0⟩]) (grow_in hg fr) (by simp; omega) rfl fun x' H' hg' => ?_
        obtain ⟨G8, hg8, rfl, u8⟩ := grow_out hg' (grow_none hg fr)
        simp +contextual -dsimp -implicitDefEqProofs (maxSteps := 5000000) only [go_sem, reduceIte, reduceCtorEq, Nat.reduceEqDiff, Nat.reduceBEq, Nat.reduceAdd, Nat.reduceLeDiff, Nat.reduceMul, Nat.reduceLT, Int.reduceEq, Int.reduceLT, Int.reduceLE, t0, t2, t3, t5, t9, t10, t11, hlt, hwd, v0, v1]
        refine (hB G8 br _ _ t cl lp hK u8 (by omega)).mono ?_
        rintro _ H' ⟨l8, cl8, K8, rfl, rfl, hK8, h8, h9⟩
        simp +contextual -dsimp -implicitDefEqProofs (maxSteps := 5000000) only [go_sem, reduceIte, reduceCtorEq, Nat.reduceEqDiff, Nat.reduceBEq, Nat.reduceAdd, Nat.reduceLeDiff, Nat.reduceMul, Nat.reduceLT, Int.reduceEq, Int.reduceLT, Int.reduceLE, t0, t2, t3, t5, t9, t10, t11, hlt, hwd, v0, v1]
        refine app_lines (m := l8) (grow_in hg8 u8) (by simp; omega) rfl fun x' H' hg' => ?_
        obtain ⟨G9, hg9, rfl, u9⟩ := grow_out hg' (grow_none hg8 u8)
        simp +contextual -dsimp -implicitDefEqProofs (maxSteps := 5000000) only [go_sem, reduceIte, reduceCtorEq, Nat.reduceEqDiff, Nat.reduceBEq, Nat.reduceAdd, Nat.reduceLeDiff, Nat.reduceMul, Nat.reduceLT, Int.reduceEq, Int.reduceLT, Int.reduceLE, t0, t2, t3, t5, t9, t10, t11, hlt, hwd, v0, v1]
        refine retR_less (l := [x']) (H' := G9.set br K8) ?_ (AHeap.le_refl _) ⟨_, G9, K8, hg9, u9, rfl, rdk_mono hK8 (by omega), by first | omega | (simp; omega), by first | omega | (simp; omega)⟩
        simp only [resA, go_sem, reduceIte, reduceCtorEq, Nat.reduceEqDiff, Nat.reduceBEq, Nat.reduceAdd, Nat.reduceLeDiff, Nat.reduceMul, Nat.reduceLT, Int.reduceEq, Int.reduceLT, Int.reduceLE]
end
section
open Go Go.Sim
set_option maxRecDepth 100000
set_option maxHeartbeats 4000000

theorem c_aStatement {d : Int} {p p1 p2 : Nat} (hd : 0 ≤ d ∧ d ≤ 3) (h6 : 6 ≤ p) (hp1 : p1 + 6 ≤ p) (hp2 : p2 + 6 ≤ p) (hp : p ≤ 300000) (hB : d < 3 → DrawnF 99 p1 (d + 1)) (hT : d < 3 → DrawnF 98 p2 d) : DrawnF 122 p d := by
  intro F br n K t cl lp hK hF hn
  have hwd : IntKind.i64.wrap (d + 1) = d + 1 := w64 (by omega) (by omega)
  refine acalls_of1 Tryz.func122 rfl (by kernel_rfl) rfl rfl (awp_sound (fz := fun _ => []) (im := fun s => s == 5 || s == 29 || s == 43 || s == 57 || s == 65 || s == 96 || s == 108) mixed _ _ _ _ (by kernel_rfl) ?_)
  simp +contextual -dsimp -implicitDefEqProofs (maxSteps := 5000000) only [go_sem, reduceIte, reduceCtorEq, Nat.reduceEqDiff, Nat.reduceBEq, Nat.reduceAdd, Nat.reduceLeDiff, Nat.reduceMul, Nat.reduceLT, Int.reduceEq, Int.reduceLT, Int.reduceLE]
  refine k_pick 16 hK hF (by omega) rfl fun k0 K0 q0 q1 _ hK0 => ?_
  simp +contextual -dsimp -implicitDefEqProofs (maxSteps := 5000000) only [go_sem, reduceIte, reduceCtorEq, Nat.reduceEqDiff, Nat.reduceBEq, Nat.reduceAdd, Nat.reduceLeDiff, Nat.reduceMul, Nat.reduceLT, Int.reduceEq, Int.reduceLT, Int.reduceLE]
  refine ⟨fun h3 => ?_, fun h3 => ?_⟩
  · refine k_pick 9 hK0 hF (by omega) rfl fun k K1 r0 r1 _ hK1 => ?_
    simp +contextual -dsimp -implicitDefEqProofs (maxSteps := 5000000) only [go_sem, reduceIte, reduceCtorEq, Nat.reduceEqDiff, Nat.reduceBEq, Nat.reduceAdd, Nat.reduceLeDiff, Nat.reduceMul, Nat.reduceLT, Int.reduceEq, Int.reduceLT, Int.reduceLE]
    skip
    rintro b10 ⟨n1, n2, hb⟩
    simp only [br_out n1]
    have nb : ∀ K, (F.set b10 K) br = none := fun K => by rw [set_other n2]; exact hF
    have le : ∀ K K', AHeap.le (F.set br K') ((F.set b10 K).set br K') := fun K K' => le_ch (le_s1 (AHeap.le_refl _) hb)
    by_cases c4 : k < 4
    · simp +contextual -dsimp -implicitDefEqProofs (maxSteps := 5000000) only [go_sem, reduceIte, reduceCtorEq, Nat.reduceEqDiff, Nat.reduceBEq, Nat.reduceAdd, Nat.reduceLeDiff, Nat.reduceMul, Nat.reduceLT, Int.reduceEq, Int.reduceLT, Int.reduceLE, c4, n1, n2]
      refine k_one [1, 2, 3, 4, 5] _ hK1 (nb _) (by omega) (by simp) rfl rfl fun v K1 _ hK1 => ?_
      simp +contextual -dsimp -implicitDefEqProofs (maxSteps := 5000000) only [go_sem, reduceIte, reduceCtorEq, Nat.reduceEqDiff, Nat.reduceBEq, Nat.reduceAdd, Nat.reduceLeDiff, Nat.reduceMul, Nat.reduceLT, Int.reduceEq, Int.reduceLT, Int.reduceLE, c4, n1, n2]
      refine retR_less (l := [.vsl [rLine ⟨d, 1, v, 0⟩] true]) (H' := F.set br K1) ?_ (le _ _) ⟨[⟨d, 1, v, 0⟩], true, K1, rfl, rfl, rdk_mono hK1 (by omega), by simp, by simp; omega⟩
      simp only [resA, go_sem, reduceIte, reduceCtorEq, Nat.reduceEqDiff, Nat.reduceBEq, Nat.reduceAdd, Nat.reduceLeDiff, Nat.reduceMul, Nat.reduceLT, Int.reduceEq, Int.reduceLT, Int.reduceLE]
    by_cases c6 : k < 6
    · simp +contextual -dsimp -implicitDefEqProofs (maxSteps := 5000000) only [go_sem, reduceIte, reduceCtorEq, Nat.reduceEqDiff, Nat.reduceBEq, Nat.reduceAdd, Nat.reduceLeDiff, Nat.reduceMul, Nat.reduceLT, Int.reduceEq, Int.reduceLT, Int.reduceLE, c4, c6, n1, n2]
      refine k_pick t.length hK1 (nb _) (by omega) rfl fun a K1 _ _ _ hK1 => ?_
      simp +contextual -dsimp -implicitDefEqProofs (maxSteps := 5000000) only [go_sem, reduceIte, reduceCtorEq, Nat.reduceEqDiff, Nat.reduceBEq, Nat.reduceAdd, Nat.reduceLeDiff, Nat.reduceMul, Nat.reduceLT, Int.reduceEq, Int.reduceLT, Int.reduceLE, c4, c6, n1, n2]
      refine k_one [1, 2, 3] _ hK1 (nb _) (by omega) (by simp) rfl rfl fun v K2 _ hK2 => ?_
      simp +contextual -dsimp -implicitDefEqProofs (maxSteps := 5000000) only [go_sem, reduceIte, reduceCtorEq, Nat.reduceEqDiff, Nat.reduceBEq, Nat.reduceAdd, Nat.reduceLeDiff, Nat.reduceMul, Nat.reduceLT, Int.reduceEq, Int.reduceLT, Int.reduceLE, c4, c6, n1, n2]
      refine retR_less (l := [.vsl [rLine ⟨d, 2, a, v⟩] true]) (H' := F.set br K2) ?_ (le _ _) ⟨[⟨d, 2, a, v⟩], true, K2, rfl, rfl, rdk_mono hK2 (by omega), by simp, by simp; omega⟩
      simp only [resA, go_sem, reduceIte, reduceCtorEq, Nat.reduceEqDiff, Nat.reduceBEq, Nat.reduceAdd, Nat.reduceLeDiff, Nat.reduceMul, Nat.reduceLT, Int.reduceEq, Int.reduceLT, Int.reduceLE]
    by_cases e6 : k = 6
    · simp +contextual -dsimp -implicitDefEqProofs (maxSteps := 5000000) only [go_sem, reduceIte, reduceCtorEq, Nat.reduceEqDiff, Nat.reduceBEq, Nat.reduceAdd, Nat.reduceLeDiff, Nat.reduceMul, Nat.reduceLT, Int.reduceEq, Int.reduceLT, Int.reduceLE, c4, c6, e6, n1, n2]
      refine retR_less (l := [.vsl [rLine ⟨d, 3, 0, 0⟩] true]) (H' := AHeap.set F br _) ?_ (le _ _) ⟨[⟨d, 3, 0, 0⟩], true, _, rfl, rfl, rdk_mono hK1 (by omega), by simp, by simp; omega⟩
      simp only [resA, go_sem, reduceIte, reduceCtorEq, Nat.reduceEqDiff, Nat.reduceBEq, Nat.reduceAdd, Nat.reduceLeDiff, Nat.reduceMul, Nat.reduceLT, Int.reduceEq, Int.reduceLT, Int.reduceLE]
    by_cases e7 : k = 7
    · cases lp
      · simp +contextual -dsimp -implicitDefEqProofs (maxSteps := 5000000) only [go_sem, reduceIte, reduceCtorEq, Nat.reduceEqDiff, Nat.reduceBEq, Nat.reduceAdd, Nat.reduceLeDiff, Nat.reduceMul, Nat.reduceLT, Int.reduceEq, Int.reduceLT, Int.reduceLE, c4, c6, e6, e7, n1, n2]
        refine k_one [7, 8] _ hK1 (nb _) (by omega) (by simp) rfl rfl fun v K1 _ hK1 => ?_
        simp +contextual -dsimp -implicitDefEqProofs (maxSteps := 5000000) only [go_sem, reduceIte, reduceCtorEq, Nat.reduceEqDiff, Nat.reduceBEq, Nat.reduceAdd, Nat.reduceLeDiff, Nat.reduceMul, Nat.reduceLT, Int.reduceEq, Int.reduceLT, Int.reduceLE, c4, c6, e6, e7, n1, n2]
        refine retR_less (l := [.vsl [rLine ⟨d, 4, v, 0⟩] true]) (H' := F.set br K1) ?_ (le _ _) ⟨[⟨d, 4, v, 0⟩], true, K1, rfl, rfl, rdk_mono hK1 (by omega), by simp, by simp; omega⟩
        simp only [resA, go_sem, reduceIte, reduceCtorEq, Nat.reduceEqDiff, Nat.reduceBEq, Nat.reduceAdd, Nat.reduceLeDiff, Nat.reduceMul, Nat.reduceLT, Int.reduceEq, Int.reduceLT, Int.reduceLE]
      · simp +contextual -dsimp -implicitDefEqProofs (maxSteps := 5000000) only [go_sem, reduceIte, reduceCtorEq, Nat.reduceEqDiff, Nat.reduceBEq, Nat.reduceAdd, Nat.reduceLeDiff, Nat.reduceMul, Nat.reduceLT, Int.reduceEq, Int.reduceLT, Int.reduceLE, c4, c6, e6, e7, n1, n2]
        refine k_one [5, 6] _ hK1 (nb _) (by omega) (by simp) rfl rfl fun v K1 _ hK1 => ?_
        simp +contextual -dsimp -implicitDefEqProofs (maxSteps := 5000000) only [go_sem, reduceIte, reduceCtorEq, Nat.reduceEqDiff, Nat.reduceBEq, Nat.reduceAdd, Nat.reduceLeDiff, Nat.reduceMul, Nat.reduceLT, Int.reduceEq, Int.reduceLT, Int.reduceLE, c4, c6, e6, e7, n1, n2]
        refine retR_less (l := [.vsl [rLine ⟨d, v, 0, 0⟩] true]) (H' := F.set br K1) ?_ (le _ _) ⟨[⟨d, v, 0, 0⟩], true, K1, rfl, rfl, rdk_mono hK1 (by omega), by simp, by simp; omega⟩
        simp only [resA, go_sem, reduceIte, reduceCtorEq, Nat.reduceEqDiff, Nat.reduceBEq, Nat.reduceAdd, Nat.reduceLeDiff, Nat.reduceMul, Nat.reduceLT, Int.reduceEq, Int.reduceLT, Int.reduceLE]
    by_cases e8 : k = 8
    · simp +contextual -dsimp -implicitDefEqProofs (maxSteps := 5000000) only [go_sem, reduceIte, reduceCtorEq, Nat.reduceEqDiff, Nat.reduceBEq, Nat.reduceAdd, Nat.reduceLeDiff, Nat.reduceMul, Nat.reduceLT, Int.reduceEq, Int.reduceLT, Int.reduceLE, c4, c6, e6, e7, e8, n1, n2]
      refine retR_less (l := [.vsl [rLine ⟨d, 0, 0, 0⟩] true]) (H' := AHeap.set F br _) ?_ (le _ _) ⟨[⟨d, 0, 0, 0⟩], true, _, rfl, rfl, rdk_mono hK1 (by omega), by simp, by simp; omega⟩
      simp only [resA, go_sem, reduceIte, reduceCtorEq, Nat.reduceEqDiff, Nat.reduceBEq, Nat.reduceAdd, Nat.reduceLeDiff, Nat.reduceMul, Nat.reduceLT, Int.reduceEq, Int.reduceLT, Int.reduceLE]
    omega
  · skip
    rintro b10 ⟨n1, n2, hb⟩
    simp only [br_out n1]
    have nb : ∀ K, (F.set b10 K) br = none := fun K => by rw [set_other n2]; exact hF
    have le : ∀ K K', AHeap.le (F.set br K') ((F.set b10 K).set br K') := fun K K' => le_ch (le_s1 (AHeap.le_refl _) hb)
    by_cases c4 : k0 < 4
    · simp +contextual -dsimp -implicitDefEqProofs (maxSteps := 5000000) only [go_sem, reduceIte, reduceCtorEq, Nat.reduceEqDiff, Nat.reduceBEq, Nat.reduceAdd, Nat.reduceLeDiff, Nat.reduceMul, Nat.reduceLT, Int.reduceEq, Int.reduceLT, Int.reduceLE, c4, n1, n2]
      refine k_one [1, 2, 3, 4, 5] _ hK0 (nb _) (by omega) (by simp) rfl rfl fun v K1 _ hK1 => ?_
      simp +contextual -dsimp -implicitDefEqProofs (maxSteps := 5000000) only [go_sem, reduceIte, reduceCtorEq, Nat.reduceEqDiff, Nat.reduceBEq, Nat.reduceAdd, Nat.reduceLeDiff, Nat.reduceMul, Nat.reduceLT, Int.reduceEq, Int.reduceLT, Int.reduceLE, c4, n1, n2]
      refine retR_less (l := [.vsl [rLine ⟨d, 1, v, 0⟩] true]) (H' := F.set br K1) ?_ (le _ _) ⟨[⟨d, 1, v, 0⟩], true, K1, rfl, rfl, rdk_mono hK1 (by omega), by simp, by simp; omega⟩
      simp only [resA, go_sem, reduceIte, reduceCtorEq, Nat.reduceEqDiff, Nat.reduceBEq, Nat.reduceAdd, Nat.reduceLeDiff, Nat.reduceMul, Nat.reduceLT, Int.reduceEq, Int.reduceLT, Int.reduceLE]
    by_cases c6 : k0 < 6
    · simp +contextual -dsimp -implicitDefEqProofs (maxSteps := 5000000) only [go_sem, reduceIte, reduceCtorEq, Nat.reduceEqDiff, Nat.reduceBEq, Nat.reduceAdd, Nat.reduceLeDiff, Nat.reduceMul, Nat.reduceLT, Int.reduceEq, Int.reduceLT, Int.reduceLE, c4, c6, n1, n2]
      refine k_pick t.length hK0 (nb _) (by omega) rfl fun a K1 _ _ _ hK1 => ?_
      simp +contextual -dsimp -implicitDefEqProofs (maxSteps := 5000000) only [go_sem, reduceIte, reduceCtorEq, Nat.reduceEqDiff, Nat.reduceBEq, Nat.reduceAdd, Nat.reduceLeDiff, Nat.reduceMul, Nat.reduceLT, Int.reduceEq, Int.reduceLT, Int.reduceLE, c4, c6, n1, n2]
      refine k_one [1, 2, 3] _ hK1 (nb _) (by omega) (by simp) rfl rfl fun v K2 _ hK2 => ?_
      simp +contextual -dsimp -implicitDefEqProofs (maxSteps := 5000000) only [go_sem, reduceIte, reduceCtorEq, Nat.reduceEqDiff, Nat.reduceBEq, Nat.reduceAdd, Nat.reduceLeDiff, Nat.reduceMul, Nat.reduceLT, Int.reduceEq, Int.reduceLT, Int.reduceLE, c4, c6, n1, n2]
      refine retR_less (l := [.vsl [rLine ⟨d, 2, a, v⟩] true]) (H' := F.set br K2) ?_ (le _ _) ⟨[⟨d, 2, a, v⟩], true, K2, rfl, rfl, rdk_mono hK2 (by omega), by simp, by simp; omega⟩
      simp only [resA, go_sem, reduceIte, reduceCtorEq, Nat.reduceEqDiff, Nat.reduceBEq, Nat.reduceAdd, Nat.reduceLeDiff, Nat.reduceMul, Nat.reduceLT, Int.reduceEq, Int.reduceLT, Int.reduceLE]
    by_cases e6 : k0 = 6
    · simp +contextual -dsimp -implicitDefEqProofs (maxSteps := 5000000) only [go_sem, reduceIte, reduceCtorEq, Nat.reduceEqDiff, Nat.reduceBEq, Nat.reduceAdd, Nat.reduceLeDiff, Nat.reduceMul, Nat.reduceLT, Int.reduceEq, Int.reduceLT, Int.reduceLE, c4, c6, e6, n1, n2]
      refine retR_less (l := [.vsl [rLine ⟨d, 3, 0, 0⟩] true]) (H' := AHeap.set F br _) ?_ (le _ _) ⟨[⟨d, 3, 0, 0⟩], true, _, rfl, rfl, rdk_mono hK0 (by omega), by simp, by simp; omega⟩
      simp only [resA, go_sem, reduceIte, reduceCtorEq, Nat.reduceEqDiff, Nat.reduceBEq, Nat.reduceAdd, Nat.reduceLeDiff, Nat.reduceMul, Nat.reduceLT, Int.reduceEq, Int.reduceLT, Int.reduceLE]
    by_cases e7 : k0 = 7
    · cases lp
      · simp +contextual -dsimp -implicitDefEqProofs (maxSteps := 5000000) only [go_sem, reduceIte, reduceCtorEq, Nat.reduceEqDiff, Nat.reduceBEq, Nat.reduceAdd, Nat.reduceLeDiff, Nat.reduceMul, Nat.reduceLT, Int.reduceEq, Int.reduceLT, Int.reduceLE, c4, c6, e6, e7, n1, n2]
        refine k_one [7, 8] _ hK0 (nb _) (by omega) (by simp) rfl rfl fun v K1 _ hK1 => ?_
        simp +contextual -dsimp -implicitDefEqProofs (maxSteps := 5000000) only [go_sem, reduceIte, reduceCtorEq, Nat.reduceEqDiff, Nat.reduceBEq, Nat.reduceAdd, Nat.reduceLeDiff, Nat.reduceMul, Nat.reduceLT, Int.reduceEq, Int.reduceLT, Int.reduceLE, c4, c6, e6, e7, n1, n2]
        refine retR_less (l := [.vsl [rLine ⟨d, 4, v, 0⟩] true]) (H' := F.set br K1) ?_ (le _ _) ⟨[⟨d, 4, v, 0⟩], true, K1, rfl, rfl, rdk_mono hK1 (by omega), by simp, by simp; omega⟩
        simp only [resA, go_sem, reduceIte, reduceCtorEq, Nat.reduceEqDiff, Nat.reduceBEq, Nat.reduceAdd, Nat.reduceLeDiff, Nat.reduceMul, Nat.reduceLT, Int.reduceEq, Int.reduceLT, Int.reduceLE]
      · simp +contextual -dsimp -implicitDefEqProofs (maxSteps := 5000000) only [go_sem, reduceIte, reduceCtorEq, Nat.reduceEqDiff, Nat.reduceBEq, Nat.reduceAdd, Nat.reduceLeDiff, Nat.reduceMul, Nat.reduceLT, Int.reduceEq, Int.reduceLT, Int.reduceLE, c4, c6, e6, e7, n1, n2]
        refine k_one [5, 6] _ hK0 (nb _) (by omega) (by simp) rfl rfl fun v K1 _ hK1 => ?_
        simp +contextual -dsimp -implicitDefEqProofs (maxSteps := 5000000) only [go_sem, reduceIte, reduceCtorEq, Nat.reduceEqDiff, Nat.reduceBEq, Nat.reduceAdd, Nat.reduceLeDiff, Nat.reduceMul, Nat.reduceLT, Int.reduceEq, Int.reduceLT, Int.reduceLE, c4, c6, e6, e7, n1, n2]
        refine retR_less (l := [.vsl [rLine ⟨d, v, 0, 0⟩] true]) (H' := F.set br K1) ?_ (le _ _) ⟨[⟨d, v, 0, 0⟩], true, K1, rfl, rfl, rdk_mono hK1 (by omega), by simp, by simp; omega⟩
        simp only [resA, go_sem, reduceIte, reduceCtorEq, Nat.reduceEqDiff, Nat.reduceBEq, Nat.reduceAdd, Nat.reduceLeDiff, Nat.reduceMul, Nat.reduceLT, Int.reduceEq, Int.reduceLT, Int.reduceLE]
    by_cases e8 : k0 = 8
    · simp +contextual -dsimp -implicitDefEqProofs (maxSteps := 5000000) only [go_sem, reduceIte, reduceCtorEq, Nat.reduceEqDiff, Nat.reduceBEq, Nat.reduceAdd, Nat.reduceLeDiff, Nat.reduceMul, Nat.reduceLT, Int.reduceEq, Int.reduceLT, Int.reduceLE, c4, c6, e6, e7, e8, n1, n2]
      refine retR_less (l := [.vsl [rLine ⟨d, 0, 0, 0⟩] true]) (H' := AHeap.set F br _) ?_ (le _ _) ⟨[⟨d, 0, 0, 0⟩], true, _, rfl, rfl, rdk_mono hK0 (by omega), by simp, by simp; omega⟩
      simp only [resA, go_sem, reduceIte, reduceCtorEq, Nat.reduceEqDiff, Nat.reduceBEq, Nat.reduceAdd, Nat.reduceLeDiff, Nat.reduceMul, Nat.reduceLT, Int.reduceEq, Int.reduceLT, Int.reduceLE]
    have h3' : d < 3 := by omega
    have hB := hB h3'
    have hT := hT h3'
    have nb : ∀ K, (F.set b10 K) br = none := fun K => by rw [set_other n2]; exact hF
    have le : ∀ K K', AHeap.le (F.set br K') ((F.set b10 K).set br K') := fun K K' => le_ch (le_s1 (AHeap.le_refl _) hb)
    by_cases c11 : k0 < 11
    · simp +contextual -dsimp -implicitDefEqProofs (maxSteps := 5000000) only [go_sem, reduceIte, reduceCtorEq, Nat.reduceEqDiff, Nat.reduceBEq, Nat.reduceAdd, Nat.reduceLeDiff, Nat.reduceMul, Nat.reduceLT, Int.reduceEq, Int.reduceLT, Int.reduceLE, c4, c6, e6, e7, e8, c11, n1, n2]
      refine k_pick 4 hK0 (nb _) (by omega) rfl fun a K1 _ _ _ hK1 => ?_
      simp +contextual -dsimp -implicitDefEqProofs (maxSteps := 5000000) only [go_sem, reduceIte, reduceCtorEq, Nat.reduceEqDiff, Nat.reduceBEq, Nat.reduceAdd, Nat.reduceLeDiff, Nat.reduceMul, Nat.reduceLT, Int.reduceEq, Int.reduceLT, Int.reduceLE, c4, c6, e6, e7, e8, c11, n1, n2]
      refine k_pick 2 hK1 (nb _) (by omega) rfl fun b K2 _ _ _ hK2 => ?_
      simp +contextual -dsimp -implicitDefEqProofs (maxSteps := 5000000) only [go_sem, reduceIte, reduceCtorEq, Nat.reduceEqDiff, Nat.reduceBEq, Nat.reduceAdd, Nat.reduceLeDiff, Nat.reduceMul, Nat.reduceLT, Int.reduceEq, Int.reduceLT, Int.reduceLE, c4, c6, e6, e7, e8, c11, n1, n2]
      refine draw_intro [1, 0, 0, 0, 0, 0, 0, 3, 2, 0] _ (by kernel_rfl) (le_set (nb _)) ?_
      simp +contextual -dsimp -implicitDefEqProofs (maxSteps := 5000000) only [go_sem, reduceIte, reduceCtorEq, Nat.reduceEqDiff, Nat.reduceBEq, Nat.reduceAdd, Nat.reduceLeDiff, Nat.reduceMul, Nat.reduceLT, Int.reduceEq, Int.reduceLT, Int.reduceLE, c4, c6, e6, e7, e8, c11, n1, n2, hwd]
      refine (hB _ br _ _ t cl lp hK2 (nb _) (by omega)).mono ?_
      rintro _ H' ⟨l2, cl2, K4, rfl, rfl, hK4, h3, h4⟩
      refine ⟨le_set (nb _), ?_⟩
      simp +contextual -dsimp -implicitDefEqProofs (maxSteps := 5000000) only [go_sem, reduceIte, reduceCtorEq, Nat.reduceEqDiff, Nat.reduceBEq, Nat.reduceAdd, Nat.reduceLeDiff, Nat.reduceMul, Nat.reduceLT, Int.reduceEq, Int.reduceLT, Int.reduceLE, c4, c6, e6, e7, e8, c11, n1, n2, hwd]
      refine app_lit (y := ⟨d, 11, a, b⟩) rfl h3 (by omega) fun x' H' hg => ?_
      obtain ⟨G, hg0, rfl, u0⟩ := grow_out hg (nb _)
      have hg0' := grow_in (K := K4) hg0 u0
      obtain ⟨G2, hg2, rfl, u2⟩ := grow_out hg0 hb
      have u2r : G2 br = none := by rw [set_none] at u0; exact u0.2.2
      simp +contextual -dsimp -implicitDefEqProofs (maxSteps := 5000000) only [go_sem, reduceIte, reduceCtorEq, Nat.reduceEqDiff, Nat.reduceBEq, Nat.reduceAdd, Nat.reduceLeDiff, Nat.reduceMul, Nat.reduceLT, Int.reduceEq, Int.reduceLT, Int.reduceLE, c4, c6, e6, e7, e8, c11, n1, n2, hwd]
      refine grow_frz (t := 8) hg0' fun cl3 => ?_
      refine retR_less (l := [.vsl ((⟨d, 11, a, b⟩ :: l2).map rLine) cl3]) (H' := F.set br K4) ?_ (le _ _) ⟨⟨d, 11, a, b⟩ :: l2, cl3, K4, rfl, rfl, rdk_mono hK4 (by omega), by simp, by simp; omega⟩
      simp only [resA, go_sem, reduceIte, reduceCtorEq, Nat.reduceEqDiff, Nat.reduceBEq, Nat.reduceAdd, Nat.reduceLeDiff, Nat.reduceMul, Nat.reduceLT, Int.reduceEq, Int.reduceLT, Int.reduceLE]
    by_cases e11 : k0 = 11
    · simp +contextual -dsimp -implicitDefEqProofs (maxSteps := 5000000) only [go_sem, reduceIte, reduceCtorEq, Nat.reduceEqDiff, Nat.reduceBEq, Nat.reduceAdd, Nat.reduceLeDiff, Nat.reduceMul, Nat.reduceLT, Int.reduceEq, Int.reduceLT, Int.reduceLE, c4, c6, e6, e7, e8, c11, e11, n1, n2]
      refine k_one [2, 1, 3, 0] _ hK0 (nb _) (by omega) (by simp) rfl rfl fun a K2 _ hK2 => ?_
      simp +contextual -dsimp -implicitDefEqProofs (maxSteps := 5000000) only [go_sem, reduceIte, reduceCtorEq, Nat.reduceEqDiff, Nat.reduceBEq, Nat.reduceAdd, Nat.reduceLeDiff, Nat.reduceMul, Nat.reduceLT, Int.reduceEq, Int.reduceLT, Int.reduceLE, c4, c6, e6, e7, e8, c11, e11, n1, n2]
      refine draw_intro [1, 0, 0, 0, 0, 0, 3, 2, 0] _ (by kernel_rfl) (le_set (nb _)) ?_
      simp +contextual -dsimp -implicitDefEqProofs (maxSteps := 5000000) only [go_sem, reduceIte, reduceCtorEq, Nat.reduceEqDiff, Nat.reduceBEq, Nat.reduceAdd, Nat.reduceLeDiff, Nat.reduceMul, Nat.reduceLT, Int.reduceEq, Int.reduceLT, Int.reduceLE, c4, c6, e6, e7, e8, c11, n1, n2, e11, hwd]
      refine (hB _ br _ _ t cl true hK2 (nb _) (by omega)).mono ?_
      rintro _ H' ⟨l2, cl2, K4, rfl, rfl, hK4, h3, h4⟩
      refine ⟨le_set (nb _), ?_⟩
      simp +contextual -dsimp -implicitDefEqProofs (maxSteps := 5000000) only [go_sem, reduceIte, reduceCtorEq, Nat.reduceEqDiff, Nat.reduceBEq, Nat.reduceAdd, Nat.reduceLeDiff, Nat.reduceMul, Nat.reduceLT, Int.reduceEq, Int.reduceLT, Int.reduceLE, c4, c6, e6, e7, e8, c11, n1, n2, e11, hwd]
      refine app_lit (y := ⟨d, 12, a, 0⟩) rfl h3 (by omega) fun x' H' hg => ?_
      obtain ⟨G, hg0, rfl, u0⟩ := grow_out hg (nb _)
      have hg0' := grow_in (K := K4) hg0 u0
      obtain ⟨G2, hg2, rfl, u2⟩ := grow_out hg0 hb
      have u2r : G2 br = none := by rw [set_none] at u0; exact u0.2.2
      simp +contextual -dsimp -implicitDefEqProofs (maxSteps := 5000000) only [go_sem, reduceIte, reduceCtorEq, Nat.reduceEqDiff, Nat.reduceBEq, Nat.reduceAdd, Nat.reduceLeDiff, Nat.reduceMul, Nat.reduceLT, Int.reduceEq, Int.reduceLT, Int.reduceLE, c4, c6, e6, e7, e8, c11, n1, n2, e11, hwd]
      refine grow_frz (t := 8) hg0' fun cl3 => ?_
      refine retR_less (l := [.vsl ((⟨d, 12, a, 0⟩ :: l2).map rLine) cl3]) (H' := F.set br K4) ?_ (le _ _) ⟨⟨d, 12, a, 0⟩ :: l2, cl3, K4, rfl, rfl, rdk_mono hK4 (by omega), by simp, by simp; omega⟩
      simp only [resA, go_sem, reduceIte, reduceCtorEq, Nat.reduceEqDiff, Nat.reduceBEq, Nat.reduceAdd, Nat.reduceLeDiff, Nat.reduceMul, Nat.reduceLT, Int.reduceEq, Int.reduceLT, Int.reduceLE]
    · simp +contextual -dsimp -implicitDefEqProofs (maxSteps := 5000000) only [go_sem, reduceIte, reduceCtorEq, Nat.reduceEqDiff, Nat.reduceBEq, Nat.reduceAdd, Nat.reduceLeDiff, Nat.reduceMul, Nat.reduceLT, Int.reduceEq, Int.reduceLT, Int.reduceLE, c4, c6, e6, e7, e8, c11, e11, n1, n2]
      refine (hT _ br _ _ t cl lp hK0 (nb _) (by omega)).mono ?_
      rintro _ H' ⟨l2, cl2, K4, rfl, rfl, hK4, h3, h4⟩
      simp +contextual -dsimp -implicitDefEqProofs (maxSteps := 5000000) only [go_sem, reduceIte, reduceCtorEq, Nat.reduceEqDiff, Nat.reduceBEq, Nat.reduceAdd, Nat.reduceLeDiff, Nat.reduceMul, Nat.reduceLT, Int.reduceEq, Int.reduceLT, Int.reduceLE, c4, c6, e6, e7, e8, c11, e11, n1, n2]
      refine retR_less (l := [.vsl (l2.map rLine) cl2]) (H' := F.set br K4) ?_ (le _ _) ⟨l2, cl2, K4, rfl, rfl, rdk_mono hK4 (by omega), h3, by omega⟩
      simp only [resA, go_sem, reduceIte, reduceCtorEq, Nat.reduceEqDiff, Nat.reduceBEq, Nat.reduceAdd, Nat.reduceLeDiff, Nat.reduceMul, Nat.reduceLT, Int.reduceEq, Int.reduceLT, Int.reduceLE]
end
section
open Go Go.Sim
set_option maxRecDepth 100000
set_option maxHeartbeats 4000000

theorem st3 : DrawnF 122 6 3 := c_aStatement (p1 := 0) (p2 := 0) (by omega) (by omega) (by omega) (by omega) (by omega) (fun h => absurd h (by omega)) (fun h => absurd h (by omega))
theorem blk3 : Drawn 99 19 3 := c_aBlock (by omega) st3
theorem try2 : Drawn 98 105 2 := c_aTry (p := 19) (by omega) (by omega) blk3.frz
theorem st2 : DrawnF 122 111 2 := c_aStatement (p1 := 19) (p2 := 105) (by omega) (by omega) (by omega) (by omega) (by omega) (fun _ => blk3.frz) (fun _ => try2.frz)
theorem blk2 : Drawn 99 334 2 := c_aBlock (by omega) st2
theorem try1 : Drawn 98 1680 1 := c_aTry (p := 334) (by omega) (by omega) blk2.frz
theorem st1 : DrawnF 122 1686 1 := c_aStatement (p1 := 334) (p2 := 1680) (by omega) (by omega) (by omega) (by omega) (by omega) (fun _ => blk2.frz) (fun _ => try1.frz)
theorem blk1 : Drawn 99 5059 1 := c_aBlock (by omega) st1
theorem try0 : Drawn 98 25305 0 := c_aTry (p := 5059) (by omega) (by omega) blk1.frz
theorem st0 : DrawnF 122 25311 0 := c_aStatement (p1 := 5059) (p2 := 25305) (by omega) (by omega) (by omega) (by omega) (by omega) (fun _ => blk1.frz) (fun _ => try0.frz)
theorem blk0 : Drawn 99 75934 0 := c_aBlock (by omega) st0
/-- What is told beside blocks that nobody needs. -/
theorem grow_drop {α : Type} {f : α → List AV} {sz : Nat} {ty : TypeId} {F F0 G : AHeap} {x : AV} {l : List α} (hg : Grow f sz ty F0 G x l) (hle : F.le F0) : ∃ G', Grow f sz ty F G' x l ∧ G'.le G := by
  rcases hg with ⟨rfl, rfl, rfl⟩ | ⟨b, cl, hb, rfl, rfl⟩
  · exact ⟨F, .inl ⟨rfl, rfl, rfl⟩, hle⟩
  · have hb' : F b = none := by
      cases h : F b with
      | none => rfl
      | some k => rw [hle b k h] at hb; cases hb
    exact ⟨_, .inr ⟨b, cl, hb', rfl, rfl⟩, le_ch hle⟩
theorem le_none {F G : AHeap} {b : Nat} (h : F.le G) (hb : G b = none) : F b = none := by
  cases hq : F b with
  | none => rfl
  | some k => rw [h b k hq] at hb; cases hb
theorem c_goodProgram (F : AHeap) (br n : Nat) (K : ABlk) (t : List Class) (cl : Bool) (h : RdK n K) (hF : F br = none) (hn : n < 500000000) : ACalls Tryz.prog 64 [.ptr br 2 0 0, aTree t cl] (F.set br K) fun r H' =>
    ∃ (l : List Line) (G : AHeap) (K' : ABlk), Grow rLine 4 44 F G r l ∧ G br = none ∧ H' = G.set br K' ∧ RdK (n + 900000) K' ∧ 1 ≤ l.length ∧ l.length ≤ 24 := by
  refine acalls_of1 Tryz.func64 rfl (by kernel_rfl) rfl rfl (awp_sound (fz := fun _ => []) (im := fun s => s == 3) mixed _ _ _ _ (by kernel_rfl) ?_)
  simp +contextual -dsimp -implicitDefEqProofs (maxSteps := 5000000) only [go_sem, reduceIte, reduceCtorEq, Nat.reduceEqDiff, Nat.reduceBEq, Nat.reduceAdd, Nat.reduceLeDiff, Nat.reduceMul, Nat.reduceLT, Int.reduceEq, Int.reduceLT, Int.reduceLE]
  refine aloop mixed (fz := fun _ => []) (im := fun s => s == 3) (by kernel_rfl) (fun m tm H' => ∃ (F0 : AHeap) (K : ABlk) (i : Nat), m = 4 - i ∧ i ≤ 4 ∧ F.le F0 ∧ F0 br = none ∧ RdK (n + i * 180000) K ∧ H' = F0.set br K ∧ tm 0 = .ptr br 2 0 0 ∧ tm 3 = .vptr [[.vsl (t.map rClass) cl]] 0 0 ∧ tm 5 = I i) 4 ⟨F, K, 0, rfl, by omega, AHeap.le_refl _, hF, by simpa using h, rfl, ?_⟩ ?_
  · simp +contextual -dsimp -implicitDefEqProofs (maxSteps := 5000000) only [go_sem, reduceIte, reduceCtorEq, Nat.reduceEqDiff, Nat.reduceBEq, Nat.reduceAdd, Nat.reduceLeDiff, Nat.reduceMul, Nat.reduceLT, Int.reduceEq, Int.reduceLT, Int.reduceLE]
  · rintro m tm H' ⟨F0, K, i, rfl, hi, hle, fr, hK, rfl, t0, t3, t5⟩
    by_cases hlt : (i : Int) < 4
    · have hi4 : i < 4 := by omega
      simp +contextual -dsimp -implicitDefEqProofs (maxSteps := 5000000) only [go_sem, reduceIte, reduceCtorEq, Nat.reduceEqDiff, Nat.reduceBEq, Nat.reduceAdd, Nat.reduceLeDiff, Nat.reduceMul, Nat.reduceLT, Int.reduceEq, Int.reduceLT, Int.reduceLE, t0, t3, t5, hlt]
      refine (try0 F0 br _ K t cl false hK fr (by omega)).mono ?_
      rintro x H' ⟨l, G, K1, hg, fr1, rfl, hK1, h1, h2⟩
      simp +contextual -dsimp -implicitDefEqProofs (maxSteps := 5000000) only [go_sem, reduceIte, reduceCtorEq, Nat.reduceEqDiff, Nat.reduceBEq, Nat.reduceAdd, Nat.reduceLeDiff, Nat.reduceMul, Nat.reduceLT, Int.reduceEq, Int.reduceLT, Int.reduceLE, t0, t3, t5, hlt]
      refine k_pick 3 hK1 fr1 (by omega) rfl fun v K2 _ _ _ hK2 => ?_
      simp +contextual -dsimp -implicitDefEqProofs (maxSteps := 5000000) only [go_sem, reduceIte, reduceCtorEq, Nat.reduceEqDiff, Nat.reduceBEq, Nat.reduceAdd, Nat.reduceLeDiff, Nat.reduceMul, Nat.reduceLT, Int.reduceEq, Int.reduceLT, Int.reduceLE, t0, t3, t5, hlt]
      refine ⟨fun _ => ?_, fun _ => ?_⟩
      · refine (blk0.frz G br _ K2 t cl false hK2 fr1 (by omega)).mono ?_
        rintro _ H' ⟨l2, cl2, K3, rfl, rfl, hK3, h3, h4⟩
        simp +contextual -dsimp -implicitDefEqProofs (maxSteps := 5000000) only [go_sem, reduceIte, reduceCtorEq, Nat.reduceEqDiff, Nat.reduceBEq, Nat.reduceAdd, Nat.reduceLeDiff, Nat.reduceMul, Nat.reduceLT, Int.reduceEq, Int.reduceLT, Int.reduceLE, t0, t3, t5, hlt]
        refine app_lines (m := l2) (grow_in hg fr1) (by omega) rfl fun x' H' hg' => ?_
        obtain ⟨G1, hg1, rfl, u1⟩ := grow_out hg' (grow_none hg fr1)
        simp +contextual -dsimp -implicitDefEqProofs (maxSteps := 5000000) only [go_sem, reduceIte, reduceCtorEq, Nat.reduceEqDiff, Nat.reduceBEq, Nat.reduceAdd, Nat.reduceLeDiff, Nat.reduceMul, Nat.reduceLT, Int.reduceEq, Int.reduceLT, Int.reduceLE, t0, t3, t5, hlt]
        refine k_pick 4 hK3 u1 (by omega) rfl fun w K5 _ _ _ hK5 => ?_
        simp +contextual -dsimp -implicitDefEqProofs (maxSteps := 5000000) only [go_sem, reduceIte, reduceCtorEq, Nat.reduceEqDiff, Nat.reduceBEq, Nat.reduceAdd, Nat.reduceLeDiff, Nat.reduceMul, Nat.reduceLT, Int.reduceEq, Int.reduceLT, Int.reduceLE, t0, t3, t5, hlt]
        refine ⟨fun _ => ?_, fun _ => ?_⟩
        · refine (blk0 _ br _ _ t cl false hK5 u1 (by omega)).mono ?_
          rintro x6 H' ⟨l6, G6, K6, hg6, fr6, rfl, hK6, h5, h6⟩
          simp +contextual -dsimp -implicitDefEqProofs (maxSteps := 5000000) only [go_sem, reduceIte, reduceCtorEq, Nat.reduceEqDiff, Nat.reduceBEq, Nat.reduceAdd, Nat.reduceLeDiff, Nat.reduceMul, Nat.reduceLT, Int.reduceEq, Int.reduceLT, Int.reduceLE, t0, t3, t5, hlt]
          have hlen := grow_len te26 hg6
          simp +contextual -dsimp -implicitDefEqProofs (maxSteps := 5000000) only [go_sem, reduceIte, reduceCtorEq, Nat.reduceEqDiff, Nat.reduceBEq, Nat.reduceAdd, Nat.reduceLeDiff, Nat.reduceMul, Nat.reduceLT, Int.reduceEq, Int.reduceLT, Int.reduceLE, t0, t3, t5, hlt, hlen]
          refine ⟨fun h24 => ?_, fun h24 => ?_⟩
          · obtain ⟨G', hg', le'⟩ := grow_drop hg6 (AHeap.le_trans hle (grow_le hg1))
            refine retR_less (l := [x6]) (H' := G'.set br _) ?_ (le_ch le') ⟨_, G', _, hg', le_none le' fr6, rfl, rdk_mono hK6 (by omega), by first | omega | (simp; omega), by first | omega | (simp at h24 ⊢; omega)⟩
            simp only [resA, go_sem, reduceIte, reduceCtorEq, Nat.reduceEqDiff, Nat.reduceBEq, Nat.reduceAdd, Nat.reduceLeDiff, Nat.reduceMul, Nat.reduceLT, Int.reduceEq, Int.reduceLT, Int.reduceLE]
          · exact ⟨_, by omega, _, _, i + 1, rfl, by omega, AHeap.le_trans (AHeap.le_trans hle (grow_le hg1)) (grow_le hg6), fr6, rdk_mono hK6 (by omega), rfl, I_wrap (by omega) (by omega) (by omega)⟩
        · skip
          have hlen := grow_len te26 hg1
          simp +contextual -dsimp -implicitDefEqProofs (maxSteps := 5000000) only [go_sem, reduceIte, reduceCtorEq, Nat.reduceEqDiff, Nat.reduceBEq, Nat.reduceAdd, Nat.reduceLeDiff, Nat.reduceMul, Nat.reduceLT, Int.reduceEq, Int.reduceLT, Int.reduceLE, t0, t3, t5, hlt, hlen]
          refine ⟨fun h24 => ?_, fun h24 => ?_⟩
          · obtain ⟨G', hg', le'⟩ := grow_drop hg1 hle
            refine retR_less (l := [x']) (H' := G'.set br _) ?_ (le_ch le') ⟨_, G', _, hg', le_none le' u1, rfl, rdk_mono hK5 (by omega), by first | omega | (simp; omega), by first | omega | (simp at h24 ⊢; omega)⟩
            simp only [resA, go_sem, reduceIte, reduceCtorEq, Nat.reduceEqDiff, Nat.reduceBEq, Nat.reduceAdd, Nat.reduceLeDiff, Nat.reduceMul, Nat.reduceLT, Int.reduceEq, Int.reduceLT, Int.reduceLE]
          · exact ⟨_, by omega, _, _, i + 1, rfl, by omega, AHeap.le_trans hle (grow_le hg1), u1, rdk_mono hK5 (by omega), rfl, I_wrap (by omega) (by omega) (by omega)⟩
      · skip
        refine k_pick 4 hK2 fr1 (by omega) rfl fun w K5 _ _ _ hK5 => ?_
        simp +contextual -dsimp -implicitDefEqProofs (maxSteps := 5000000) only [go_sem, reduceIte, reduceCtorEq, Nat.reduceEqDiff, Nat.reduceBEq, Nat.reduceAdd, Nat.reduceLeDiff, Nat.reduceMul, Nat.reduceLT, Int.reduceEq, Int.reduceLT, Int.reduceLE, t0, t3, t5, hlt]
        refine ⟨fun _ => ?_, fun _ => ?_⟩
        · refine (blk0 _ br _ _ t cl false hK5 fr1 (by omega)).mono ?_
          rintro x6 H' ⟨l6, G6, K6, hg6, fr6, rfl, hK6, h5, h6⟩
          simp +contextual -dsimp -implicitDefEqProofs (maxSteps := 5000000) only [go_sem, reduceIte, reduceCtorEq, Nat.reduceEqDiff, Nat.reduceBEq, Nat.reduceAdd, Nat.reduceLeDiff, Nat.reduceMul, Nat.reduceLT, Int.reduceEq, Int.reduceLT, Int.reduceLE, t0, t3, t5, hlt]
          have hlen := grow_len te26 hg6
          simp +contextual -dsimp -implicitDefEqProofs (maxSteps := 5000000) only [go_sem, reduceIte, reduceCtorEq, Nat.reduceEqDiff, Nat.reduceBEq, Nat.reduceAdd, Nat.reduceLeDiff, Nat.reduceMul, Nat.reduceLT, Int.reduceEq, Int.reduceLT, Int.reduceLE, t0, t3, t5, hlt, hlen]
          refine ⟨fun h24 => ?_, fun h24 => ?_⟩
          · obtain ⟨G', hg', le'⟩ := grow_drop hg6 (AHeap.le_trans hle (grow_le hg))
            refine retR_less (l := [x6]) (H' := G'.set br _) ?_ (le_ch le') ⟨_, G', _, hg', le_none le' fr6, rfl, rdk_mono hK6 (by omega), by first | omega | (simp; omega), by first | omega | (simp at h24 ⊢; omega)⟩
            simp only [resA, go_sem, reduceIte, reduceCtorEq, Nat.reduceEqDiff, Nat.reduceBEq, Nat.reduceAdd, Nat.reduceLeDiff, Nat.reduceMul, Nat.reduceLT, Int.reduceEq, Int.reduceLT, Int.reduceLE]
          · exact ⟨_, by omega, _, _, i + 1, rfl, by omega, AHeap.le_trans (AHeap.le_trans hle (grow_le hg)) (grow_le hg6), fr6, rdk_mono hK6 (by omega), rfl, I_wrap (by omega) (by omega) (by omega)⟩
        · skip
          have hlen := grow_len te26 hg
          simp +contextual -dsimp -implicitDefEqProofs (maxSteps := 5000000) only [go_sem, reduceIte, reduceCtorEq, Nat.reduceEqDiff, Nat.reduceBEq, Nat.reduceAdd, Nat.reduceLeDiff, Nat.reduceMul, Nat.reduceLT, Int.reduceEq, Int.reduceLT, Int.reduceLE, t0, t3, t5, hlt, hlen]
          refine ⟨fun h24 => ?_, fun h24 => ?_⟩
          · obtain ⟨G', hg', le'⟩ := grow_drop hg hle
            refine retR_less (l := [x]) (H' := G'.set br _) ?_ (le_ch le') ⟨_, G', _, hg', le_none le' fr1, rfl, rdk_mono hK5 (by omega), by first | omega | (simp; omega), by first | omega | (simp at h24 ⊢; omega)⟩
            simp only [resA, go_sem, reduceIte, reduceCtorEq, Nat.reduceEqDiff, Nat.reduceBEq, Nat.reduceAdd, Nat.reduceLeDiff, Nat.reduceMul, Nat.reduceLT, Int.reduceEq, Int.reduceLT, Int.reduceLE]
          · exact ⟨_, by omega, _, _, i + 1, rfl, by omega, AHeap.le_trans hle (grow_le hg), fr1, rdk_mono hK5 (by omega), rfl, I_wrap (by omega) (by omega) (by omega)⟩
    · simp +contextual -dsimp -implicitDefEqProofs (maxSteps := 5000000) only [go_sem, reduceIte, reduceCtorEq, Nat.reduceEqDiff, Nat.reduceBEq, Nat.reduceAdd, Nat.reduceLeDiff, Nat.reduceMul, Nat.reduceLT, Int.reduceEq, Int.reduceLT, Int.reduceLE, t0, t3, t5, hlt]
      rintro b36 ⟨w1, w2, hb36⟩
      rw [br_out w1]
      have hb : F b36 = none := le_none hle hb36
      refine retR_less (l := [.sl b36 4 0 4 true]) (H' := (F.set b36 ⟨4, 44, ([⟨0, 7, 0, 0⟩, ⟨1, 2, 0, 1⟩, ⟨0, 10, 0, 0⟩, ⟨1, 1, 1, 0⟩] : List Line).map rLine⟩).set br K) ?_ (le_ch (le_ch hle)) ⟨_, _, K, .inr ⟨b36, true, hb, rfl, rfl⟩, by rw [set_other w2]; exact hF, rfl, rdk_mono hK (by omega), by simp, by simp⟩
      simp only [resA, go_sem, reduceIte, reduceCtorEq, Nat.reduceEqDiff, Nat.reduceBEq, Nat.reduceAdd, Nat.reduceLeDiff, Nat.reduceMul, Nat.reduceLT, Int.reduceEq, Int.reduceLT, Int.reduceLE]
end
section
open Go Go.Sim
set_option maxRecDepth 100000
set_option maxHeartbeats 4000000

theorem c_someProgram0 (F : AHeap) (br n : Nat) (K : ABlk) (h : RdK n K) (hF : F br = none) (hn : n < 400000000) : ACalls Tryz.prog 31 [.ptr br 2 0 0] (F.set br K) fun r H' =>
    ∃ t cl x, ∃ l : List Line, ∃ cl' G K', r = .tup [aTree t cl, x] ∧ Fz (AHeap.set G br K') (F.set br K') x (.vsl (l.map rLine) cl') ∧ F.le G ∧ H' = G.set br K' ∧ RdK (n + 1000000) K' ∧ t.length ≤ 8 ∧ shortNames t ∧ l.length ≤ 24 := by
  refine acalls_of1 Tryz.func31 rfl (by kernel_rfl) rfl rfl (awp_sound (fz := fun r => if r = 13 then [5] else []) (im := fun s => s == 15 || s == 30 || s == 39 || s == 48) mixed _ _ _ _ (by kernel_rfl) ?_)
  simp +contextual -dsimp -implicitDefEqProofs (maxSteps := 5000000) only [go_sem, reduceIte, reduceCtorEq, Nat.reduceEqDiff, Nat.reduceBEq, Nat.reduceAdd, Nat.reduceLeDiff, Nat.reduceMul, Nat.reduceLT, Int.reduceEq, Int.reduceLT, Int.reduceLE]
  rintro b2 ⟨p1, p2, hb2⟩
  rw [br_out p1]
  have n2 : ∀ K4, (F.set b2 K4) br = none := fun K4 => by rw [set_other p2]; exact hF
  refine (c_someTreeF _ br n K h (n2 _) (by omega)).mono ?_
  rintro _ _ ⟨t, cl, K1, rfl, rfl, hK1, ht8, hs⟩
  simp +contextual -dsimp -implicitDefEqProofs (maxSteps := 5000000) only [go_sem, reduceIte, reduceCtorEq, Nat.reduceEqDiff, Nat.reduceBEq, Nat.reduceAdd, Nat.reduceLeDiff, Nat.reduceMul, Nat.reduceLT, Int.reduceEq, Int.reduceLT, Int.reduceLE, p1, p2]
  rintro b4 ⟨q1, q2, q3, q4, hb4⟩
  simp only [br_out q1]
  have n4 : ∀ K4 K5, ((F.set b2 K4).set b4 K5) br = none := fun K4 K5 => by rw [set_other q2]; exact n2 _
  refine ⟨fun h0 => ?_, fun h0 => ?_⟩
  · refine retR_less (l := [aTree t cl, .vsl [rLine ⟨0, 0, 0, 0⟩] true]) (H' := F.set br K1) ?_ (le_ch (le_s1 (le_s1 (AHeap.le_refl _) hb2) hb4)) ⟨t, cl, _, [⟨0, 0, 0, 0⟩], true, F, K1, rfl, .same _, AHeap.le_refl _, rfl, rdk_mono hK1 (by omega), ht8, hs, by simp⟩
    simp only [resA, go_sem, reduceIte, reduceCtorEq, Nat.reduceEqDiff, Nat.reduceBEq, Nat.reduceAdd, Nat.reduceLeDiff, Nat.reduceMul, Nat.reduceLT, Int.reduceEq, Int.reduceLT, Int.reduceLE, p1, p2, q1, q2, q3, q4]
  · refine (c_goodProgram _ br _ K1 t cl hK1 (n4 _ _) (by omega)).mono ?_
    rintro _ _ ⟨l, G0, K2, hg0, hr0, rfl, hK2, h1, h24⟩
    rcases hg0 with ⟨e, _, _⟩ | ⟨bx, clx, hbx, rfl, rfl⟩
    · rw [e] at h1; simp at h1
    have hbx' := hbx
    have hr' := hr0
    rw [set_none, set_none] at hbx'
    rw [set_none] at hr'
    obtain ⟨s1, s2, s3, s4, hbF⟩ := hbx'
    obtain ⟨s5, s6, _⟩ := hr'
    have n6 : ∀ (A C D : ABlk), (((F.set b2 A).set b4 C).set bx D) br = none := fun A C D => by rw [set_other s5]; exact n4 _ _
    have fin : ∀ (l' : List Line) (off len : Nat) (c' : Bool) (K3 : ABlk) (tm : Tm), off + len ≤ l'.length → len ≤ 24 → RdK (n + 1000000) K3 → tm 2 = .ptr b2 1 0 0 → tm 3 = .sl bx 4 off len c' → retR Tryz.prog [.cell 2 25, .tmp 3] (fun r H' => ∃ t cl x, ∃ l : List Line, ∃ cl' G K', r = .tup [aTree t cl, x] ∧ Fz (AHeap.set G br K') (F.set br K') x (.vsl (l.map rLine) cl') ∧ F.le G ∧ H' = G.set br K' ∧ RdK (n + 1000000) K' ∧ t.length ≤ 8 ∧ shortNames t ∧ l.length ≤ 24) tm
        ((((F.set b2 ⟨1, 25, [[.vsl (t.map rClass) cl]]⟩).set b4 ⟨1, 25, [[.vsl (t.map rClass) cl]]⟩).set bx ⟨4, 44, l'.map rLine⟩).set br K3) := by
      intro l' off len c' K3 tm hol hl24 hK3 h2 h3
      have hz := Fz.sl (H := (F.set bx ⟨4, 44, l'.map rLine⟩).set br K3) (K := F.set br K3) (b := bx) (sz := 4) (off := off) (len := len) (cl := c') (k := ⟨4, 44, l'.map rLine⟩) (by rw [set_other s6, AHeap.set_self]) rfl (by simpa using hol) (by rw [set_other s6]; exact hbF)
      have he : ((l'.map rLine).drop off).take len = ((l'.drop off).take len).map rLine := by rw [List.map_take, List.map_drop]
      simp only [he] at hz
      refine retR_less (l := [aTree t cl, .sl bx 4 off len c']) (H' := (F.set bx ⟨4, 44, l'.map rLine⟩).set br K3) ?_ (le_ch (le_ch (le_s1 (le_s1 (AHeap.le_refl _) hb2) hb4))) ⟨t, cl, _, (l'.drop off).take len, c', _, K3, rfl, hz, le_s1 (AHeap.le_refl _) hbF, rfl, hK3, ht8, hs, by simp; omega⟩
      simp only [resA, go_sem, reduceIte, reduceCtorEq, Nat.reduceEqDiff, Nat.reduceBEq, Nat.reduceAdd, Nat.reduceLeDiff, Nat.reduceMul, Nat.reduceLT, Int.reduceEq, Int.reduceLT, Int.reduceLE, p1, p2, q1, q2, q3, q4, s1, s2, s3, s4, s5, s6, h2, h3]
    have finV : ∀ (l' : List Line) (c' : Bool) (K3 : ABlk) (tm : Tm), l'.length ≤ 24 → RdK (n + 1000000) K3 → tm 2 = .ptr b2 1 0 0 → tm 3 = .vsl (l'.map rLine) c' → retR Tryz.prog [.cell 2 25, .tmp 3] (fun r H' => ∃ t cl x, ∃ l : List Line, ∃ cl' G K', r = .tup [aTree t cl, x] ∧ Fz (AHeap.set G br K') (F.set br K') x (.vsl (l.map rLine) cl') ∧ F.le G ∧ H' = G.set br K' ∧ RdK (n + 1000000) K' ∧ t.length ≤ 8 ∧ shortNames t ∧ l.length ≤ 24) tm
        (((F.set b2 ⟨1, 25, [[.vsl (t.map rClass) cl]]⟩).set b4 ⟨1, 25, [[.vsl (t.map rClass) cl]]⟩).set br K3) := by
      intro l' c' K3 tm hl24 hK3 h2 h3
      refine retR_less (l := [aTree t cl, .vsl (l'.map rLine) c']) (H' := F.set br K3) ?_ (le_ch (le_s1 (le_s1 (AHeap.le_refl _) hb2) hb4)) ⟨t, cl, _, l', c', F, K3, rfl, .same _, AHeap.le_refl _, rfl, hK3, ht8, hs, hl24⟩
      simp only [resA, go_sem, reduceIte, reduceCtorEq, Nat.reduceEqDiff, Nat.reduceBEq, Nat.reduceAdd, Nat.reduceLeDiff, Nat.reduceMul, Nat.reduceLT, Int.reduceEq, Int.reduceLT, Int.reduceLE, p1, p2, q1, q2, q3, q4, h2, h3]
    have htk : List.take l.length (l.map rLine) = l.map rLine := List.take_of_length_le (by simp)
    have delx : ∀ (G : AHeap) (L K : ABlk), G bx = none → ((G.set bx L).set br K).del bx = G.set br K := fun G L K hG => by rw [set_comm s6, set_del (by rw [set_other s6]; exact hG)]
    simp +contextual -dsimp -implicitDefEqProofs (maxSteps := 5000000) only [go_sem, reduceIte, reduceCtorEq, Nat.reduceEqDiff, Nat.reduceBEq, Nat.reduceAdd, Nat.reduceLeDiff, Nat.reduceMul, Nat.reduceLT, Int.reduceEq, Int.reduceLT, Int.reduceLE, p1, p2, q1, q2, q3, q4, s1, s2, s3, s4, s5, s6]
    refine k_pick l.length hK2 (n6 _ _ _) (by omega) rfl fun v K3 v0 v1 _ hK3 => ?_
    have vl := v1 (by omega)
    have vn : v.toNat < l.length := by omega
    simp +contextual -dsimp -implicitDefEqProofs (maxSteps := 5000000) only [go_sem, reduceIte, reduceCtorEq, Nat.reduceEqDiff, Nat.reduceBEq, Nat.reduceAdd, Nat.reduceLeDiff, Nat.reduceMul, Nat.reduceLT, Int.reduceEq, Int.reduceLT, Int.reduceLE, p1, p2, q1, q2, q3, q4, s1, s2, s3, s4, s5, s6]
    refine k_pick 24 hK3 (n6 _ _ _) (by omega) rfl fun z K4 _ _ _ hK4 => ?_
    by_cases c0 : z = 0
    · simp +contextual -dsimp -implicitDefEqProofs (maxSteps := 5000000) only [go_sem, reduceIte, reduceCtorEq, Nat.reduceEqDiff, Nat.reduceBEq, Nat.reduceAdd, Nat.reduceLeDiff, Nat.reduceMul, Nat.reduceLT, Int.reduceEq, Int.reduceLT, Int.reduceLE, c0, p1, p2, q1, q2, q3, q4, s1, s2, s3, s4, s5, s6]
      refine k_one [-1, 6, 0, 1] _ hK4 (n6 _ _ _) (by omega) (by simp) rfl rfl fun s K5 _ hK5 => ?_
      simp +contextual -dsimp -implicitDefEqProofs (maxSteps := 5000000) only [go_sem, reduceIte, reduceCtorEq, Nat.reduceEqDiff, Nat.reduceBEq, Nat.reduceAdd, Nat.reduceLeDiff, Nat.reduceMul, Nat.reduceLT, Int.reduceEq, Int.reduceLT, Int.reduceLE, c0, p1, p2, q1, q2, q3, q4, s1, s2, s3, s4, s5, s6, v0, vl, vn]
      rw [wrO_y (y := { l.getD v.toNat default with depth := s }) vn rfl]
      simp +contextual -dsimp -implicitDefEqProofs (maxSteps := 5000000) only [go_sem, reduceIte, reduceCtorEq, Nat.reduceEqDiff, Nat.reduceBEq, Nat.reduceAdd, Nat.reduceLeDiff, Nat.reduceMul, Nat.reduceLT, Int.reduceEq, Int.reduceLT, Int.reduceLE, c0, p1, p2, q1, q2, q3, q4, s1, s2, s3, s4, s5, s6, v0, vl, vn]
      refine fin (l.set v.toNat { l.getD v.toNat default with depth := s }) 0 l.length clx K5 _ (by simp) h24 (rdk_mono hK5 (by omega)) rfl rfl
    by_cases c1 : z = 1
    · simp +contextual -dsimp -implicitDefEqProofs (maxSteps := 5000000) only [go_sem, reduceIte, reduceCtorEq, Nat.reduceEqDiff, Nat.reduceBEq, Nat.reduceAdd, Nat.reduceLeDiff, Nat.reduceMul, Nat.reduceLT, Int.reduceEq, Int.reduceLT, Int.reduceLE, c0, c1, p1, p2, q1, q2, q3, q4, s1, s2, s3, s4, s5, s6]
      refine k_one [-1, 13, 5, 9, 0] _ hK4 (n6 _ _ _) (by omega) (by simp) rfl rfl fun s K5 _ hK5 => ?_
      simp +contextual -dsimp -implicitDefEqProofs (maxSteps := 5000000) only [go_sem, reduceIte, reduceCtorEq, Nat.reduceEqDiff, Nat.reduceBEq, Nat.reduceAdd, Nat.reduceLeDiff, Nat.reduceMul, Nat.reduceLT, Int.reduceEq, Int.reduceLT, Int.reduceLE, c0, c1, p1, p2, q1, q2, q3, q4, s1, s2, s3, s4, s5, s6, v0, vl, vn]
      rw [wrO_y (y := { l.getD v.toNat default with kind := s }) vn rfl]
      simp +contextual -dsimp -implicitDefEqProofs (maxSteps := 5000000) only [go_sem, reduceIte, reduceCtorEq, Nat.reduceEqDiff, Nat.reduceBEq, Nat.reduceAdd, Nat.reduceLeDiff, Nat.reduceMul, Nat.reduceLT, Int.reduceEq, Int.reduceLT, Int.reduceLE, c0, c1, p1, p2, q1, q2, q3, q4, s1, s2, s3, s4, s5, s6, v0, vl, vn]
      refine fin (l.set v.toNat { l.getD v.toNat default with kind := s }) 0 l.length clx K5 _ (by simp) h24 (rdk_mono hK5 (by omega)) rfl rfl
    by_cases c2 : z = 2
    · simp +contextual -dsimp -implicitDefEqProofs (maxSteps := 5000000) only [go_sem, reduceIte, reduceCtorEq, Nat.reduceEqDiff, Nat.reduceBEq, Nat.reduceAdd, Nat.reduceLeDiff, Nat.reduceMul, Nat.reduceLT, Int.reduceEq, Int.reduceLT, Int.reduceLE, c0, c1, c2, p1, p2, q1, q2, q3, q4, s1, s2, s3, s4, s5, s6]
      refine k_one [-1, 100, 8] _ hK4 (n6 _ _ _) (by omega) (by simp) rfl rfl fun s K5 _ hK5 => ?_
      simp +contextual -dsimp -implicitDefEqProofs (maxSteps := 5000000) only [go_sem, reduceIte, reduceCtorEq, Nat.reduceEqDiff, Nat.reduceBEq, Nat.reduceAdd, Nat.reduceLeDiff, Nat.reduceMul, Nat.reduceLT, Int.reduceEq, Int.reduceLT, Int.reduceLE, c0, c1, c2, p1, p2, q1, q2, q3, q4, s1, s2, s3, s4, s5, s6, v0, vl, vn]
      rw [wrO_y (y := { l.getD v.toNat default with a := s }) vn rfl]
      simp +contextual -dsimp -implicitDefEqProofs (maxSteps := 5000000) only [go_sem, reduceIte, reduceCtorEq, Nat.reduceEqDiff, Nat.reduceBEq, Nat.reduceAdd, Nat.reduceLeDiff, Nat.reduceMul, Nat.reduceLT, Int.reduceEq, Int.reduceLT, Int.reduceLE, c0, c1, c2, p1, p2, q1, q2, q3, q4, s1, s2, s3, s4, s5, s6, v0, vl, vn]
      refine fin (l.set v.toNat { l.getD v.toNat default with a := s }) 0 l.length clx K5 _ (by simp) h24 (rdk_mono hK5 (by omega)) rfl rfl
    by_cases c3 : z = 3
    · simp +contextual -dsimp -implicitDefEqProofs (maxSteps := 5000000) only [go_sem, reduceIte, reduceCtorEq, Nat.reduceEqDiff, Nat.reduceBEq, Nat.reduceAdd, Nat.reduceLeDiff, Nat.reduceMul, Nat.reduceLT, Int.reduceEq, Int.reduceLT, Int.reduceLE, c0, c1, c2, c3, p1, p2, q1, q2, q3, q4, s1, s2, s3, s4, s5, s6]
      refine ⟨Nat.le_refl _, ?_⟩
      have h1i : (1 : Int) ≤ l.length := by omega
      rw [delx _ _ _ hbx, htk]
      simp +contextual -dsimp -implicitDefEqProofs (maxSteps := 5000000) only [go_sem, reduceIte, reduceCtorEq, Nat.reduceEqDiff, Nat.reduceBEq, Nat.reduceAdd, Nat.reduceLeDiff, Nat.reduceMul, Nat.reduceLT, Int.reduceEq, Int.reduceLT, Int.reduceLE, h1i, c0, c1, c2, c3, p1, p2, q1, q2, q3, q4, s1, s2, s3, s4, s5, s6]
      refine finV (l.drop 1) clx K4 _ (by simp; omega) (rdk_mono hK4 (by omega)) rfl rfl
    · simp +contextual -dsimp -implicitDefEqProofs (maxSteps := 5000000) only [go_sem, reduceIte, reduceCtorEq, Nat.reduceEqDiff, Nat.reduceBEq, Nat.reduceAdd, Nat.reduceLeDiff, Nat.reduceMul, Nat.reduceLT, Int.reduceEq, Int.reduceLT, Int.reduceLE, c0, c1, c2, c3, p1, p2, q1, q2, q3, q4, s1, s2, s3, s4, s5, s6]
      refine ⟨Nat.le_refl _, ?_⟩
      rw [delx _ _ _ hbx]
      simp +contextual -dsimp -implicitDefEqProofs (maxSteps := 5000000) only [go_sem, reduceIte, reduceCtorEq, Nat.reduceEqDiff, Nat.reduceBEq, Nat.reduceAdd, Nat.reduceLeDiff, Nat.reduceMul, Nat.reduceLT, Int.reduceEq, Int.reduceLT, Int.reduceLE, htk, c0, c1, c2, c3, p1, p2, q1, q2, q3, q4, s1, s2, s3, s4, s5, s6]
      refine finV l clx K4 _ h24 (rdk_mono hK4 (by omega)) rfl rfl
theorem c_someProgram (F : AHeap) (br n : Nat) (K : ABlk) (h : RdK n K) (hF : F br = none) (hn : n < 400000000) : ACalls Tryz.prog 31 [.ptr br 2 0 0] (F.set br K) fun r H' =>
    ∃ t cl, ∃ l : List Line, ∃ cl' K', r = .tup [aTree t cl, .vsl (l.map rLine) cl'] ∧ H' = F.set br K' ∧ RdK (n + 1000000) K' ∧ t.length ≤ 8 ∧ shortNames t ∧ l.length ≤ 24 := by
  refine acalls_fz (c_someProgram0 F br n K h hF hn) ?_
  rintro _ _ ⟨t, cl, x, l, cl', G, K', rfl, hz, hle, rfl, hK, ht, hs, hl⟩
  exact ⟨_, F.set br K', le_ch hle, fz_tup (.cons (.same _) (.cons hz .nil)), t, cl, l, cl', K', rfl, rfl, hK, ht, hs, hl⟩
end
section
open Go Go.Sim
set_option maxRecDepth 100000
set_option maxHeartbeats 4000000
theorem c_DrawFirstJump (F : AHeap) (bs : List UInt8) (cb : Bool) : ACalls Tryz.prog 23 [.vsl (bs.map rU) cb] F fun r H' =>
    ∃ t cl, ∃ l : List Line, ∃ cl', r = .tup [aTree t cl, .vsl (l.map rLine) cl'] ∧ H' = F ∧ shortNames t ∧ t.length ≤ 8 ∧ l.length ≤ 24 := by
  refine acalls_of1 Tryz.func23 rfl (by kernel_rfl) rfl rfl (awp_sound (fz := fun _ => []) (im := fun _ => false) mixed _ _ _ _ (by kernel_rfl) ?_)
  simp +contextual -dsimp -implicitDefEqProofs (maxSteps := 5000000) only [go_sem, reduceIte, reduceCtorEq, Nat.reduceEqDiff, Nat.reduceBEq, Nat.reduceAdd, Nat.reduceLeDiff, Nat.reduceMul, Nat.reduceLT, Int.reduceEq, Int.reduceLT, Int.reduceLE]
  rintro b2 h2
  refine (c_newReader bs cb _).mono ?_
  rintro _ H' ⟨br, rfl, hR⟩
  obtain ⟨K1, hK1, rfl⟩ := rd_to hR
  have f4 : ∀ K2, (F.set b2 K2) br = none := by
    have q := hR; obtain ⟨_, _, _, _, _, q, _⟩ := q
    rw [set_none] at q
    intro K2; rw [set_none]; exact q
  have q1 := f4 ⟨1, 0, []⟩
  rw [set_none] at q1
  obtain ⟨u1, u2, hr⟩ := q1
  simp +contextual -dsimp -implicitDefEqProofs (maxSteps := 5000000) only [go_sem, reduceIte, reduceCtorEq, Nat.reduceEqDiff, Nat.reduceBEq, Nat.reduceAdd, Nat.reduceLeDiff, Nat.reduceMul, Nat.reduceLT, Int.reduceEq, Int.reduceLT, Int.reduceLE]
  refine (c_someProgram _ br 0 K1 hK1 (f4 _) (by omega)).mono ?_
  rintro _ _ ⟨t, cl, l, cl', K2, rfl, rfl, hK2, ht8, hs, hl⟩
  simp +contextual -dsimp -implicitDefEqProofs (maxSteps := 5000000) only [go_sem, reduceIte, reduceCtorEq, Nat.reduceEqDiff, Nat.reduceBEq, Nat.reduceAdd, Nat.reduceLeDiff, Nat.reduceMul, Nat.reduceLT, Int.reduceEq, Int.reduceLT, Int.reduceLE, u1, u2]
  refine retR_less (l := [aTree t cl, .vsl (l.map rLine) cl']) (H' := F) ?_ (le_s1 (le_s1 (AHeap.le_refl _) h2) hr) ⟨t, cl, l, cl', rfl, rfl, hs, ht8, hl⟩
  simp only [resA, go_sem, reduceIte, reduceCtorEq, Nat.reduceEqDiff, Nat.reduceBEq, Nat.reduceAdd, Nat.reduceLeDiff, Nat.reduceMul, Nat.reduceLT, Int.reduceEq, Int.reduceLT, Int.reduceLE, u1, u2]
theorem c_mRunV (t : List Class) (cl : Bool) (p : List Line) (c1 : Bool) (H : AHeap) (hn : namesOk t) (hp : p.length ≤ 1000) (hv : validB t p = true) : ACalls Tryz.prog 14 [aTree t cl, aProg p c1] H fun r H' => (∃ c2 c3, r = aRes (resOf (runP t p)) c2 c3) ∧ H' = H := by
  have k := own_frz (c_mRunProgram t cl p c1 H hn (by omega))
  rw [if_pos hv] at k
  exact k
end
section
open Go Go.Sim
set_option maxRecDepth 100000
set_option maxHeartbeats 4000000
theorem c_jumps (k : Int) (H : AHeap) : ACalls Tryz.prog 85 [I k] H fun r H' => r = B (jumpsK k) ∧ H' = H := by
  refine acalls_of0 Tryz.func85 rfl (by kernel_rfl) rfl rfl (awp_sound (fz := fun _ => []) (im := fun _ => false) mixed _ _ _ _ (by kernel_rfl) ?_)
  simp +contextual -dsimp -implicitDefEqProofs (maxSteps := 5000000) only [go_sem, reduceIte, reduceCtorEq, Nat.reduceEqDiff, Nat.reduceBEq, Nat.reduceAdd, Nat.reduceLeDiff, Nat.reduceMul, Nat.reduceLT, Int.reduceEq, Int.reduceLT, Int.reduceLE]
  exact (c_inRange _ _ _ _).det (by simp +contextual -dsimp -implicitDefEqProofs (maxSteps := 5000000) only [go_sem, reduceIte, reduceCtorEq, Nat.reduceEqDiff, Nat.reduceBEq, Nat.reduceAdd, Nat.reduceLeDiff, Nat.reduceMul, Nat.reduceLT, Int.reduceEq, Int.reduceLT, Int.reduceLE]; rfl)
end
section
open Go Go.Sim
set_option maxRecDepth 100000
set_option maxHeartbeats 4000000

theorem toI_grow {H0 H : AHeap} {x : AV} {out : List Nat} {k : Nat} {cl : Bool} {K : AV → AHeap → Prop} {g : Tag (H, K)} (hg : Grow rI 1 3 H0 H x (toI out)) (hb : out.length ≤ 1000000) (hk : ∀ x' H', Grow rI 1 3 H0 H' x' (toI (out ++ [k])) → K x' H') : appT Tryz.prog H 33 x (.vsl [[I (k : Nat)]] cl) K g :=
  grow_append (m := [(k : Int)]) te33 ti3 rI_len (by decide) hg (by rw [toI_len]; simp; omega) (by rw [toI_len]; simp; omega) rfl fun x' H' hg' => hk x' H' (by rw [toI_snoc] at hg'; exact hg')
/-- Lines that are asked for, the last one first. -/
def backF (g : Nat → Bool) (i : Nat) : List Nat := ((List.range i).reverse).filter g
theorem backF_succ (g : Nat → Bool) (i : Nat) : backF g (i + 1) = (if g i = true then [i] else []) ++ backF g i := by
  unfold backF
  rw [List.range_succ, List.reverse_append, List.reverse_singleton, List.singleton_append, List.filter_cons]
  split <;> rfl
theorem c_menclosing (p : List Line) (cl : Bool) (i : Nat) (H : AHeap) (hi : i < p.length) (hp : p.length ≤ 1000) : ACalls Tryz.prog 53 [aProg p cl, I i] H fun r H' => Grow rI 1 3 H H' r (toI (backF (fun k => opensK (kd p k) && decide (i < endP p k)) i)) := by
  generalize hgf : (fun k => opensK (kd p k) && decide (i < endP p k)) = gf
  refine acalls_of0 Tryz.func53 rfl (by kernel_rfl) rfl rfl (awp_sound (fz := fun _ => []) (im := fun s => s == 7 || s == 28) mixed _ _ _ _ (by kernel_rfl) ?_)
  simp +contextual -dsimp -implicitDefEqProofs (maxSteps := 5000000) only [go_sem, reduceIte, reduceCtorEq, Nat.reduceEqDiff, Nat.reduceBEq, Nat.reduceAdd, Nat.reduceLeDiff, Nat.reduceMul, Nat.reduceLT, Int.reduceEq, Int.reduceLT, Int.reduceLE, hi]
  refine aloop mixed (fz := fun _ => []) (im := fun s => s == 7 || s == 28) (by kernel_rfl) (fun m tm H' => ∃ out : List Nat, m ≤ i ∧ Grow rI 1 3 H H' (tm 5) (toI out) ∧ out.length + m ≤ i ∧ out ++ backF gf m = backF gf i ∧ tm 0 = aProg p cl ∧ tm 1 = I i ∧ tm 6 = I ((m : Int) - 1)) i ⟨[], Nat.le_refl _, ?_⟩ ?_
  · simp +contextual -dsimp -implicitDefEqProofs (maxSteps := 5000000) only [go_sem, reduceIte, reduceCtorEq, Nat.reduceEqDiff, Nat.reduceBEq, Nat.reduceAdd, Nat.reduceLeDiff, Nat.reduceMul, Nat.reduceLT, Int.reduceEq, Int.reduceLT, Int.reduceLE]
    exact ⟨grow_nil, Nat.le_refl _, I_wrap (by omega) (by omega) (by omega)⟩
  · rintro m tm H' ⟨out, hm, hg, ho, he, t0, t1, t6⟩
    cases m with
    | zero =>
      have z : ¬ (0 : Int) ≤ 0 - 1 := by omega
      have e0 : backF gf 0 = [] := rfl
      rw [e0, List.append_nil] at he
      subst he
      simp +contextual -dsimp -implicitDefEqProofs (maxSteps := 5000000) only [go_sem, reduceIte, reduceCtorEq, Nat.reduceEqDiff, Nat.reduceBEq, Nat.reduceAdd, Nat.reduceLeDiff, Nat.reduceMul, Nat.reduceLT, Int.reduceEq, Int.reduceLT, Int.reduceLE, t0, t1, t6, z]
      refine (c_ClipG _ _ _ _ hg).mono ?_
      rintro r H2 hg2
      simp +contextual -dsimp -implicitDefEqProofs (maxSteps := 5000000) only [go_sem, reduceIte, reduceCtorEq, Nat.reduceEqDiff, Nat.reduceBEq, Nat.reduceAdd, Nat.reduceLeDiff, Nat.reduceMul, Nat.reduceLT, Int.reduceEq, Int.reduceLT, Int.reduceLE, t0, t1, t6, z]
      exact hg2
    | succ k =>
      have hkp : k < p.length := by omega
      have e1 : (((k + 1 : Nat) : Int)) - 1 = (k : Int) := by omega
      rw [backF_succ] at he
      simp +contextual -dsimp -implicitDefEqProofs (maxSteps := 5000000) only [go_sem, reduceIte, reduceCtorEq, Nat.reduceEqDiff, Nat.reduceBEq, Nat.reduceAdd, Nat.reduceLeDiff, Nat.reduceMul, Nat.reduceLT, Int.reduceEq, Int.reduceLT, Int.reduceLE, t0, t1, t6, e1, hkp, hi]
      refine (c_lineOpens _ _).det ?_
      have eg : gf k = (opensK (p.getD k default).kind && decide (i < endP p k)) := by rw [← hgf]; rfl
      rw [eg] at he
      cases ho2 : opensK (p.getD k default).kind
      · rw [ho2, Bool.false_and, if_neg (by decide), List.nil_append] at he
        simp +contextual -dsimp -implicitDefEqProofs (maxSteps := 5000000) only [go_sem, reduceIte, reduceCtorEq, Nat.reduceEqDiff, Nat.reduceBEq, Nat.reduceAdd, Nat.reduceLeDiff, Nat.reduceMul, Nat.reduceLT, Int.reduceEq, Int.reduceLT, Int.reduceLE, t0, t1, t6, e1, hkp, hi]
        exact ⟨k, by omega, out, by omega, hg, by omega, he, I_wrap (by omega) (by omega) (by omega)⟩
      · rw [ho2, Bool.true_and] at he
        simp +contextual -dsimp -implicitDefEqProofs (maxSteps := 5000000) only [go_sem, reduceIte, reduceCtorEq, Nat.reduceEqDiff, Nat.reduceBEq, Nat.reduceAdd, Nat.reduceLeDiff, Nat.reduceMul, Nat.reduceLT, Int.reduceEq, Int.reduceLT, Int.reduceLE, t0, t1, t6, e1, hkp, hi]
        refine (c_endOf p cl k _ hkp).det ?_
        by_cases hie : i < endP p k
        · rw [if_pos (by simpa using hie), ← List.append_assoc] at he
          simp +contextual -dsimp -implicitDefEqProofs (maxSteps := 5000000) only [go_sem, reduceIte, reduceCtorEq, Nat.reduceEqDiff, Nat.reduceBEq, Nat.reduceAdd, Nat.reduceLeDiff, Nat.reduceMul, Nat.reduceLT, Int.reduceEq, Int.reduceLT, Int.reduceLE, t0, t1, t6, e1, hkp, hi, hie]
          refine toI_grow hg (by omega) fun x2 H2 hg2 => ?_
          simp +contextual -dsimp -implicitDefEqProofs (maxSteps := 5000000) only [go_sem, reduceIte, reduceCtorEq, Nat.reduceEqDiff, Nat.reduceBEq, Nat.reduceAdd, Nat.reduceLeDiff, Nat.reduceMul, Nat.reduceLT, Int.reduceEq, Int.reduceLT, Int.reduceLE, t0, t1, t6, e1, hkp, hi, hie]
          exact ⟨k, by omega, out ++ [k], by omega, hg2, by simp; omega, he, I_wrap (by omega) (by omega) (by omega)⟩
        · rw [if_neg (by simpa using hie), List.nil_append] at he
          simp +contextual -dsimp -implicitDefEqProofs (maxSteps := 5000000) only [go_sem, reduceIte, reduceCtorEq, Nat.reduceEqDiff, Nat.reduceBEq, Nat.reduceAdd, Nat.reduceLeDiff, Nat.reduceMul, Nat.reduceLT, Int.reduceEq, Int.reduceLT, Int.reduceLE, t0, t1, t6, e1, hkp, hi, hie]
          exact ⟨k, by omega, out, by omega, hg, by omega, he, I_wrap (by omega) (by omega) (by omega)⟩
/-! ### Programs without what comes behind jumps -/
end
section
open Go Go.Sim
set_option maxRecDepth 100000
set_option maxHeartbeats 4000000

theorem c_lineIn (t : List Class) (cl : Bool) (p : List Line) (cl' : Bool) (J : Nat) (H : AHeap) (hn : namesOk t) (hp : p.length ≤ 4398046511104) (hJ : J < p.length) : ACalls Tryz.prog 58 [aTree t cl, aProg p cl', I J] H fun r H' => r = B (validB t p) ∧ H' = H := by
  have hw : IntKind.i64.wrap ((p.length : Int) - 1) = (p.length : Int) - 1 := w64 (by omega) (by omega)
  refine acalls_of0 Tryz.func58 rfl (by kernel_rfl) rfl rfl (awp_sound (fz := fun _ => []) (im := fun s => s == 3) mixed _ _ _ _ (by kernel_rfl) ?_)
  simp +contextual -dsimp -implicitDefEqProofs (maxSteps := 5000000) only [go_sem, reduceIte, reduceCtorEq, Nat.reduceEqDiff, Nat.reduceBEq, Nat.reduceAdd, Nat.reduceLeDiff, Nat.reduceMul, Nat.reduceLT, Int.reduceEq, Int.reduceLT, Int.reduceLE]
  refine (c_ValidProgram t cl p cl' _ hn hp).det ?_
  cases hv : validB t p
  · simp +contextual -dsimp -implicitDefEqProofs (maxSteps := 5000000) only [go_sem, reduceIte, reduceCtorEq, Nat.reduceEqDiff, Nat.reduceBEq, Nat.reduceAdd, Nat.reduceLeDiff, Nat.reduceMul, Nat.reduceLT, Int.reduceEq, Int.reduceLT, Int.reduceLE]
  · simp +contextual -dsimp -implicitDefEqProofs (maxSteps := 5000000) only [go_sem, reduceIte, reduceCtorEq, Nat.reduceEqDiff, Nat.reduceBEq, Nat.reduceAdd, Nat.reduceLeDiff, Nat.reduceMul, Nat.reduceLT, Int.reduceEq, Int.reduceLT, Int.reduceLE, hw]
    refine (c_within _ _ _ _).det ?_
    rw [show inR (J : Int) 0 ((p.length : Int) - 1) = true by simp [inR]; omega]
    simp +contextual -dsimp -implicitDefEqProofs (maxSteps := 5000000) only [go_sem, reduceIte, reduceCtorEq, Nat.reduceEqDiff, Nat.reduceBEq, Nat.reduceAdd, Nat.reduceLeDiff, Nat.reduceMul, Nat.reduceLT, Int.reduceEq, Int.reduceLT, Int.reduceLE]
theorem c_mtryOf (p : List Line) (cl : Bool) (i hd : Nat) (H : AHeap) (hi : i < p.length) (hp : p.length ≤ 1000) (hb : back7 p (dp p i) i = some hd) : ACalls Tryz.prog 92 [aProg p cl, I i] H fun r H' => Grow rI 1 3 H H' r (toI (chainP p hd)) := by
  refine acalls_of0 Tryz.func92 rfl (by kernel_rfl) rfl rfl (awp_sound (fz := fun _ => []) (im := fun _ => false) mixed _ _ _ _ (by kernel_rfl) ?_)
  simp +contextual -dsimp -implicitDefEqProofs (maxSteps := 5000000) only [go_sem, reduceIte, reduceCtorEq, Nat.reduceEqDiff, Nat.reduceBEq, Nat.reduceAdd, Nat.reduceLeDiff, Nat.reduceMul, Nat.reduceLT, Int.reduceEq, Int.reduceLT, Int.reduceLE, hi]
  refine aloop mixed (fz := fun _ => []) (im := fun _ => false) (by kernel_rfl) (fun m tm H' => m ≤ i ∧ H' = H ∧ tm 0 = aProg p cl ∧ tm 1 = I i ∧ tm 5 = I (m : Nat) ∧ back7 p (dp p i) m = some hd) i ⟨Nat.le_refl _, rfl, ?_⟩ ?_
  · simp +contextual -dsimp -implicitDefEqProofs (maxSteps := 5000000) only [go_sem, reduceIte, reduceCtorEq, Nat.reduceEqDiff, Nat.reduceBEq, Nat.reduceAdd, Nat.reduceLeDiff, Nat.reduceMul, Nat.reduceLT, Int.reduceEq, Int.reduceLT, Int.reduceLE]
    exact hb
  · rintro m tm H ⟨hm, rfl, t0, t1, t5, he⟩
    have hml : m < p.length := by omega
    have z : (0 : Int) ≤ (m : Int) := by omega
    by_cases c : kd p m = 7 ∧ dp p m = dp p i
    · have hmh : m = hd := by
        cases m with
        | zero => simp only [back7] at he; rw [if_pos c] at he; cases he; rfl
        | succ m => simp only [back7] at he; rw [if_pos c] at he; cases he; rfl
      subst hmh
      have c1 : (p.getD m default).kind = 7 := c.1
      have c2 : (p.getD m default).depth = (p.getD i default).depth := c.2
      simp +contextual -dsimp -implicitDefEqProofs (maxSteps := 5000000) only [go_sem, reduceIte, reduceCtorEq, Nat.reduceEqDiff, Nat.reduceBEq, Nat.reduceAdd, Nat.reduceLeDiff, Nat.reduceMul, Nat.reduceLT, Int.reduceEq, Int.reduceLT, Int.reduceLE, t0, t1, t5, hml, hi, z, c1, c2]
      refine draw_intro [0, 0, 0, 0, 0, 0, 0, 0, 0, 0, 0, 0, 0, 0, 0, 0, 0, 0, 0] AHeap.none (by kernel_rfl) none_le ?_
      simp +contextual -dsimp -implicitDefEqProofs (maxSteps := 5000000) only [go_sem, reduceIte, reduceCtorEq, Nat.reduceEqDiff, Nat.reduceBEq, Nat.reduceAdd, Nat.reduceLeDiff, Nat.reduceMul, Nat.reduceLT, Int.reduceEq, Int.reduceLT, Int.reduceLE, t0, t1, t5, hml, hi, z, c1, c2]
      refine (c_tryFrom p cl m _ hml (by omega)).mono ?_
      rintro r H2 hg
      simp +contextual -dsimp -implicitDefEqProofs (maxSteps := 5000000) only [go_sem, reduceIte, reduceCtorEq, Nat.reduceEqDiff, Nat.reduceBEq, Nat.reduceAdd, Nat.reduceLeDiff, Nat.reduceMul, Nat.reduceLT, Int.reduceEq, Int.reduceLT, Int.reduceLE, t0, t1, t5, hml, hi, z, c1, c2]
      refine (c_ClipG _ _ _ _ hg).mono ?_
      rintro r2 H3 hg3
      simp +contextual -dsimp -implicitDefEqProofs (maxSteps := 5000000) only [go_sem, reduceIte, reduceCtorEq, Nat.reduceEqDiff, Nat.reduceBEq, Nat.reduceAdd, Nat.reduceLeDiff, Nat.reduceMul, Nat.reduceLT, Int.reduceEq, Int.reduceLT, Int.reduceLE, t0, t1, t5, hml, hi, z, c1, c2]
      exact hg3
    · cases m with
      | zero =>
        simp only [back7] at he
        rw [if_neg c] at he
        cases he
      | succ k =>
        simp only [back7] at he
        rw [if_neg c] at he
        by_cases c1 : (p.getD (k + 1) default).kind = 7
        · have c2 : ¬ (p.getD (k + 1) default).depth = (p.getD i default).depth := fun q => c ⟨c1, q⟩
          simp +contextual -dsimp -implicitDefEqProofs (maxSteps := 5000000) only [go_sem, reduceIte, reduceCtorEq, Nat.reduceEqDiff, Nat.reduceBEq, Nat.reduceAdd, Nat.reduceLeDiff, Nat.reduceMul, Nat.reduceLT, Int.reduceEq, Int.reduceLT, Int.reduceLE, t0, t1, t5, hml, hi, z, c1, c2]
          refine draw_intro [0, 0, 0, 0, 0, 0, 0, 0, 0, 0, 0, 0, 0, 0, 0, 0, 0, 0, 0] AHeap.none (by kernel_rfl) none_le ?_
          simp +contextual -dsimp -implicitDefEqProofs (maxSteps := 5000000) only [go_sem, reduceIte, reduceCtorEq, Nat.reduceEqDiff, Nat.reduceBEq, Nat.reduceAdd, Nat.reduceLeDiff, Nat.reduceMul, Nat.reduceLT, Int.reduceEq, Int.reduceLT, Int.reduceLE, t0, t1, t5, hml, hi, z, c1, c2]
          exact ⟨k, by omega, by omega, by rw [show (((k + 1 : Nat) : Int) - 1) = (k : Int) by omega]; exact I_wrap (by omega) (by omega) (by omega), he⟩
        · simp +contextual -dsimp -implicitDefEqProofs (maxSteps := 5000000) only [go_sem, reduceIte, reduceCtorEq, Nat.reduceEqDiff, Nat.reduceBEq, Nat.reduceAdd, Nat.reduceLeDiff, Nat.reduceMul, Nat.reduceLT, Int.reduceEq, Int.reduceLT, Int.reduceLE, t0, t1, t5, hml, hi, z, c1]
          refine draw_intro [0, 0, 0, 0, 0, 0, 0, 0, 0, 0, 0, 0, 0, 0, 0, 0, 0, 0, 0] AHeap.none (by kernel_rfl) none_le ?_
          simp +contextual -dsimp -implicitDefEqProofs (maxSteps := 5000000) only [go_sem, reduceIte, reduceCtorEq, Nat.reduceEqDiff, Nat.reduceBEq, Nat.reduceAdd, Nat.reduceLeDiff, Nat.reduceMul, Nat.reduceLT, Int.reduceEq, Int.reduceLT, Int.reduceLE, t0, t1, t5, hml, hi, z, c1]
          exact ⟨k, by omega, by omega, by rw [show (((k + 1 : Nat) : Int) - 1) = (k : Int) by omega]; exact I_wrap (by omega) (by omega) (by omega), he⟩
/-- The try of a line of a valid program. -/
theorem way_try {t : List Class} {p : List Line} (h : ValidP t p) {x : Nat} (hx : x < p.length) (hk : kd p x = 7 ∨ (kd p x = 8 ∨ kd p x = 9)) : ∃ hd, hd < p.length ∧ kd p hd = 7 ∧ x ∈ chainP p hd ∧ back7 p (dp p x) x = some hd ∧ tryOfP p x = chainP p hd := by
  have fin : ∀ hd, hd < p.length → kd p hd = 7 → x ∈ chainP p hd → ∃ hd, hd < p.length ∧ kd p hd = 7 ∧ x ∈ chainP p hd ∧ back7 p (dp p x) x = some hd ∧ tryOfP p x = chainP p hd := by
    intro hd h1 h2 h3
    have e := tryOfP_at h2 h1 h3
    refine ⟨hd, h1, h2, h3, ?_, e⟩
    have hlt : hd ≤ x := by
      unfold chainP at h3
      rcases List.mem_cons.1 h3 with rfl | h3
      · exact Nat.le_refl _
      · obtain ⟨q1, _⟩ := tailP_in _ _ _ h3
        have := endP_gt p hd
        omega
    unfold chainP at h3
    rcases List.mem_cons.1 h3 with rfl | h3
    · exact back7_at h2 rfl x (Nat.le_refl _) (fun m m1 m2 => by omega)
    · obtain ⟨q1, q2, q3, q4, q5⟩ := tailP_in _ _ _ h3
      have hg := endP_gt p hd
      refine back7_at h2 q3.symm x (by omega) (fun m m1 m2 m3 w => ?_)
      rcases Nat.lt_or_ge m (endP p hd) with v | v
      · have := (endP_in (i := hd) (j := m) (by omega) (by omega)).1 v m (by omega) (Nat.le_refl _)
        have q3' : dp p x = dp p hd := q3
        omega
      · have := q5 m v m2 (by rw [m3, q3])
        rw [w] at this
        cases this
  by_cases h7 : kd p x = 7
  · exact fin x hx h7 (by unfold chainP; exact List.mem_cons_self ..)
  · obtain ⟨d, k, a, b, kids, rest, ha, hc⟩ := cx_all h hx
    obtain ⟨lp, m, sh, seen, bh, cs, h1, h2, _⟩ := hc.flags
    obtain ⟨e1, e2, e3, e4, e5⟩ := dp_head ha
    have hf : followsK k = true := by rw [followsK_iff]; omega
    rcases okF_node h1 with ⟨_, hm, _⟩ | ⟨q, _⟩
    · obtain ⟨hd, pre, last, i1, i2, i3, i4, _⟩ := (h2 hm).at_
      refine fin hd (by omega) i3 ?_
      rw [i1]
      refine List.mem_cons_of_mem _ (List.mem_append_right _ ?_)
      simp only [chainN]
      rw [if_pos hf]
      exact List.mem_cons_self ..
    · rw [hf] at q; cases q
theorem wayL_len (p : List Line) : ∀ (a : List Nat), (wayL p a).length ≤ a.length
  | [] => Nat.le_refl _
  | x :: a => by
    have := wayL_len p a
    simp only [wayL, List.length_append, List.length_cons]
    split
    · simp; omega
    · split
      · split
        · simp; omega
        · simp; omega
      · simp; omega
theorem enD_len {p : List Line} : ∀ (i : Nat) (d : Int), (enD p d i).length ≤ i
  | 0, _ => Nat.le_refl _
  | i + 1, d => by
    simp only [enD]
    split
    · have := enD_len (p := p) i (dp p i); simp; omega
    · have := enD_len (p := p) i d; omega
theorem c_way {t : List Class} (p : List Line) (cl : Bool) (i : Nat) (H : AHeap) (h : ValidP t p) (hi : i < p.length) : ACalls Tryz.prog 61 [aProg p cl, I i, I (-1)] H fun r H' => Grow rI 1 3 H H' r (toI (wayL p (enD p (dp p i) i))) := by
  have hp := h.2.1
  have hen : backF (fun k => opensK (kd p k) && decide (i < endP p k)) i = enD p (dp p i) i := (en_told h hi).symm
  have hmem := enD_mem (p := p) i (dp p i)
  have hlen := enD_len (p := p) i (dp p i)
  refine acalls_of0 Tryz.func61 rfl (by kernel_rfl) rfl rfl (awp_sound (fz := fun _ => []) (im := fun s => s == 12 || s == 33 || s == 56) mixed _ _ _ _ (by kernel_rfl) ?_)
  simp +contextual -dsimp -implicitDefEqProofs (maxSteps := 5000000) only [go_sem, reduceIte, reduceCtorEq, Nat.reduceEqDiff, Nat.reduceBEq, Nat.reduceAdd, Nat.reduceLeDiff, Nat.reduceMul, Nat.reduceLT, Int.reduceEq, Int.reduceLT, Int.reduceLE]
  refine acalls_frz (c_menclosing p cl i _ hi (by omega)) fun c15 => ?_
  rw [hen]
  generalize enD p (dp p i) i = en at hmem hlen
  simp +contextual -dsimp -implicitDefEqProofs (maxSteps := 5000000) only [go_sem, reduceIte, reduceCtorEq, Nat.reduceEqDiff, Nat.reduceBEq, Nat.reduceAdd, Nat.reduceLeDiff, Nat.reduceMul, Nat.reduceLT, Int.reduceEq, Int.reduceLT, Int.reduceLE, toI_len]
  refine aloop mixed (fz := fun _ => []) (im := fun s => s == 12 || s == 33 || s == 56) (by kernel_rfl) (fun m tm H' => ∃ (k : Nat) (out : List Nat), m = en.length - k ∧ k ≤ en.length ∧ Grow rI 1 3 H H' (tm 7) (toI out) ∧ out.length ≤ k ∧ out ++ wayL p (en.drop k) = wayL p en ∧ tm 0 = aProg p cl ∧ tm 2 = I (-1) ∧ tm 15 = .vsl ((toI en).map rI) c15 ∧ tm 16 = I en.length ∧ tm 17 = I k) en.length ⟨0, [], by omega, by omega, ?_⟩ ?_
  · simp +contextual -dsimp -implicitDefEqProofs (maxSteps := 5000000) only [go_sem, reduceIte, reduceCtorEq, Nat.reduceEqDiff, Nat.reduceBEq, Nat.reduceAdd, Nat.reduceLeDiff, Nat.reduceMul, Nat.reduceLT, Int.reduceEq, Int.reduceLT, Int.reduceLE, toI_len]
    exact grow_nil
  · rintro m tm H' ⟨k, out, rfl, hk, hg, ho, he, t0, t2, t15, t16, t17⟩
    by_cases hlt : k < en.length
    · have hx := hmem (en.getD k default) (by rw [List.getD_eq_getElem?_getD, List.getElem?_eq_getElem hlt]; exact List.getElem_mem hlt)
      have hxl : en.getD k default < p.length := by omega
      have hdr : en.drop k = en.getD k default :: en.drop (k + 1) := by rw [List.drop_eq_getElem_cons hlt]; simp [List.getD_eq_getElem?_getD, hlt]
      have zn : ¬ ((en.getD k default : Nat) : Int) = -1 := by omega
      rw [hdr] at he
      simp only [wayL] at he
      have hwt := way_try h hxl
      generalize hxe : en.getD k default = x at hx hxl zn he hwt hdr
      by_cases h11 : kd p x = 11
      · have h11' : (p.getD x default).kind = 11 := h11
        rw [if_pos h11] at he
        simp +contextual -dsimp -implicitDefEqProofs (maxSteps := 5000000) only [go_sem, reduceIte, reduceCtorEq, Nat.reduceEqDiff, Nat.reduceBEq, Nat.reduceAdd, Nat.reduceLeDiff, Nat.reduceMul, Nat.reduceLT, Int.reduceEq, Int.reduceLT, Int.reduceLE, t0, t2, t15, t16, t17, hlt, toI_len, toI_at, hxe, zn, hxl, h11']
        refine toI_grow hg (by omega) fun x2 H2 hg2 => ?_
        simp +contextual -dsimp -implicitDefEqProofs (maxSteps := 5000000) only [go_sem, reduceIte, reduceCtorEq, Nat.reduceEqDiff, Nat.reduceBEq, Nat.reduceAdd, Nat.reduceLeDiff, Nat.reduceMul, Nat.reduceLT, Int.reduceEq, Int.reduceLT, Int.reduceLE, t0, t2, t15, t16, t17, hlt, toI_len, toI_at, hxe, zn, hxl, h11']
        exact ⟨_, by omega, k + 1, out ++ [x], rfl, hlt, hg2, by simp; omega, by rw [← he, List.append_assoc], I_wrap (by omega) (by omega) (by omega)⟩
      · have h11' : ¬ (p.getD x default).kind = 11 := h11
        rw [if_neg h11] at he
        by_cases ht : kd p x = 7 ∨ (kd p x = 8 ∨ kd p x = 9)
        · rw [if_pos ht] at he
          obtain ⟨hd, h1, h2, h3, h4, h5⟩ := hwt ht
          rw [h5] at he
          have hcl : (chainP p hd).length ≤ p.length := endP_len h1
          have hcm := chainP_mem h1
          have htry := fun (H : AHeap) => c_mtryOf p cl x hd H hxl (by omega) h4
          obtain ⟨tl, htl⟩ : ∃ tl, chainP p hd = hd :: tl := ⟨_, rfl⟩
          have hgl := getD_last hd tl
          rw [htl] at he hcl hcm
          have hym := hcm ((hd :: tl).getLastD 0) (by
            rw [← hgl, List.getD_eq_getElem?_getD, List.getElem?_eq_getElem (by simp)]
            exact List.getElem_mem _)
          simp only [htl] at htry
          rw [List.length_cons] at hcl
          have hwl : IntKind.i64.wrap ((tl.length + 1 : Nat) - 1) = (tl.length : Int) := by
            rw [w64 (by omega) (by omega)]; omega
          have hlt1 : (tl.length : Int) < ((tl.length + 1 : Nat) : Int) := by omega
          have hlt2 : tl.length < tl.length + 1 := by omega
          generalize (hd :: tl).getLastD 0 = y at he hgl hym
          have go : ∀ kk : Int, kd p x = kk → (kk = 7 ∨ (kk = 8 ∨ kk = 9)) → True := fun _ _ _ => trivial
          rcases ht with hk7 | hk7 | hk7
          · have hk7' : (p.getD x default).kind = 7 := hk7
            simp +contextual -dsimp -implicitDefEqProofs (maxSteps := 5000000) only [go_sem, reduceIte, reduceCtorEq, Nat.reduceEqDiff, Nat.reduceBEq, Nat.reduceAdd, Nat.reduceLeDiff, Nat.reduceMul, Nat.reduceLT, Int.reduceEq, Int.reduceLT, Int.reduceLE, t0, t2, t15, t16, t17, hlt, toI_len, toI_at, hxe, zn, hxl, hk7']
            refine acalls_frz (htry _) fun c41 => ?_
            simp +contextual -dsimp -implicitDefEqProofs (maxSteps := 5000000) only [go_sem, reduceIte, reduceCtorEq, Nat.reduceEqDiff, Nat.reduceBEq, Nat.reduceAdd, Nat.reduceLeDiff, Nat.reduceMul, Nat.reduceLT, Int.reduceEq, Int.reduceLT, Int.reduceLE, t0, t2, t15, t16, t17, hlt, toI_len, toI_at, List.length_cons, hwl, hgl, hlt1, hlt2, hym, hk7', hxl]
            refine ⟨fun h10 => ?_, fun h10 => ?_⟩
            · have h10' : kd p y = 10 := h10
              rw [if_pos h10'] at he
              refine toI_grow hg (by omega) fun x2 H2 hg2 => ?_
              simp +contextual -dsimp -implicitDefEqProofs (maxSteps := 5000000) only [go_sem, reduceIte, reduceCtorEq, Nat.reduceEqDiff, Nat.reduceBEq, Nat.reduceAdd, Nat.reduceLeDiff, Nat.reduceMul, Nat.reduceLT, Int.reduceEq, Int.reduceLT, Int.reduceLE, t0, t2, t15, t16, t17, hlt]
              exact ⟨_, by omega, k + 1, out ++ [y], rfl, hlt, hg2, by simp; omega, by rw [← he, List.append_assoc], I_wrap (by omega) (by omega) (by omega)⟩
            · have h10' : ¬ kd p y = 10 := h10
              rw [if_neg h10', List.nil_append] at he
              exact ⟨_, by omega, k + 1, out, rfl, hlt, hg, by omega, he, I_wrap (by omega) (by omega) (by omega)⟩
          · have hk7' : (p.getD x default).kind = 8 := hk7
            simp +contextual -dsimp -implicitDefEqProofs (maxSteps := 5000000) only [go_sem, reduceIte, reduceCtorEq, Nat.reduceEqDiff, Nat.reduceBEq, Nat.reduceAdd, Nat.reduceLeDiff, Nat.reduceMul, Nat.reduceLT, Int.reduceEq, Int.reduceLT, Int.reduceLE, t0, t2, t15, t16, t17, hlt, toI_len, toI_at, hxe, zn, hxl, hk7']
            refine acalls_frz (htry _) fun c41 => ?_
            simp +contextual -dsimp -implicitDefEqProofs (maxSteps := 5000000) only [go_sem, reduceIte, reduceCtorEq, Nat.reduceEqDiff, Nat.reduceBEq, Nat.reduceAdd, Nat.reduceLeDiff, Nat.reduceMul, Nat.reduceLT, Int.reduceEq, Int.reduceLT, Int.reduceLE, t0, t2, t15, t16, t17, hlt, toI_len, toI_at, List.length_cons, hwl, hgl, hlt1, hlt2, hym, hk7', hxl]
            refine ⟨fun h10 => ?_, fun h10 => ?_⟩
            · have h10' : kd p y = 10 := h10
              rw [if_pos h10'] at he
              refine toI_grow hg (by omega) fun x2 H2 hg2 => ?_
              simp +contextual -dsimp -implicitDefEqProofs (maxSteps := 5000000) only [go_sem, reduceIte, reduceCtorEq, Nat.reduceEqDiff, Nat.reduceBEq, Nat.reduceAdd, Nat.reduceLeDiff, Nat.reduceMul, Nat.reduceLT, Int.reduceEq, Int.reduceLT, Int.reduceLE, t0, t2, t15, t16, t17, hlt]
              exact ⟨_, by omega, k + 1, out ++ [y], rfl, hlt, hg2, by simp; omega, by rw [← he, List.append_assoc], I_wrap (by omega) (by omega) (by omega)⟩
            · have h10' : ¬ kd p y = 10 := h10
              rw [if_neg h10', List.nil_append] at he
              exact ⟨_, by omega, k + 1, out, rfl, hlt, hg, by omega, he, I_wrap (by omega) (by omega) (by omega)⟩
          · have hk7' : (p.getD x default).kind = 9 := hk7
            simp +contextual -dsimp -implicitDefEqProofs (maxSteps := 5000000) only [go_sem, reduceIte, reduceCtorEq, Nat.reduceEqDiff, Nat.reduceBEq, Nat.reduceAdd, Nat.reduceLeDiff, Nat.reduceMul, Nat.reduceLT, Int.reduceEq, Int.reduceLT, Int.reduceLE, t0, t2, t15, t16, t17, hlt, toI_len, toI_at, hxe, zn, hxl, hk7']
            refine acalls_frz (htry _) fun c41 => ?_
            simp +contextual -dsimp -implicitDefEqProofs (maxSteps := 5000000) only [go_sem, reduceIte, reduceCtorEq, Nat.reduceEqDiff, Nat.reduceBEq, Nat.reduceAdd, Nat.reduceLeDiff, Nat.reduceMul, Nat.reduceLT, Int.reduceEq, Int.reduceLT, Int.reduceLE, t0, t2, t15, t16, t17, hlt, toI_len, toI_at, List.length_cons, hwl, hgl, hlt1, hlt2, hym, hk7', hxl]
            refine ⟨fun h10 => ?_, fun h10 => ?_⟩
            · have h10' : kd p y = 10 := h10
              rw [if_pos h10'] at he
              refine toI_grow hg (by omega) fun x2 H2 hg2 => ?_
              simp +contextual -dsimp -implicitDefEqProofs (maxSteps := 5000000) only [go_sem, reduceIte, reduceCtorEq, Nat.reduceEqDiff, Nat.reduceBEq, Nat.reduceAdd, Nat.reduceLeDiff, Nat.reduceMul, Nat.reduceLT, Int.reduceEq, Int.reduceLT, Int.reduceLE, t0, t2, t15, t16, t17, hlt]
              exact ⟨_, by omega, k + 1, out ++ [y], rfl, hlt, hg2, by simp; omega, by rw [← he, List.append_assoc], I_wrap (by omega) (by omega) (by omega)⟩
            · have h10' : ¬ kd p y = 10 := h10
              rw [if_neg h10', List.nil_append] at he
              exact ⟨_, by omega, k + 1, out, rfl, hlt, hg, by omega, he, I_wrap (by omega) (by omega) (by omega)⟩
        · have n7 : ¬ (p.getD x default).kind = 7 := fun q => ht (.inl q)
          have n8 : ¬ (p.getD x default).kind = 8 := fun q => ht (.inr (.inl q))
          have n9 : ¬ (p.getD x default).kind = 9 := fun q => ht (.inr (.inr q))
          rw [if_neg ht, List.nil_append] at he
          simp +contextual -dsimp -implicitDefEqProofs (maxSteps := 5000000) only [go_sem, reduceIte, reduceCtorEq, Nat.reduceEqDiff, Nat.reduceBEq, Nat.reduceAdd, Nat.reduceLeDiff, Nat.reduceMul, Nat.reduceLT, Int.reduceEq, Int.reduceLT, Int.reduceLE, t0, t2, t15, t16, t17, hlt, toI_len, toI_at, hxe, zn, hxl, h11', n7, n8, n9]
          exact ⟨_, by omega, k + 1, out, rfl, hlt, hg, by omega, he, I_wrap (by omega) (by omega) (by omega)⟩
    · have hk2 : k = en.length := by omega
      rw [hk2, List.drop_length] at he
      simp only [wayL, List.append_nil] at he
      rw [← he]
      simp +contextual -dsimp -implicitDefEqProofs (maxSteps := 5000000) only [go_sem, reduceIte, reduceCtorEq, Nat.reduceEqDiff, Nat.reduceBEq, Nat.reduceAdd, Nat.reduceLeDiff, Nat.reduceMul, Nat.reduceLT, Int.reduceEq, Int.reduceLT, Int.reduceLE, t0, t2, t15, t16, t17, hlt]
      refine (c_ClipG _ _ _ _ hg).mono ?_
      rintro r2 H3 hg3
      simp +contextual -dsimp -implicitDefEqProofs (maxSteps := 5000000) only [go_sem, reduceIte, reduceCtorEq, Nat.reduceEqDiff, Nat.reduceBEq, Nat.reduceAdd, Nat.reduceLeDiff, Nat.reduceMul, Nat.reduceLT, Int.reduceEq, Int.reduceLT, Int.reduceLE, t0, t2, t15, t16, t17, hlt]
      exact hg3
end
section
open Go Go.Sim
set_option maxRecDepth 100000
set_option maxHeartbeats 4000000

/-- A line that goes on with a try, with what its block is worth. -/
structure ChainAt (t : List Class) (p : List Line) (d : Int) (lp : Bool) (f : Fo) (q : Nat) (k : Int) (ks : Fo) : Prop where
  at_ : ∃ a b re, At p q d (.node k a b ks re)
  small : ks.size < f.size
  nums : numsF t ks (d + 1) = true
  ok : okF ks lp false = true
  cost : cost ks ≤ Go.Proofs.YtoacjmckefahcaaGreat.cost f
theorem okF_rest {k a b : Int} {kids rest : Fo} {lp : Bool} (hk : followsK k = true) (hok : okF (.node k a b kids rest) lp true = true) : okF rest lp true = true := by
  simp only [okF, hk, if_true, Bool.true_and, Bool.and_eq_true] at hok
  exact hok.2
end
section
open Go Go.Sim
set_option maxRecDepth 100000
set_option maxHeartbeats 4000000

theorem toI_cons_at (i x : Nat) (l : List Nat) : (i :: l).getD (x + 1) default = l.getD x default := by simp [List.getD_eq_getElem?_getD]
end
section
open Go Go.Sim
set_option maxRecDepth 100000
set_option maxHeartbeats 4000000

theorem c_snextLine {P : List Line} {clp : Bool} {i : Nat} {d k a b : Int} {kids rest : Fo} (H : AHeap) (hat : At P i d (.node k a b kids rest)) (hp : P.length ≤ 4398046511104) :
    ACalls Tryz.prog 89 [aProg P clp, I i] H fun r H' => r = I (if k = 7 then skipN rest (i + 1 + kids.size) else i + 1 + kids.size : Nat) ∧ H' = H := by
  have hi := hat.head
  have hcl := chain_len rest (i + 1 + kids.size)
  have hrl := hat.rest.len
  by_cases k7 : k = 7
  · subst k7
    rw [if_pos rfl]
    have hce := chain_end rest (i + 1 + kids.size) i hat.rest hat.endP
    have hgl := getD_last i (chainN rest (i + 1 + kids.size))
    have hmem := chainP_mem hi.1 ((i :: chainN rest (i + 1 + kids.size)).getLastD 0) (by
      rw [chainP_at hat, ← hgl, List.getD_eq_getElem?_getD, List.getElem?_eq_getElem (by simp)]
      exact List.getElem_mem _)
    have hwl : IntKind.i64.wrap (((chainN rest (i + 1 + kids.size)).length + 1 : Nat) - 1) = ((chainN rest (i + 1 + kids.size)).length : Int) := by
      rw [w64 (by omega) (by omega)]; omega
    have hlt1 : ((chainN rest (i + 1 + kids.size)).length : Int) < (((chainN rest (i + 1 + kids.size)).length + 1 : Nat) : Int) := by omega
    have hlt2 : (chainN rest (i + 1 + kids.size)).length < (chainN rest (i + 1 + kids.size)).length + 1 := by omega
    refine acalls_of0 Tryz.func89 rfl (by kernel_rfl) rfl rfl (awp_sound (fz := fun _ => []) (im := fun _ => false) mixed _ _ _ _ (by kernel_rfl) ?_)
    simp +contextual -dsimp -implicitDefEqProofs (maxSteps := 5000000) only [go_sem, reduceIte, reduceCtorEq, Nat.reduceEqDiff, Nat.reduceBEq, Nat.reduceAdd, Nat.reduceLeDiff, Nat.reduceMul, Nat.reduceLT, Int.reduceEq, Int.reduceLT, Int.reduceLE, hi.1, hi.2]
    refine acalls_frz (c_chainOf P clp i _ hi.1 hp) fun cl2 => ?_
    rw [chainP_at hat]
    simp +contextual -dsimp -implicitDefEqProofs (maxSteps := 5000000) only [go_sem, reduceIte, reduceCtorEq, Nat.reduceEqDiff, Nat.reduceBEq, Nat.reduceAdd, Nat.reduceLeDiff, Nat.reduceMul, Nat.reduceLT, Int.reduceEq, Int.reduceLT, Int.reduceLE, toI_len, toI_at, List.length_cons, hwl, hgl, hlt1, hlt2]
    refine (c_blockEnd P clp _ _ hmem).det ?_
    rw [hce]
    simp +contextual -dsimp -implicitDefEqProofs (maxSteps := 5000000) only [go_sem, reduceIte, reduceCtorEq, Nat.reduceEqDiff, Nat.reduceBEq, Nat.reduceAdd, Nat.reduceLeDiff, Nat.reduceMul, Nat.reduceLT, Int.reduceEq, Int.reduceLT, Int.reduceLE]
  · rw [if_neg k7]
    refine acalls_of0 Tryz.func89 rfl (by kernel_rfl) rfl rfl (awp_sound (fz := fun _ => []) (im := fun _ => false) mixed _ _ _ _ (by kernel_rfl) ?_)
    simp +contextual -dsimp -implicitDefEqProofs (maxSteps := 5000000) only [go_sem, reduceIte, reduceCtorEq, Nat.reduceEqDiff, Nat.reduceBEq, Nat.reduceAdd, Nat.reduceLeDiff, Nat.reduceMul, Nat.reduceLT, Int.reduceEq, Int.reduceLT, Int.reduceLE, hi.1, hi.2, k7]
    refine (c_blockEnd P clp i _ hi.1).det ?_
    rw [hat.endP]
    simp +contextual -dsimp -implicitDefEqProofs (maxSteps := 5000000) only [go_sem, reduceIte, reduceCtorEq, Nat.reduceEqDiff, Nat.reduceBEq, Nat.reduceAdd, Nat.reduceLeDiff, Nat.reduceMul, Nat.reduceLT, Int.reduceEq, Int.reduceLT, Int.reduceLE]
end
section
open Go Go.Sim
set_option maxRecDepth 100000
set_option maxHeartbeats 4000000

theorem okF_skip {lp : Bool} : ∀ f : Fo, okF f lp true = true → okF (skipF f) lp false = true
  | .nil, _ => rfl
  | .node k a b kids rest, h => by
    simp only [skipF]
    by_cases hk : followsK k = true
    · rw [if_pos hk]; exact okF_skip rest (okF_rest hk h)
    · rw [if_neg hk]
      have : okF (.node k a b kids rest) lp true = okF (.node k a b kids rest) lp false := by
        have hk' : followsK k = false := by simpa using hk
        simp only [okF, hk']; rfl
      rw [← this]; exact h
end
end
end Go.Proofs.YtoacjmckefahcaaGreat
