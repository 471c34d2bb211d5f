/- The law FnIsolateFault answers true at every input and leaves its argument as it was, its listed tables tied to the program's text. No condition. -/
import Derived.Test.YtihjbbiajggcoaaDoorP2
import Derived.Test.YtihjbbiajggcoaaDoorSimY
section
set_option linter.unusedVariables false
set_option linter.unusedSimpArgs false
namespace Go.Proofs.YtihjbbiajggcoaaDoor
open Go Go.Sim
set_option maxRecDepth 100000
attribute [local go_sem ↓] aw_skip aw_ret aw_exit aw_region aw_draw aw_seq aw_block aw_loop aw_cond frz_nil frz_cons sq_normal sq_ret sq_exit exB_normal exB_ret exB_same exB_other retQ_ret retQ_normal ret0_ret ret0_normal ao_nil go1 g_move g_assign g_pick g_build g_load g_binOp g_unOp g_convert g_fieldAddr g_field g_indexAddr g_index g_extract g_slice g_nilCheck g_len g_makeFunc h_call h_append h_alloc h_box h_buildSlice h_makeSlice h_store gV i_box i_buildSlice i_move i_assign i_build i_load i_binOp i_unOp i_convert i_fieldAddr i_field i_indexAddr i_index i_extract i_slice i_nilCheck i_makeFunc i_len i_max i_min i_alloc i_makeSlice i_store i_append i_call i_pick boxI boxA buildSliceI buildSliceA makeSliceA allocA storeA p_move p_assign p_pick p_build p_load p_binOp p_unOp p_convert p_fieldAddr p_field p_indexAddr p_index p_extract p_slice p_nilCheck p_makeFunc p_len p_max p_min p_alloc p_box p_buildSlice p_makeSlice p_store p_append p_call x_nil x_go1 x_g0 x_g1 x_g2 x_g3 x_s0 x_s1 x_s2 x_s3 u_move u_assign u_pick u_build u_load u_binOp u_unOp u_convert u_fieldAddr u_field u_indexAddr u_index u_extract u_slice u_nilCheck u_makeFunc u_len u_buildSlice x_s4 x_g4 rq_normal rq_ret rq_exit aw_range
attribute [local go_sem] frzV_sl frzK_some set_none set_other AHeap.set_self set_del set_set cnd_t cnd_f cnd_b retA_one retA_two retA_three retA_four retA_nil gIf_b mrgV_b mrgV_wh mrgV_U gIf_U gIf_wh mrgB_f mrgB_some mrgB_if wh_true wh_false keepA_some keepA_if gD_zero gD_succ gT_some bxA_t bxA_f callA_fn ev_tmp ev_const ev_global ev_func oc_bool oc_int oc_string oc_nil oc_nilptr oc_nilfunc cl_bool cl_int cl_string cl_nil updO_some updO_none upd_same upd_other init_at pickA_b pickA_wh selA_t selA_f selA_and selA_or selA_orn selA_orm selA_bb selA_ii beqt b_add b_sub b_mul b_and b_or b_xor b_eql b_neq b_lss b_leq b_gtr b_geq b_quo b_rem b_shr b_seql b_sneq b_sadd b_beql b_bneq b_aeql b_aneq u_not u_neg isConstOp eqA eqCellV List.getD_cons_zero List.getD_cons_succ List.map_cons List.map_nil List.nil_append List.cons_append List.append_nil if_true if_false Option.map_some Option.map_none ne_eq not_false_eq_true oneA ldv ld1v ld1s wr1s ldRow stRow row_lit row_agg row_vsl row_sl row_ptr row_fn one_I one_B one_S one_vsl one_sl one_ptr one_fn extractA okA rI rS rU rClass rFault rExit rStart rLine Int.toNat_natCast List.length_cons List.length_nil List.length_map List.all_cons List.all_nil Bool.and_true Nat.zero_add List.getElem?_cons_zero List.getElem?_cons_succ List.take_succ_cons List.take_zero List.drop_succ_cons List.drop_zero and_self true_and and_true implies_true decide_eq_true_eq decide_eq_false_iff_not Bool.or_eq_true Bool.or_eq_false_iff Bool.and_eq_true Bool.not_eq_true' Bool.not_eq_false' beq_false decide_true decide_false Int.ofNat_lt Int.ofNat_le Int.natCast_nonneg Bool.or_true Bool.or_false Bool.true_or Bool.false_or beq_self_eq_true List.drop_one Bool.not_true Bool.not_false Bool.not_not Bool.false_eq_true Bool.true_eq_false false_implies true_implies Bool.true_and Bool.false_and Bool.and_false not_true_eq_false Int.natCast_eq_zero Int.natCast_pos Int.natCast_zero false_and and_false or_false false_or or_true true_or Bool.or_self none_le_iff List.replicate_zero Int.toNat_zero List.replicate_succ buildRows List.set_cons_zero List.set_cons_succ List.set_nil List.mapM_nil maxLen_eq Nat.zero_le Nat.mul_one Nat.one_mul bldA fillA spliceA List.take_nil List.drop_nil List.getElem?_nil ld1o wr1o bldSliceA le_same cv_i cvI_t quietT_fn qvd_some ld_o ldO_1 ldO_l wr_o wrO_1 set_2 set_3 set_4 putL_nil putL_cons List.zip_cons_cons List.zip_nil_left List.zip_nil_right List.toList_toArray frzV_set ti1 ti2 tk2 ti3 te3 ts3 tk3 tz3 ti4 tb4 ti5 tk5 tz5 ti9 te9 ts9 tk9 tz9 ti12 tk12 ti13 tp13 tf13_0 tf13_1 ti20 ti21 tk21 tz21 ti22 te22 tz22 ti23 te23 ti24 tp24 tf24_0 ti25 tp25 tf25_0 ti26 te26 ti27 tp27 tf27_0 ti28 tp28 tf28_0 ti30 ti32 ti33 ti34 tq34 tp34 tf34_0 tf34_1 tf34_2 tf34_3 tf34_4 ti35 tq35 tp35 tf35_0 tf35_1 tf35_2 tf35_3 tf35_4 ti36 ti37 te37 ti38 ti39 ti40 ti42 ti44 ti45 ti46 ti47 ti48 ti49 ti50 ti51 ti52 ti53 ti54 ti55 ti56 ti57 ti58 ti59 ti60 ti61 ti62 ti64 ti65 ti66 tp66 tf66_0 tf66_1 ti67 tp67 tf67_0 tf67_1 ti68 ti69 ti70 ti71 ti72 ti73 ti74 ti75 ti76 ti77 ti78 ti79 ti80 ti81 ti82 ti83 tq83 tp83 tf83_0 tf83_1 ti84 tq84 tp84 tf84_0 tf84_1 ti85 ti86 ti87 ti88 ti89 ti90 ti91 ti92 ti93 ti94 ti95 ti96 tk96 tz96 ti97 ti98 ti99 ti100 ti101 te101 ti102 ti103 ti104 tk104 ti106 ti107 ti108 ti110 ti111 ti112 tk112 tz112 ti113 ti114 tk114 tz114 ti115 tk115 ti116 ti117 ti118 ti119 ti120 ti121 ti122 ti124 ti125 ta125 ti126 ti128 ti129 ti130 ta130 ti131 ta131 ti132 ta132 ti133 ta133 ti134 ti140 ti144 fp13_0 fv13_0 fp13_1 fv13_1 fp24_0 fv24_0 fp25_0 fv25_0 fp27_0 fv27_0 fp28_0 fv28_0 fp34_0 fv34_0 fp34_1 fv34_1 fp34_2 fv34_2 fp34_3 fv34_3 fp34_4 fv34_4 fp35_0 fv35_0 fp35_1 fv35_1 fp35_2 fv35_2 fp35_3 fv35_3 fp35_4 fv35_4 fp66_0 fv66_0 fp66_1 fv66_1 fp67_0 fv67_0 fp67_1 fv67_1 fp83_0 fv83_0 fp83_1 fv83_1 fp84_0 fv84_0 fp84_1 fv84_1 lv22 ll22 is22 ix22 sh22 so22 sb22 sm22 sp22 lv23 ll23 is23 ix23 sh23 so23 sb23 sm23 sp23 lv26 ll26 is26 ix26 sh26 so26 sb26 sm26 sp26 lv37 ll37 is37 ix37 sh37 so37 sb37 sm37 sp37 lv101 ll101 is101 ix101 sh101 so101 sb101 sm101 sp101 xs9 ls9 sx9 sy9 sz9

theorem c_heapHas (h : List Fault) (cl : Bool) (a : Int) (H : AHeap) : ACalls Tryd.prog 26 [aHeap h cl, I a] H fun r H' => r = B (inR a 0 (h.length - 1)) ∧ H' = H := by
  refine acalls_len1 (by kernel_rfl) (List.mem_cons_self ..) fun hl => ?_
  rw [List.length_map] at hl
  refine acalls_of0 Tryd.func26 rfl (by kernel_rfl) rfl rfl (awp_sound (fz := fun _ => []) (im := fun s => s == 2) mixed _ _ _ _ (by kernel_rfl) ?_)
  simp +contextual -dsimp -implicitDefEqProofs (maxSteps := 5000000) only [go_sem, reduceIte, reduceCtorEq, Nat.reduceEqDiff, Nat.reduceBEq, Nat.reduceAdd, Nat.reduceLeDiff, Nat.reduceMul, Nat.reduceLT, Int.reduceEq, Int.reduceLT, Int.reduceLE]
  rw [w64 (by omega) (by omega)]
  exact (c_within _ _ _ _).det (by simp +contextual -dsimp -implicitDefEqProofs (maxSteps := 5000000) only [go_sem, reduceIte, reduceCtorEq, Nat.reduceEqDiff, Nat.reduceBEq, Nat.reduceAdd, Nat.reduceLeDiff, Nat.reduceMul, Nat.reduceLT, Int.reduceEq, Int.reduceLT, Int.reduceLE])
theorem c_hasFault (h : List Fault) (cl : Bool) (a : Int) (H : AHeap) : ACalls Tryd.prog 23 [aHeap h cl, I a] H fun r H' => r = B (inR a 0 (h.length - 1)) ∧ H' = H := by
  refine acalls_len1 (by kernel_rfl) (List.mem_cons_self ..) fun hl => ?_
  rw [List.length_map] at hl
  refine acalls_of0 Tryd.func23 rfl (by kernel_rfl) rfl rfl (awp_sound (fz := fun _ => []) (im := fun s => s == 2) mixed _ _ _ _ (by kernel_rfl) ?_)
  simp +contextual -dsimp -implicitDefEqProofs (maxSteps := 5000000) only [go_sem, reduceIte, reduceCtorEq, Nat.reduceEqDiff, Nat.reduceBEq, Nat.reduceAdd, Nat.reduceLeDiff, Nat.reduceMul, Nat.reduceLT, Int.reduceEq, Int.reduceLT, Int.reduceLE]
  rw [w64 (by omega) (by omega)]
  exact (c_inRange _ _ _ _).det (by simp +contextual -dsimp -implicitDefEqProofs (maxSteps := 5000000) only [go_sem, reduceIte, reduceCtorEq, Nat.reduceEqDiff, Nat.reduceBEq, Nat.reduceAdd, Nat.reduceLeDiff, Nat.reduceMul, Nat.reduceLT, Int.reduceEq, Int.reduceLT, Int.reduceLE])
def linkF (n : Nat) (f to : Int) : Bool := decide (to = -1) || (inR to 0 (n - 1) && !decide (to = f))
theorem c_link (h : List Fault) (cl : Bool) (f a : Int) (H : AHeap) : ACalls Tryd.prog 31 [I f, I a, .vptr [[.vsl (h.map rFault) cl]] 0 0] H fun r H' => r = B (linkF h.length f a) ∧ H' = H := by
  refine acalls_of0 Tryd.func31 rfl (by kernel_rfl) rfl rfl (awp_sound (fz := fun _ => []) (im := fun _ => false) mixed _ _ _ _ (by kernel_rfl) ?_)
  by_cases h1 : a = -1
  · simp +contextual -dsimp -implicitDefEqProofs (maxSteps := 5000000) only [go_sem, reduceIte, reduceCtorEq, Nat.reduceEqDiff, Nat.reduceBEq, Nat.reduceAdd, Nat.reduceLeDiff, Nat.reduceMul, Nat.reduceLT, Int.reduceEq, Int.reduceLT, Int.reduceLE, h1, linkF]
  · simp +contextual -dsimp -implicitDefEqProofs (maxSteps := 5000000) only [go_sem, reduceIte, reduceCtorEq, Nat.reduceEqDiff, Nat.reduceBEq, Nat.reduceAdd, Nat.reduceLeDiff, Nat.reduceMul, Nat.reduceLT, Int.reduceEq, Int.reduceLT, Int.reduceLE, h1]
    refine (c_heapHas h cl a H).det ?_
    cases hI : inR a 0 (h.length - 1)
    · simp +contextual -dsimp -implicitDefEqProofs (maxSteps := 5000000) only [go_sem, reduceIte, reduceCtorEq, Nat.reduceEqDiff, Nat.reduceBEq, Nat.reduceAdd, Nat.reduceLeDiff, Nat.reduceMul, Nat.reduceLT, Int.reduceEq, Int.reduceLT, Int.reduceLE, h1, linkF, hI]
    · simp +contextual -dsimp -implicitDefEqProofs (maxSteps := 5000000) only [go_sem, reduceIte, reduceCtorEq, Nat.reduceEqDiff, Nat.reduceBEq, Nat.reduceAdd, Nat.reduceLeDiff, Nat.reduceMul, Nat.reduceLT, Int.reduceEq, Int.reduceLT, Int.reduceLE, h1, linkF, hI]
theorem c_faultsIn1 (h : List Fault) (cl : Bool) (a : Int) (H : AHeap) : ACalls Tryd.prog 39 [I a, .vptr [[.vsl (h.map rFault) cl]] 0 0] H fun r H' => r = B (!inR a 0 (h.length - 1)) ∧ H' = H := by
  refine acalls_of0 Tryd.func39 rfl (by kernel_rfl) rfl rfl (awp_sound (fz := fun _ => []) (im := fun _ => false) mixed _ _ _ _ (by kernel_rfl) ?_)
  simp +contextual -dsimp -implicitDefEqProofs (maxSteps := 5000000) only [go_sem, reduceIte, reduceCtorEq, Nat.reduceEqDiff, Nat.reduceBEq, Nat.reduceAdd, Nat.reduceLeDiff, Nat.reduceMul, Nat.reduceLT, Int.reduceEq, Int.reduceLT, Int.reduceLE]
  refine (c_heapHas h cl a H).det ?_
  simp +contextual -dsimp -implicitDefEqProofs (maxSteps := 5000000) only [go_sem, reduceIte, reduceCtorEq, Nat.reduceEqDiff, Nat.reduceBEq, Nat.reduceAdd, Nat.reduceLeDiff, Nat.reduceMul, Nat.reduceLT, Int.reduceEq, Int.reduceLT, Int.reduceLE]
theorem c_IndexFuncInt (l : List Int) (cl : Bool) (g : FuncId) (caps : List AV) (p : Int → Bool) (H : AHeap)
    (hp : ∀ c, ACalls Tryd.prog g (I c :: caps) H fun r H' => r = B (p c) ∧ H' = H) :
    ACalls Tryd.prog 65 [.vsl (l.map rI) cl, .fn g [] caps] H fun r H' => r = I (idxF p l) ∧ H' = H := by
  refine acalls_len (by kernel_rfl) (List.mem_cons_self ..) fun hl => ?_
  rw [List.length_map] at hl
  refine acalls_of0 Tryd.func65 rfl (by kernel_rfl) rfl rfl (awp_sound (fz := fun _ => []) (im := fun _ => false) mixed _ _ _ _ (by kernel_rfl) ?_)
  simp +contextual -dsimp -implicitDefEqProofs (maxSteps := 5000000) only [go_sem, reduceIte, reduceCtorEq, Nat.reduceEqDiff, Nat.reduceBEq, Nat.reduceAdd, Nat.reduceLeDiff, Nat.reduceMul, Nat.reduceLT, Int.reduceEq, Int.reduceLT, Int.reduceLE]
  refine aloop mixed (fz := fun _ => []) (im := fun _ => false) (by kernel_rfl) (fun m tm H' => ∃ k : Nat, m = l.length - k ∧ k ≤ l.length ∧ H' = H ∧ tm 0 = .vsl (l.map rI) cl ∧ tm 1 = .fn g [] caps ∧ tm 7 = I l.length ∧ tm 8 = I k ∧ (l.take k).any p = false) l.length ⟨0, ?_⟩ ?_
  · simp +contextual -dsimp -implicitDefEqProofs (maxSteps := 5000000) only [go_sem, reduceIte, reduceCtorEq, Nat.reduceEqDiff, Nat.reduceBEq, Nat.reduceAdd, Nat.reduceLeDiff, Nat.reduceMul, Nat.reduceLT, Int.reduceEq, Int.reduceLT, Int.reduceLE]
    simp
  · rintro m tm _ ⟨k, rfl, hk, rfl, h0, h1, h7, h8, hn⟩
    simp +contextual -dsimp -implicitDefEqProofs (maxSteps := 5000000) only [go_sem, reduceIte, reduceCtorEq, Nat.reduceEqDiff, Nat.reduceBEq, Nat.reduceAdd, Nat.reduceLeDiff, Nat.reduceMul, Nat.reduceLT, Int.reduceEq, Int.reduceLT, Int.reduceLE, h0, h1, h7, h8]
    refine ⟨fun h => (hp _).det ?_, fun h => ?_⟩
    · simp +contextual -dsimp -implicitDefEqProofs (maxSteps := 5000000) only [go_sem, reduceIte, reduceCtorEq, Nat.reduceEqDiff, Nat.reduceBEq, Nat.reduceAdd, Nat.reduceLeDiff, Nat.reduceMul, Nat.reduceLT, Int.reduceEq, Int.reduceLT, Int.reduceLE, h0, h1, h7, h8]
      refine ⟨fun hb => ?_, fun hb => ⟨_, ?_, k + 1, rfl, h, I_wrap (by omega) (by omega) (by omega), any_take h hn hb⟩⟩
      · rw [idxF_at h hn hb]
      · omega
    · rw [idxF_none (by omega) hn]
theorem c_ContainsFuncInt (l : List Int) (cl : Bool) (g : FuncId) (caps : List AV) (p : Int → Bool) (H : AHeap)
    (hp : ∀ c, ACalls Tryd.prog g (I c :: caps) H fun r H' => r = B (p c) ∧ H' = H) :
    ACalls Tryd.prog 38 [.vsl (l.map rI) cl, .fn g [] caps] H fun r H' => r = B (l.any p) ∧ H' = H := by
  refine acalls_of0 Tryd.func38 rfl (by kernel_rfl) rfl rfl (awp_sound (fz := fun _ => []) (im := fun _ => false) mixed _ _ _ _ (by kernel_rfl) ?_)
  simp +contextual -dsimp -implicitDefEqProofs (maxSteps := 5000000) only [go_sem, reduceIte, reduceCtorEq, Nat.reduceEqDiff, Nat.reduceBEq, Nat.reduceAdd, Nat.reduceLeDiff, Nat.reduceMul, Nat.reduceLT, Int.reduceEq, Int.reduceLT, Int.reduceLE]
  refine (c_IndexFuncInt l cl g caps p H hp).det ?_
  simp +contextual -dsimp -implicitDefEqProofs (maxSteps := 5000000) only [go_sem, reduceIte, reduceCtorEq, Nat.reduceEqDiff, Nat.reduceBEq, Nat.reduceAdd, Nat.reduceLeDiff, Nat.reduceMul, Nat.reduceLT, Int.reduceEq, Int.reduceLT, Int.reduceLE, idxF_nonneg]
theorem c_validLinks (h : List Fault) (cl : Bool) (f : Nat) (H : AHeap) (hf : f < h.length) : ACalls Tryd.prog 67 [aHeap h cl, I f] H fun r H' => r = B (linkF h.length f (h.getD f default).cause && linkF h.length f (h.getD f default).ctx) ∧ H' = H := by
  refine acalls_len1 (by kernel_rfl) (List.mem_cons_self ..) fun hl => ?_
  rw [List.length_map] at hl
  refine acalls_of0 Tryd.func67 rfl (by kernel_rfl) rfl rfl (awp_sound (fz := fun r => if r = 2 then [6] else []) (im := fun s => s == 2) mixed _ _ _ _ (by kernel_rfl) ?_)
  simp +contextual -dsimp -implicitDefEqProofs (maxSteps := 5000000) only [go_sem, reduceIte, reduceCtorEq, Nat.reduceEqDiff, Nat.reduceBEq, Nat.reduceAdd, Nat.reduceLeDiff, Nat.reduceMul, Nat.reduceLT, Int.reduceEq, Int.reduceLT, Int.reduceLE, hf]
  intro b hb
  have e : ∀ a : Int, linkF h.length f a = (inR a (-1) (h.length - 1) && !decide (a = f)) := by
    intro a
    unfold linkF inR
    rw [Bool.eq_iff_iff]
    simp
    omega
  rw [e, e]
  refine (c_inRange _ _ _ _).det ?_
  rw [w64 (by omega) (by omega)]
  cases h1 : inR (h.getD f default).cause (-1) (h.length - 1)
  · simp +contextual -dsimp -implicitDefEqProofs (maxSteps := 5000000) only [go_sem, reduceIte, reduceCtorEq, Nat.reduceEqDiff, Nat.reduceBEq, Nat.reduceAdd, Nat.reduceLeDiff, Nat.reduceMul, Nat.reduceLT, Int.reduceEq, Int.reduceLT, Int.reduceLE, hf, h1]
  · simp +contextual -dsimp -implicitDefEqProofs (maxSteps := 5000000) only [go_sem, reduceIte, reduceCtorEq, Nat.reduceEqDiff, Nat.reduceBEq, Nat.reduceAdd, Nat.reduceLeDiff, Nat.reduceMul, Nat.reduceLT, Int.reduceEq, Int.reduceLT, Int.reduceLE, hf, h1]
    refine (c_inRange _ _ _ _).det ?_
    cases h2 : inR (h.getD f default).ctx (-1) (h.length - 1)
    · simp +contextual -dsimp -implicitDefEqProofs (maxSteps := 5000000) only [go_sem, reduceIte, reduceCtorEq, Nat.reduceEqDiff, Nat.reduceBEq, Nat.reduceAdd, Nat.reduceLeDiff, Nat.reduceMul, Nat.reduceLT, Int.reduceEq, Int.reduceLT, Int.reduceLE, hf, h2]
    · simp +contextual -dsimp -implicitDefEqProofs (maxSteps := 5000000) only [go_sem, reduceIte, reduceCtorEq, Nat.reduceEqDiff, Nat.reduceBEq, Nat.reduceAdd, Nat.reduceLeDiff, Nat.reduceMul, Nat.reduceLT, Int.reduceEq, Int.reduceLT, Int.reduceLE, hf, h2]
theorem c_scontexts (h : List Fault) (cl : Bool) (f : Int) (H : AHeap) (hl : h.length ≤ 1000000) (hf : f < h.length) (hc : ∀ k, k < h.length → (h.getD k default).ctx < h.length) :
    ACalls Tryd.prog 68 [aHeap h cl, I f] H fun r H' => Grow rI 1 3 H H' r (chainF h f) := by
  refine acalls_of0 Tryd.func68 rfl (by kernel_rfl) rfl rfl (awp_sound (fz := fun _ => []) (im := fun s => s == 2 || s == 6 || s == 17) mixed _ _ _ _ (by kernel_rfl) ?_)
  simp +contextual -dsimp -implicitDefEqProofs (maxSteps := 5000000) only [go_sem, reduceIte, reduceCtorEq, Nat.reduceEqDiff, Nat.reduceBEq, Nat.reduceAdd, Nat.reduceLeDiff, Nat.reduceMul, Nat.reduceLT, Int.reduceEq, Int.reduceLT, Int.reduceLE]
  refine aloop mixed (fz := fun _ => []) (im := fun s => s == 2 || s == 6 || s == 17) (by kernel_rfl) (fun m tm H' => ∃ (out : List Int) (c : Int), c < h.length ∧ freeN h.length out < m ∧ out.length + m ≤ h.length + 1 ∧ tm 1 = I c ∧ tm 2 = .vptr [[.vsl (h.map rFault) cl]] 0 0 ∧ Grow rI 1 3 H H' (tm 5) out ∧ walkG (ctxOf h) m out c = chainF h f) (h.length + 1) ⟨[], f, hf, ?_, ?_, ?_⟩ ?_
  · have := freeN_nil h.length; omega
  · simp
  · simp +contextual -dsimp -implicitDefEqProofs (maxSteps := 5000000) only [go_sem, reduceIte, reduceCtorEq, Nat.reduceEqDiff, Nat.reduceBEq, Nat.reduceAdd, Nat.reduceLeDiff, Nat.reduceMul, Nat.reduceLT, Int.reduceEq, Int.reduceLT, Int.reduceLE]
    exact ⟨grow_nil, rfl⟩
  · rintro m tm H' ⟨out, c, hc1, hfr, hlen, h1, h2, hg, he⟩
    have hm : m = (m - 1) + 1 := by omega
    rw [hm, walkG] at he
    have stop : ¬ (0 ≤ c ∧ (out.any fun x => decide (c = x)) = false) → out = chainF h f := fun h => by rw [if_neg h] at he; exact he
    by_cases h0 : 0 ≤ c
    · simp +contextual -dsimp -implicitDefEqProofs (maxSteps := 5000000) only [go_sem, reduceIte, reduceCtorEq, Nat.reduceEqDiff, Nat.reduceBEq, Nat.reduceAdd, Nat.reduceLeDiff, Nat.reduceMul, Nat.reduceLT, Int.reduceEq, Int.reduceLT, Int.reduceLE, h1, h2, h0]
      refine (c_hasIntG out _ c H H' hg).det ?_
      have hn : c.toNat < h.length := by omega
      cases ha : out.any fun x => decide (c = x)
      · rw [if_pos ⟨h0, ha⟩] at he
        simp +contextual -dsimp -implicitDefEqProofs (maxSteps := 5000000) only [go_sem, reduceIte, reduceCtorEq, Nat.reduceEqDiff, Nat.reduceBEq, Nat.reduceAdd, Nat.reduceLeDiff, Nat.reduceMul, Nat.reduceLT, Int.reduceEq, Int.reduceLT, Int.reduceLE, h1, h2, h0]
        refine grow_append (m := [c]) te37 ti3 rI_len (by decide) hg (by simp; omega) (by simp; omega) rfl fun x' H'' hg' => ?_
        simp +contextual -dsimp -implicitDefEqProofs (maxSteps := 5000000) only [go_sem, reduceIte, reduceCtorEq, Nat.reduceEqDiff, Nat.reduceBEq, Nat.reduceAdd, Nat.reduceLeDiff, Nat.reduceMul, Nat.reduceLT, Int.reduceEq, Int.reduceLT, Int.reduceLE, h1, h2, h0, hc1, hn]
        exact ⟨m - 1, by omega, out ++ [c], _, hc c.toNat hn, by have := freeN_lt h0 hc1 ha; omega, by simp; omega, rfl, hg', he⟩
      · simp +contextual -dsimp -implicitDefEqProofs (maxSteps := 5000000) only [go_sem, reduceIte, reduceCtorEq, Nat.reduceEqDiff, Nat.reduceBEq, Nat.reduceAdd, Nat.reduceLeDiff, Nat.reduceMul, Nat.reduceLT, Int.reduceEq, Int.reduceLT, Int.reduceLE, h1, h2, h0]
        rw [← stop (fun q => by rw [ha] at q; cases q.2)]
        exact hg
    · simp +contextual -dsimp -implicitDefEqProofs (maxSteps := 5000000) only [go_sem, reduceIte, reduceCtorEq, Nat.reduceEqDiff, Nat.reduceBEq, Nat.reduceAdd, Nat.reduceLeDiff, Nat.reduceMul, Nat.reduceLT, Int.reduceEq, Int.reduceLT, Int.reduceLE, h1, h2, h0]
      rw [← stop (fun q => h0 q.1)]
      exact hg
theorem walkG_len (nx : Int → Int) : ∀ (n : Nat) (out : List Int) (f : Int), (walkG nx n out f).length ≤ out.length + n
  | 0, out, f => Nat.le_refl _
  | n + 1, out, f => by
    simp only [walkG]
    split
    · have := walkG_len nx n (out ++ [f]) (nx f)
      simp at this
      omega
    · omega
theorem chainF_len (h : List Fault) (f : Int) : (chainF h f).length ≤ h.length + 1 := by
  have := walkG_len (ctxOf h) (h.length + 1) [] f
  simpa [chainF, walkF] using this
theorem chainF_in {h : List Fault} (hc : ∀ k, k < h.length → (h.getD k default).ctx < h.length) {f : Int} (hf : f < h.length) {a : Int} (ha : a ∈ chainF h f) : 0 ≤ a ∧ a < h.length := by
  have := walkG_mem (nx := ctxOf h) (p := fun a => a < h.length) (fun a a0 a1 => hc a.toNat (by omega)) (h.length + 1) [] f hf a ha
  simpa using this
def lastI (l : List Int) : Int := l.getD (l.length - 1) default
theorem lastI_in {h : List Fault} (hc : ∀ k, k < h.length → (h.getD k default).ctx < h.length) {f : Int} (h0 : 0 ≤ f) (hf : f < h.length) : 0 ≤ lastI (chainF h f) ∧ lastI (chainF h f) < h.length := by
  have hne := List.length_pos_iff.2 (chainF_ne (h := h) h0)
  apply chainF_in hc hf
  have : (chainF h f).length - 1 < (chainF h f).length := by omega
  unfold lastI
  rw [List.getD_eq_getElem?_getD, List.getElem?_eq_getElem this]
  exact List.getElem_mem this
def faultOk (t : List Class) (h : List Fault) (k : Nat) : Bool := hasF t (h.getD k default).cls && inR (h.getD k default).code 0 99 && linkF h.length k (h.getD k default).cause && linkF h.length k (h.getD k default).ctx
def lastOk (h : List Fault) (k : Nat) : Bool := decide (ctxOf h (lastI (chainF h k)) = -1)
def validH (t : List Class) (h : List Fault) : Bool := (List.range h.length).all (faultOk t h) && ((List.range h.length).all (lastOk h) && (validT t && decide (h.length ≤ 24)))
theorem faultOk_links {t : List Class} {h : List Fault} (hv : (List.range h.length).all (faultOk t h) = true) : ∀ k, k < h.length → -1 ≤ (h.getD k default).ctx ∧ (h.getD k default).ctx < h.length ∧ -1 ≤ (h.getD k default).cause ∧ (h.getD k default).cause < h.length := by
  intro k hk
  rw [List.all_eq_true] at hv
  have := hv k (by simp [hk])
  simp only [faultOk, linkF, inR, Bool.and_eq_true, Bool.or_eq_true, decide_eq_true_eq, Bool.not_eq_true'] at this
  omega
theorem range_next {p : Nat → Bool} {k : Nat} (h : (List.range k).all p = true) (e : p k = true) : (List.range (k + 1)).all p = true := by
  rw [List.range_succ, List.all_append, h]; simp [e]
theorem range_bad {p : Nat → Bool} {k n : Nat} (h : k < n) (e : p k = false) : (List.range n).all p = false := by
  rw [List.all_eq_false]; exact ⟨k, by simp [h], by simp [e]⟩
theorem c_ValidHeap (t : List Class) (cl : Bool) (h : List Fault) (cl' : Bool) (H : AHeap) (hn : namesOk t) (hl : h.length ≤ 1000000) : ACalls Tryd.prog 16 [aTree t cl, aHeap h cl'] H fun r H' => r = B (validH t h) ∧ H' = H := by
  refine acalls_of0 Tryd.func16 rfl (by kernel_rfl) rfl rfl (awp_sound (fz := fun r => if r = 4 then [7] else []) (im := fun s => s == 2 || s == 3) mixed _ _ _ _ (by kernel_rfl) ?_)
  simp +contextual -dsimp -implicitDefEqProofs (maxSteps := 5000000) only [go_sem, reduceIte, reduceCtorEq, Nat.reduceEqDiff, Nat.reduceBEq, Nat.reduceAdd, Nat.reduceLeDiff, Nat.reduceMul, Nat.reduceLT, Int.reduceEq, Int.reduceLT, Int.reduceLE]
  refine aloop mixed (fz := fun r => if r = 4 then [7] else []) (im := fun s => s == 2 || s == 3) (by kernel_rfl) (fun m tm H' => ∃ k : Nat, m = h.length - k ∧ k ≤ h.length ∧ H' = H ∧ tm 2 = .vptr [[.vsl (t.map rClass) cl]] 0 0 ∧ tm 3 = .vptr [[.vsl (h.map rFault) cl']] 0 0 ∧ tm 5 = .fn 31 [] [.vptr [[.vsl (h.map rFault) cl']] 0 0] ∧ tm 12 = .vsl (h.map rFault) cl' ∧ tm 13 = I h.length ∧ tm 14 = I k ∧ (List.range k).all (faultOk t h) = true) h.length ⟨0, by omega, by omega, rfl, ?_⟩ ?_
  · simp +contextual -dsimp -implicitDefEqProofs (maxSteps := 5000000) only [go_sem, reduceIte, reduceCtorEq, Nat.reduceEqDiff, Nat.reduceBEq, Nat.reduceAdd, Nat.reduceLeDiff, Nat.reduceMul, Nat.reduceLT, Int.reduceEq, Int.reduceLT, Int.reduceLE]
    rfl
  · rintro m tm H ⟨k, rfl, hk, rfl, h2, h3, h5, h12, h13, h14, hv⟩
    by_cases hlt : k < h.length
    · have bad : faultOk t h k = false → validH t h = false := fun e => by unfold validH; rw [range_bad hlt e]; rfl
      unfold faultOk at bad
      simp +contextual -dsimp -implicitDefEqProofs (maxSteps := 5000000) only [go_sem, reduceIte, reduceCtorEq, Nat.reduceEqDiff, Nat.reduceBEq, Nat.reduceAdd, Nat.reduceLeDiff, Nat.reduceMul, Nat.reduceLT, Int.reduceEq, Int.reduceLT, Int.reduceLE, h2, h3, h5, h12, h13, h14, hlt]
      intro b hb
      refine (c_has t cl _ _).det ?_
      cases e1 : hasF t (h.getD k default).cls
      · simp +contextual -dsimp -implicitDefEqProofs (maxSteps := 5000000) only [go_sem, reduceIte, reduceCtorEq, Nat.reduceEqDiff, Nat.reduceBEq, Nat.reduceAdd, Nat.reduceLeDiff, Nat.reduceMul, Nat.reduceLT, Int.reduceEq, Int.reduceLT, Int.reduceLE, h2, h3, h5, h12, h13, h14, hlt]
        rw [bad (by simp only [e1, Bool.false_and])]
      · simp +contextual -dsimp -implicitDefEqProofs (maxSteps := 5000000) only [go_sem, reduceIte, reduceCtorEq, Nat.reduceEqDiff, Nat.reduceBEq, Nat.reduceAdd, Nat.reduceLeDiff, Nat.reduceMul, Nat.reduceLT, Int.reduceEq, Int.reduceLT, Int.reduceLE, h2, h3, h5, h12, h13, h14, hlt]
        refine (c_codeOk _ _).det ?_
        cases e2 : inR (h.getD k default).code 0 99
        · simp +contextual -dsimp -implicitDefEqProofs (maxSteps := 5000000) only [go_sem, reduceIte, reduceCtorEq, Nat.reduceEqDiff, Nat.reduceBEq, Nat.reduceAdd, Nat.reduceLeDiff, Nat.reduceMul, Nat.reduceLT, Int.reduceEq, Int.reduceLT, Int.reduceLE, h2, h3, h5, h12, h13, h14, hlt]
          rw [bad (by simp only [e1, e2, Bool.false_and, Bool.and_false])]
        · simp +contextual -dsimp -implicitDefEqProofs (maxSteps := 5000000) only [go_sem, reduceIte, reduceCtorEq, Nat.reduceEqDiff, Nat.reduceBEq, Nat.reduceAdd, Nat.reduceLeDiff, Nat.reduceMul, Nat.reduceLT, Int.reduceEq, Int.reduceLT, Int.reduceLE, h2, h3, h5, h12, h13, h14, hlt]
          refine (c_link h cl' _ _ _).det ?_
          cases e3 : linkF h.length k (h.getD k default).cause
          · simp +contextual -dsimp -implicitDefEqProofs (maxSteps := 5000000) only [go_sem, reduceIte, reduceCtorEq, Nat.reduceEqDiff, Nat.reduceBEq, Nat.reduceAdd, Nat.reduceLeDiff, Nat.reduceMul, Nat.reduceLT, Int.reduceEq, Int.reduceLT, Int.reduceLE, h2, h3, h5, h12, h13, h14, hlt]
            rw [bad (by simp only [e1, e2, e3, Bool.false_and, Bool.and_false])]
          · simp +contextual -dsimp -implicitDefEqProofs (maxSteps := 5000000) only [go_sem, reduceIte, reduceCtorEq, Nat.reduceEqDiff, Nat.reduceBEq, Nat.reduceAdd, Nat.reduceLeDiff, Nat.reduceMul, Nat.reduceLT, Int.reduceEq, Int.reduceLT, Int.reduceLE, h2, h3, h5, h12, h13, h14, hlt]
            refine (c_link h cl' _ _ _).det ?_
            cases e4 : linkF h.length k (h.getD k default).ctx
            · simp +contextual -dsimp -implicitDefEqProofs (maxSteps := 5000000) only [go_sem, reduceIte, reduceCtorEq, Nat.reduceEqDiff, Nat.reduceBEq, Nat.reduceAdd, Nat.reduceLeDiff, Nat.reduceMul, Nat.reduceLT, Int.reduceEq, Int.reduceLT, Int.reduceLE, h2, h3, h5, h12, h13, h14, hlt]
              rw [bad (by simp only [e4, Bool.and_false])]
            · simp +contextual -dsimp -implicitDefEqProofs (maxSteps := 5000000) only [go_sem, reduceIte, reduceCtorEq, Nat.reduceEqDiff, Nat.reduceBEq, Nat.reduceAdd, Nat.reduceLeDiff, Nat.reduceMul, Nat.reduceLT, Int.reduceEq, Int.reduceLT, Int.reduceLE, h2, h3, h5, h12, h13, h14, hlt]
              exact ⟨_, by omega, k + 1, rfl, hlt, I_wrap (by omega) (by omega) (by omega), range_next hv (by simp only [faultOk, e1, e2, e3, e4, Bool.and_self])⟩
    · simp +contextual -dsimp -implicitDefEqProofs (maxSteps := 5000000) only [go_sem, reduceIte, reduceCtorEq, Nat.reduceEqDiff, Nat.reduceBEq, Nat.reduceAdd, Nat.reduceLeDiff, Nat.reduceMul, Nat.reduceLT, Int.reduceEq, Int.reduceLT, Int.reduceLE, h2, h3, h5, h12, h13, h14, hlt]
      have hkl : k = h.length := by omega
      subst hkl
      have hlk := faultOk_links hv
      refine aloop mixed (fz := fun r => if r = 4 then [7] else []) (im := fun s => s == 2 || s == 3) (by kernel_rfl) (fun m tm H' => ∃ k : Nat, m = h.length - k ∧ k ≤ h.length ∧ H' = H ∧ tm 2 = .vptr [[.vsl (t.map rClass) cl]] 0 0 ∧ tm 3 = .vptr [[.vsl (h.map rFault) cl']] 0 0 ∧ tm 49 = I h.length ∧ tm 50 = I k ∧ (List.range k).all (lastOk h) = true) h.length ⟨0, by omega, by omega, rfl, ?_⟩ ?_
      · simp +contextual -dsimp -implicitDefEqProofs (maxSteps := 5000000) only [go_sem, reduceIte, reduceCtorEq, Nat.reduceEqDiff, Nat.reduceBEq, Nat.reduceAdd, Nat.reduceLeDiff, Nat.reduceMul, Nat.reduceLT, Int.reduceEq, Int.reduceLT, Int.reduceLE, h2, h3]
        rfl
      · rintro m tm H ⟨k, rfl, hk, rfl, g2, g3, g49, g50, hw⟩
        by_cases hlt : k < h.length
        · simp +contextual -dsimp -implicitDefEqProofs (maxSteps := 5000000) only [go_sem, reduceIte, reduceCtorEq, Nat.reduceEqDiff, Nat.reduceBEq, Nat.reduceAdd, Nat.reduceLeDiff, Nat.reduceMul, Nat.reduceLT, Int.reduceEq, Int.reduceLT, Int.reduceLE, g2, g3, g49, g50, hlt]
          refine acalls_frz (c_contexts h cl' k H hl (by omega) (fun k hk => (hlk k hk).2.1)) fun cl1 => ?_
          simp +contextual -dsimp -implicitDefEqProofs (maxSteps := 5000000) only [go_sem, reduceIte, reduceCtorEq, Nat.reduceEqDiff, Nat.reduceBEq, Nat.reduceAdd, Nat.reduceLeDiff, Nat.reduceMul, Nat.reduceLT, Int.reduceEq, Int.reduceLT, Int.reduceLE, g2, g3, g49, g50, hlt]
          have c1 := List.length_pos_iff.2 (chainF_ne (h := h) (g := k) (by omega))
          have c2 := chainF_len h k
          have c3 := lastI_in (fun k hk => (hlk k hk).2.1) (f := k) (by omega) (by omega)
          have hw1 : IntKind.i64.wrap (((chainF h k).length : Int) - 1) = (((chainF h k).length - 1 : Nat) : Int) := by
            have := I_wrap (a := ((chainF h k).length : Int) - 1) (b := (((chainF h k).length - 1 : Nat) : Int)) (by omega) (by omega) (by omega)
            injection this with q
            injection q
          have c4 : (chainF h k).length - 1 < (chainF h k).length := by omega
          refine draw_intro [0, 0, 0, 0, 0, 0, 0, 0, 0, 0, 0, 0] AHeap.none (by kernel_rfl) none_le ?_
          simp +contextual -dsimp -implicitDefEqProofs (maxSteps := 5000000) only [go_sem, reduceIte, reduceCtorEq, Nat.reduceEqDiff, Nat.reduceBEq, Nat.reduceAdd, Nat.reduceLeDiff, Nat.reduceMul, Nat.reduceLT, Int.reduceEq, Int.reduceLT, Int.reduceLE, g2, g3, g49, g50, hlt, hw1, c1, c4, c3]
          have bad : lastOk h k = false → validH t h = false := fun e => by simp [validH, range_bad hlt e]
          unfold lastOk ctxOf lastI at bad
          unfold lastI at c3
          exact ⟨⟨c3.1, c3.2⟩, by omega, fun hne => by rw [bad (decide_eq_false hne)], fun he => ⟨_, by omega, k + 1, rfl, hlt, I_wrap (by omega) (by omega) (by omega), range_next hw (decide_eq_true he)⟩⟩
        · simp +contextual -dsimp -implicitDefEqProofs (maxSteps := 5000000) only [go_sem, reduceIte, reduceCtorEq, Nat.reduceEqDiff, Nat.reduceBEq, Nat.reduceAdd, Nat.reduceLeDiff, Nat.reduceMul, Nat.reduceLT, Int.reduceEq, Int.reduceLT, Int.reduceLE, g2, g3, g49, g50, hlt]
          have hkl : k = h.length := by omega
          subst hkl
          refine (c_ValidTree t cl _ hn).det ?_
          cases e1 : validT t
          · simp +contextual -dsimp -implicitDefEqProofs (maxSteps := 5000000) only [go_sem, reduceIte, reduceCtorEq, Nat.reduceEqDiff, Nat.reduceBEq, Nat.reduceAdd, Nat.reduceLeDiff, Nat.reduceMul, Nat.reduceLT, Int.reduceEq, Int.reduceLT, Int.reduceLE, g2, g3]
            simp [validH, e1]
          · simp +contextual -dsimp -implicitDefEqProofs (maxSteps := 5000000) only [go_sem, reduceIte, reduceCtorEq, Nat.reduceEqDiff, Nat.reduceBEq, Nat.reduceAdd, Nat.reduceLeDiff, Nat.reduceMul, Nat.reduceLT, Int.reduceEq, Int.reduceLT, Int.reduceLE, g2, g3]
            simp only [validH, hv, hw, e1, Bool.true_and]
            exact congrArg B (decide_eq_decide.2 (by omega))
theorem c_validHeap (t : List Class) (cl : Bool) (h : List Fault) (cl' : Bool) (H : AHeap) (hn : namesOk t) (hl : h.length ≤ 1000000) : ACalls Tryd.prog 42 [aTree t cl, aHeap h cl'] H fun r H' => r = B (validH t h) ∧ H' = H := by
  refine acalls_of0 Tryd.func42 rfl (by kernel_rfl) rfl rfl (awp_sound (fz := fun r => if r = 4 then [6] else []) (im := fun s => s == 2 || s == 3) mixed _ _ _ _ (by kernel_rfl) ?_)
  simp +contextual -dsimp -implicitDefEqProofs (maxSteps := 5000000) only [go_sem, reduceIte, reduceCtorEq, Nat.reduceEqDiff, Nat.reduceBEq, Nat.reduceAdd, Nat.reduceLeDiff, Nat.reduceMul, Nat.reduceLT, Int.reduceEq, Int.reduceLT, Int.reduceLE]
  refine aloop mixed (fz := fun r => if r = 4 then [6] else []) (im := fun s => s == 2 || s == 3) (by kernel_rfl) (fun m tm H' => ∃ k : Nat, m = h.length - k ∧ k ≤ h.length ∧ H' = H ∧ tm 2 = .vptr [[.vsl (t.map rClass) cl]] 0 0 ∧ tm 3 = .vptr [[.vsl (h.map rFault) cl']] 0 0 ∧ tm 5 = I k ∧ (List.range k).all (faultOk t h) = true) h.length ⟨0, by omega, by omega, rfl, ?_⟩ ?_
  · simp +contextual -dsimp -implicitDefEqProofs (maxSteps := 5000000) only [go_sem, reduceIte, reduceCtorEq, Nat.reduceEqDiff, Nat.reduceBEq, Nat.reduceAdd, Nat.reduceLeDiff, Nat.reduceMul, Nat.reduceLT, Int.reduceEq, Int.reduceLT, Int.reduceLE]
    rfl
  · rintro m tm H ⟨k, rfl, hk, rfl, h2, h3, h5, hv⟩
    by_cases hlt : k < h.length
    · have bad : faultOk t h k = false → validH t h = false := fun e => by unfold validH; rw [range_bad hlt e]; rfl
      unfold faultOk at bad
      simp +contextual -dsimp -implicitDefEqProofs (maxSteps := 5000000) only [go_sem, reduceIte, reduceCtorEq, Nat.reduceEqDiff, Nat.reduceBEq, Nat.reduceAdd, Nat.reduceLeDiff, Nat.reduceMul, Nat.reduceLT, Int.reduceEq, Int.reduceLT, Int.reduceLE, h2, h3, h5, hlt]
      intro b hb
      refine (c_hasClass t cl _ _).det ?_
      cases e1 : hasF t (h.getD k default).cls
      · simp +contextual -dsimp -implicitDefEqProofs (maxSteps := 5000000) only [go_sem, reduceIte, reduceCtorEq, Nat.reduceEqDiff, Nat.reduceBEq, Nat.reduceAdd, Nat.reduceLeDiff, Nat.reduceMul, Nat.reduceLT, Int.reduceEq, Int.reduceLT, Int.reduceLE, h2, h3, h5, hlt]
        rw [bad (by simp only [e1, Bool.false_and])]
      · simp +contextual -dsimp -implicitDefEqProofs (maxSteps := 5000000) only [go_sem, reduceIte, reduceCtorEq, Nat.reduceEqDiff, Nat.reduceBEq, Nat.reduceAdd, Nat.reduceLeDiff, Nat.reduceMul, Nat.reduceLT, Int.reduceEq, Int.reduceLT, Int.reduceLE, h2, h3, h5, hlt]
        refine (c_inRange _ _ _ _).det ?_
        cases e2 : inR (h.getD k default).code 0 99
        · simp +contextual -dsimp -implicitDefEqProofs (maxSteps := 5000000) only [go_sem, reduceIte, reduceCtorEq, Nat.reduceEqDiff, Nat.reduceBEq, Nat.reduceAdd, Nat.reduceLeDiff, Nat.reduceMul, Nat.reduceLT, Int.reduceEq, Int.reduceLT, Int.reduceLE, h2, h3, h5, hlt]
          rw [bad (by simp only [e1, e2, Bool.false_and, Bool.and_false])]
        · simp +contextual -dsimp -implicitDefEqProofs (maxSteps := 5000000) only [go_sem, reduceIte, reduceCtorEq, Nat.reduceEqDiff, Nat.reduceBEq, Nat.reduceAdd, Nat.reduceLeDiff, Nat.reduceMul, Nat.reduceLT, Int.reduceEq, Int.reduceLT, Int.reduceLE, h2, h3, h5, hlt]
          refine (c_validLinks h cl' k _ hlt).det ?_
          cases e3 : linkF h.length k (h.getD k default).cause && linkF h.length k (h.getD k default).ctx
          · simp +contextual -dsimp -implicitDefEqProofs (maxSteps := 5000000) only [go_sem, reduceIte, reduceCtorEq, Nat.reduceEqDiff, Nat.reduceBEq, Nat.reduceAdd, Nat.reduceLeDiff, Nat.reduceMul, Nat.reduceLT, Int.reduceEq, Int.reduceLT, Int.reduceLE, h2, h3, h5, hlt]
            rw [bad (by rw [Bool.and_assoc, e3, Bool.and_false])]
          · simp +contextual -dsimp -implicitDefEqProofs (maxSteps := 5000000) only [go_sem, reduceIte, reduceCtorEq, Nat.reduceEqDiff, Nat.reduceBEq, Nat.reduceAdd, Nat.reduceLeDiff, Nat.reduceMul, Nat.reduceLT, Int.reduceEq, Int.reduceLT, Int.reduceLE, h2, h3, h5, hlt]
            exact ⟨_, by omega, k + 1, rfl, hlt, I_wrap (by omega) (by omega) (by omega), range_next hv (by simp only [faultOk]; rw [Bool.and_assoc, e3, e1, e2]; rfl)⟩
    · simp +contextual -dsimp -implicitDefEqProofs (maxSteps := 5000000) only [go_sem, reduceIte, reduceCtorEq, Nat.reduceEqDiff, Nat.reduceBEq, Nat.reduceAdd, Nat.reduceLeDiff, Nat.reduceMul, Nat.reduceLT, Int.reduceEq, Int.reduceLT, Int.reduceLE, h2, h3, h5, hlt]
      have hkl : k = h.length := by omega
      subst hkl
      have hlk := faultOk_links hv
      refine aloop mixed (fz := fun r => if r = 4 then [6] else []) (im := fun s => s == 2 || s == 3) (by kernel_rfl) (fun m tm H' => ∃ k : Nat, m = h.length - k ∧ k ≤ h.length ∧ H' = H ∧ tm 2 = .vptr [[.vsl (t.map rClass) cl]] 0 0 ∧ tm 3 = .vptr [[.vsl (h.map rFault) cl']] 0 0 ∧ tm 7 = I k ∧ (List.range k).all (lastOk h) = true) h.length ⟨0, by omega, by omega, rfl, ?_⟩ ?_
      · simp +contextual -dsimp -implicitDefEqProofs (maxSteps := 5000000) only [go_sem, reduceIte, reduceCtorEq, Nat.reduceEqDiff, Nat.reduceBEq, Nat.reduceAdd, Nat.reduceLeDiff, Nat.reduceMul, Nat.reduceLT, Int.reduceEq, Int.reduceLT, Int.reduceLE, h2, h3]
        rfl
      · rintro m tm H ⟨k, rfl, hk, rfl, g2, g3, g7, hw⟩
        by_cases hlt : k < h.length
        · simp +contextual -dsimp -implicitDefEqProofs (maxSteps := 5000000) only [go_sem, reduceIte, reduceCtorEq, Nat.reduceEqDiff, Nat.reduceBEq, Nat.reduceAdd, Nat.reduceLeDiff, Nat.reduceMul, Nat.reduceLT, Int.reduceEq, Int.reduceLT, Int.reduceLE, g2, g3, g7, hlt]
          refine acalls_frz (c_scontexts h cl' k H hl (by omega) (fun k hk => (hlk k hk).2.1)) fun cl1 => ?_
          simp +contextual -dsimp -implicitDefEqProofs (maxSteps := 5000000) only [go_sem, reduceIte, reduceCtorEq, Nat.reduceEqDiff, Nat.reduceBEq, Nat.reduceAdd, Nat.reduceLeDiff, Nat.reduceMul, Nat.reduceLT, Int.reduceEq, Int.reduceLT, Int.reduceLE, g2, g3, g7, hlt]
          have c1 := List.length_pos_iff.2 (chainF_ne (h := h) (g := k) (by omega))
          have c2 := chainF_len h k
          have c3 := lastI_in (fun k hk => (hlk k hk).2.1) (f := k) (by omega) (by omega)
          have hw1 : IntKind.i64.wrap (((chainF h k).length : Int) - 1) = (((chainF h k).length - 1 : Nat) : Int) := by
            have := I_wrap (a := ((chainF h k).length : Int) - 1) (b := (((chainF h k).length - 1 : Nat) : Int)) (by omega) (by omega) (by omega)
            injection this with q
            injection q
          have c4 : (chainF h k).length - 1 < (chainF h k).length := by omega
          refine draw_intro [0, 0, 0, 0, 0, 0, 0, 0, 0, 0, 0, 0] AHeap.none (by kernel_rfl) none_le ?_
          simp +contextual -dsimp -implicitDefEqProofs (maxSteps := 5000000) only [go_sem, reduceIte, reduceCtorEq, Nat.reduceEqDiff, Nat.reduceBEq, Nat.reduceAdd, Nat.reduceLeDiff, Nat.reduceMul, Nat.reduceLT, Int.reduceEq, Int.reduceLT, Int.reduceLE, g2, g3, g7, hlt, hw1, c1, c4, c3]
          have bad : lastOk h k = false → validH t h = false := fun e => by simp [validH, range_bad hlt e]
          unfold lastOk ctxOf lastI at bad
          unfold lastI at c3
          have c5 := (hlk ((chainF h k).getD ((chainF h k).length - 1) default).toNat (by omega)).1
          exact ⟨⟨c3.1, c3.2⟩, by omega, fun hne => by rw [bad (decide_eq_false (by omega))], fun he => ⟨_, by omega, k + 1, rfl, hlt, I_wrap (by omega) (by omega) (by omega), range_next hw (decide_eq_true (by show (h.getD _ default).ctx = -1; unfold lastI; omega))⟩⟩
        · simp +contextual -dsimp -implicitDefEqProofs (maxSteps := 5000000) only [go_sem, reduceIte, reduceCtorEq, Nat.reduceEqDiff, Nat.reduceBEq, Nat.reduceAdd, Nat.reduceLeDiff, Nat.reduceMul, Nat.reduceLT, Int.reduceEq, Int.reduceLT, Int.reduceLE, g2, g3, g7, hlt]
          have hkl : k = h.length := by omega
          subst hkl
          refine (c_validTree t cl _ hn).det ?_
          cases e1 : validT t
          · simp +contextual -dsimp -implicitDefEqProofs (maxSteps := 5000000) only [go_sem, reduceIte, reduceCtorEq, Nat.reduceEqDiff, Nat.reduceBEq, Nat.reduceAdd, Nat.reduceLeDiff, Nat.reduceMul, Nat.reduceLT, Int.reduceEq, Int.reduceLT, Int.reduceLE, g2, g3]
            simp [validH, e1]
          · simp +contextual -dsimp -implicitDefEqProofs (maxSteps := 5000000) only [go_sem, reduceIte, reduceCtorEq, Nat.reduceEqDiff, Nat.reduceBEq, Nat.reduceAdd, Nat.reduceLeDiff, Nat.reduceMul, Nat.reduceLT, Int.reduceEq, Int.reduceLT, Int.reduceLE, g2, g3]
            simp only [validH, hv, hw, e1, Bool.true_and]
            exact congrArg B (decide_eq_decide.2 (by omega))
theorem c_faultsIn (t : List Class) (cl : Bool) (h : List Fault) (cl' : Bool) (l : List Int) (cl2 : Bool) (H : AHeap) (hn : namesOk t) (hl : h.length ≤ 1000000) : ACalls Tryd.prog 19 [aTree t cl, aHeap h cl', .vsl (l.map rI) cl2] H fun r H' => r = B (validH t h && l.all fun f => inR f 0 (h.length - 1)) ∧ H' = H := by
  refine acalls_of0 Tryd.func19 rfl (by kernel_rfl) rfl rfl (awp_sound (fz := fun _ => []) (im := fun s => s == 3 || s == 4) mixed _ _ _ _ (by kernel_rfl) ?_)
  simp +contextual -dsimp -implicitDefEqProofs (maxSteps := 5000000) only [go_sem, reduceIte, reduceCtorEq, Nat.reduceEqDiff, Nat.reduceBEq, Nat.reduceAdd, Nat.reduceLeDiff, Nat.reduceMul, Nat.reduceLT, Int.reduceEq, Int.reduceLT, Int.reduceLE]
  refine (c_ValidHeap t cl h cl' _ hn hl).det ?_
  cases e1 : validH t h
  · simp +contextual -dsimp -implicitDefEqProofs (maxSteps := 5000000) only [go_sem, reduceIte, reduceCtorEq, Nat.reduceEqDiff, Nat.reduceBEq, Nat.reduceAdd, Nat.reduceLeDiff, Nat.reduceMul, Nat.reduceLT, Int.reduceEq, Int.reduceLT, Int.reduceLE]
  · simp +contextual -dsimp -implicitDefEqProofs (maxSteps := 5000000) only [go_sem, reduceIte, reduceCtorEq, Nat.reduceEqDiff, Nat.reduceBEq, Nat.reduceAdd, Nat.reduceLeDiff, Nat.reduceMul, Nat.reduceLT, Int.reduceEq, Int.reduceLT, Int.reduceLE]
    refine (c_ContainsFuncInt l cl2 _ _ (fun f => !inR f 0 (h.length - 1)) _ (fun c => c_faultsIn1 h cl' c _)).det ?_
    simp +contextual -dsimp -implicitDefEqProofs (maxSteps := 5000000) only [go_sem, reduceIte, reduceCtorEq, Nat.reduceEqDiff, Nat.reduceBEq, Nat.reduceAdd, Nat.reduceLeDiff, Nat.reduceMul, Nat.reduceLT, Int.reduceEq, Int.reduceLT, Int.reduceLE]
    congr 1
    rw [Bool.eq_iff_iff]
    simp
theorem c_goodFault (t : List Class) (cl : Bool) (h : List Fault) (cl' : Bool) (f : Int) (H : AHeap) (hn : namesOk t) (hl : h.length ≤ 1000000) : ACalls Tryd.prog 22 [aTree t cl, aHeap h cl', I f] H fun r H' => r = B (validH t h && inR f 0 (h.length - 1)) ∧ H' = H := by
  refine acalls_of0 Tryd.func22 rfl (by kernel_rfl) rfl rfl (awp_sound (fz := fun _ => []) (im := fun s => s == 3 || s == 4) mixed _ _ _ _ (by kernel_rfl) ?_)
  simp +contextual -dsimp -implicitDefEqProofs (maxSteps := 5000000) only [go_sem, reduceIte, reduceCtorEq, Nat.reduceEqDiff, Nat.reduceBEq, Nat.reduceAdd, Nat.reduceLeDiff, Nat.reduceMul, Nat.reduceLT, Int.reduceEq, Int.reduceLT, Int.reduceLE]
  refine (c_validHeap t cl h cl' _ hn hl).det ?_
  cases e1 : validH t h
  · simp +contextual -dsimp -implicitDefEqProofs (maxSteps := 5000000) only [go_sem, reduceIte, reduceCtorEq, Nat.reduceEqDiff, Nat.reduceBEq, Nat.reduceAdd, Nat.reduceLeDiff, Nat.reduceMul, Nat.reduceLT, Int.reduceEq, Int.reduceLT, Int.reduceLE]
  · simp +contextual -dsimp -implicitDefEqProofs (maxSteps := 5000000) only [go_sem, reduceIte, reduceCtorEq, Nat.reduceEqDiff, Nat.reduceBEq, Nat.reduceAdd, Nat.reduceLeDiff, Nat.reduceMul, Nat.reduceLT, Int.reduceEq, Int.reduceLT, Int.reduceLE]
    refine (c_hasFault h cl' f _).det ?_
    simp +contextual -dsimp -implicitDefEqProofs (maxSteps := 5000000) only [go_sem, reduceIte, reduceCtorEq, Nat.reduceEqDiff, Nat.reduceBEq, Nat.reduceAdd, Nat.reduceLeDiff, Nat.reduceMul, Nat.reduceLT, Int.reduceEq, Int.reduceLT, Int.reduceLE]
end Go.Proofs.YtihjbbiajggcoaaDoor
end
section
set_option linter.unusedVariables false
set_option linter.unusedSimpArgs false
namespace Go.Proofs.YtihjbbiajggcoaaDoor
open Go Go.Sim
set_option maxRecDepth 100000
attribute [local go_sem ↓] aw_skip aw_ret aw_exit aw_region aw_draw aw_seq aw_block aw_loop aw_cond frz_nil frz_cons sq_normal sq_ret sq_exit exB_normal exB_ret exB_same exB_other retQ_ret retQ_normal ret0_ret ret0_normal ao_nil go1 g_move g_assign g_pick g_build g_load g_binOp g_unOp g_convert g_fieldAddr g_field g_indexAddr g_index g_extract g_slice g_nilCheck g_len g_makeFunc h_call h_append h_alloc h_box h_buildSlice h_makeSlice h_store gV i_box i_buildSlice i_move i_assign i_build i_load i_binOp i_unOp i_convert i_fieldAddr i_field i_indexAddr i_index i_extract i_slice i_nilCheck i_makeFunc i_len i_max i_min i_alloc i_makeSlice i_store i_append i_call i_pick boxI boxA buildSliceI buildSliceA makeSliceA allocA storeA p_move p_assign p_pick p_build p_load p_binOp p_unOp p_convert p_fieldAddr p_field p_indexAddr p_index p_extract p_slice p_nilCheck p_makeFunc p_len p_max p_min p_alloc p_box p_buildSlice p_makeSlice p_store p_append p_call x_nil x_go1 x_g0 x_g1 x_g2 x_g3 x_s0 x_s1 x_s2 x_s3 u_move u_assign u_pick u_build u_load u_binOp u_unOp u_convert u_fieldAddr u_field u_indexAddr u_index u_extract u_slice u_nilCheck u_makeFunc u_len u_buildSlice x_s4 x_g4 rq_normal rq_ret rq_exit aw_range
attribute [local go_sem] frzV_sl frzK_some set_none set_other AHeap.set_self set_del set_set cnd_t cnd_f cnd_b retA_one retA_two retA_three retA_four retA_nil gIf_b mrgV_b mrgV_wh mrgV_U gIf_U gIf_wh mrgB_f mrgB_some mrgB_if wh_true wh_false keepA_some keepA_if gD_zero gD_succ gT_some bxA_t bxA_f callA_fn ev_tmp ev_const ev_global ev_func oc_bool oc_int oc_string oc_nil oc_nilptr oc_nilfunc cl_bool cl_int cl_string cl_nil updO_some updO_none upd_same upd_other init_at pickA_b pickA_wh selA_t selA_f selA_and selA_or selA_orn selA_orm selA_bb selA_ii beqt b_add b_sub b_mul b_and b_or b_xor b_eql b_neq b_lss b_leq b_gtr b_geq b_quo b_rem b_shr b_seql b_sneq b_sadd b_beql b_bneq b_aeql b_aneq u_not u_neg isConstOp eqA eqCellV List.getD_cons_zero List.getD_cons_succ List.map_cons List.map_nil List.nil_append List.cons_append List.append_nil if_true if_false Option.map_some Option.map_none ne_eq not_false_eq_true oneA ldv ld1v ld1s wr1s ldRow stRow row_lit row_agg row_vsl row_sl row_ptr row_fn one_I one_B one_S one_vsl one_sl one_ptr one_fn extractA okA rI rS rU rClass rFault rExit rStart rLine Int.toNat_natCast List.length_cons List.length_nil List.length_map List.all_cons List.all_nil Bool.and_true Nat.zero_add List.getElem?_cons_zero List.getElem?_cons_succ List.take_succ_cons List.take_zero List.drop_succ_cons List.drop_zero and_self true_and and_true implies_true decide_eq_true_eq decide_eq_false_iff_not Bool.or_eq_true Bool.or_eq_false_iff Bool.and_eq_true Bool.not_eq_true' Bool.not_eq_false' beq_false decide_true decide_false Int.ofNat_lt Int.ofNat_le Int.natCast_nonneg Bool.or_true Bool.or_false Bool.true_or Bool.false_or beq_self_eq_true List.drop_one Bool.not_true Bool.not_false Bool.not_not Bool.false_eq_true Bool.true_eq_false false_implies true_implies Bool.true_and Bool.false_and Bool.and_false not_true_eq_false Int.natCast_eq_zero Int.natCast_pos Int.natCast_zero false_and and_false or_false false_or or_true true_or Bool.or_self none_le_iff List.replicate_zero Int.toNat_zero List.replicate_succ buildRows List.set_cons_zero List.set_cons_succ List.set_nil List.mapM_nil maxLen_eq Nat.zero_le Nat.mul_one Nat.one_mul bldA fillA spliceA List.take_nil List.drop_nil List.getElem?_nil ld1o wr1o bldSliceA le_same cv_i cvI_t quietT_fn qvd_some ld_o ldO_1 ldO_l wr_o wrO_1 set_2 set_3 set_4 putL_nil putL_cons List.zip_cons_cons List.zip_nil_left List.zip_nil_right List.toList_toArray frzV_set ti1 ti2 tk2 ti3 te3 ts3 tk3 tz3 ti4 tb4 ti5 tk5 tz5 ti9 te9 ts9 tk9 tz9 ti12 tk12 ti13 tp13 tf13_0 tf13_1 ti20 ti21 tk21 tz21 ti22 te22 tz22 ti23 te23 ti24 tp24 tf24_0 ti25 tp25 tf25_0 ti26 te26 ti27 tp27 tf27_0 ti28 tp28 tf28_0 ti30 ti32 ti33 ti34 tq34 tp34 tf34_0 tf34_1 tf34_2 tf34_3 tf34_4 ti35 tq35 tp35 tf35_0 tf35_1 tf35_2 tf35_3 tf35_4 ti36 ti37 te37 ti38 ti39 ti40 ti42 ti44 ti45 ti46 ti47 ti48 ti49 ti50 ti51 ti52 ti53 ti54 ti55 ti56 ti57 ti58 ti59 ti60 ti61 ti62 ti64 ti65 ti66 tp66 tf66_0 tf66_1 ti67 tp67 tf67_0 tf67_1 ti68 ti69 ti70 ti71 ti72 ti73 ti74 ti75 ti76 ti77 ti78 ti79 ti80 ti81 ti82 ti83 tq83 tp83 tf83_0 tf83_1 ti84 tq84 tp84 tf84_0 tf84_1 ti85 ti86 ti87 ti88 ti89 ti90 ti91 ti92 ti93 ti94 ti95 ti96 tk96 tz96 ti97 ti98 ti99 ti100 ti101 te101 ti102 ti103 ti104 tk104 ti106 ti107 ti108 ti110 ti111 ti112 tk112 tz112 ti113 ti114 tk114 tz114 ti115 tk115 ti116 ti117 ti118 ti119 ti120 ti121 ti122 ti124 ti125 ta125 ti126 ti128 ti129 ti130 ta130 ti131 ta131 ti132 ta132 ti133 ta133 ti134 ti140 ti144 fp13_0 fv13_0 fp13_1 fv13_1 fp24_0 fv24_0 fp25_0 fv25_0 fp27_0 fv27_0 fp28_0 fv28_0 fp34_0 fv34_0 fp34_1 fv34_1 fp34_2 fv34_2 fp34_3 fv34_3 fp34_4 fv34_4 fp35_0 fv35_0 fp35_1 fv35_1 fp35_2 fv35_2 fp35_3 fv35_3 fp35_4 fv35_4 fp66_0 fv66_0 fp66_1 fv66_1 fp67_0 fv67_0 fp67_1 fv67_1 fp83_0 fv83_0 fp83_1 fv83_1 fp84_0 fv84_0 fp84_1 fv84_1 lv22 ll22 is22 ix22 sh22 so22 sb22 sm22 sp22 lv23 ll23 is23 ix23 sh23 so23 sb23 sm23 sp23 lv26 ll26 is26 ix26 sh26 so26 sb26 sm26 sp26 lv37 ll37 is37 ix37 sh37 so37 sb37 sm37 sp37 lv101 ll101 is101 ix101 sh101 so101 sb101 sm101 sp101 xs9 ls9 sx9 sy9 sz9

theorem getD_app {α : Type} {a b : List α} {d : α} {i : Nat} (h : i < a.length) : (a ++ b).getD i d = a.getD i d := by
  rw [List.getD_eq_getElem?_getD, List.getD_eq_getElem?_getD, List.getElem?_append_left h]
theorem walkG_step {nx : Int → Int} : ∀ (n : Nat) (out : List Int) (f : Int), (∀ i, i + 1 < out.length → out.getD (i + 1) default = nx (out.getD i default)) → (∀ i, i + 1 = out.length → nx (out.getD i default) = f) →
    ∀ i, i + 1 < (walkG nx n out f).length → (walkG nx n out f).getD (i + 1) default = nx ((walkG nx n out f).getD i default)
  | 0, out, f, h, _, i, hi => h i hi
  | n + 1, out, f, h, h2, i, hi => by
    simp only [walkG] at hi ⊢
    by_cases c : 0 ≤ f ∧ (out.any fun x => decide (f = x)) = false
    · rw [if_pos c] at hi ⊢
      refine walkG_step n (out ++ [f]) (nx f) ?_ ?_ i hi
      · intro j hj
        rw [List.length_append, List.length_singleton] at hj
        rcases Nat.lt_or_ge (j + 1) out.length with q | q
        · rw [getD_app q, getD_app (show j < out.length by omega)]
          exact h j q
        · have e : j + 1 = out.length := by omega
          rw [getD_app (show j < out.length by omega), h2 j e, e]
          simp [List.getD_eq_getElem?_getD]
      · intro j hj
        rw [List.length_append, List.length_singleton] at hj
        have e : j = out.length := by omega
        subst e
        simp [List.getD_eq_getElem?_getD]
    · rw [if_neg c] at hi ⊢
      exact h i hi
theorem walkG_pre {nx : Int → Int} : ∀ (n : Nat) (out : List Int) (f : Int) (i : Nat), i < out.length → (walkG nx n out f).getD i default = out.getD i default
  | 0, out, f, i, hi => rfl
  | n + 1, out, f, i, hi => by
    simp only [walkG]
    split
    · rw [walkG_pre n (out ++ [f]) (nx f) i (by simp; omega), getD_app hi]
    · rfl
theorem chain_step {h : List Fault} {g : Int} {i : Nat} (hi : i + 1 < (chainF h g).length) : (chainF h g).getD (i + 1) default = ctxOf h ((chainF h g).getD i default) :=
  walkG_step (h.length + 1) [] g (fun i q => by simp at q) (fun i q => by simp at q) i hi
theorem chain_head {h : List Fault} {g : Int} (h0 : 0 ≤ g) : (chainF h g).getD 0 default = g := by
  unfold chainF walkF
  simp only [walkG]
  rw [if_pos ⟨h0, rfl⟩, walkG_pre _ _ _ 0 (by simp)]
  rfl
/-- A chain cut where it comes to a fault. -/
def cutAt (h : List Fault) (f : Int) (l : List Int) : List Fault := match l.find? (fun x => decide (ctxOf h x = f)) with
  | some x => h.set x.toNat { h.getD x.toNat default with ctx := -1 }
  | none => h
def raisedF (h : List Fault) (f g : Int) : List Fault := if f = g ∨ g < 0 then h else (cutAt h f (chainF h g)).set f.toNat { (cutAt h f (chainF h g)).getD f.toNat default with ctx := g }
theorem cutAt_len (h : List Fault) (f : Int) (l : List Int) : (cutAt h f l).length = h.length := by unfold cutAt; split <;> simp
theorem raisedF_len (h : List Fault) (f g : Int) : (raisedF h f g).length = h.length := by unfold raisedF; split <;> simp [cutAt_len]
theorem cutAt_at {h : List Fault} {f : Int} {l : List Int} {i : Nat} (hi : i < l.length) (hn : (l.take i).any (fun x => decide (ctxOf h x = f)) = false) (hc : ctxOf h (l.getD i default) = f) : cutAt h f l = h.set (l.getD i default).toNat { h.getD (l.getD i default).toNat default with ctx := -1 } := by
  have : l.find? (fun x => decide (ctxOf h x = f)) = some (l.getD i default) := by
    have e : l.getD i default = l[i] := by simp [List.getD_eq_getElem?_getD, hi]
    rw [List.find?_eq_some_iff_getElem]
    refine ⟨decide_eq_true hc, i, hi, e.symm, fun j hj => ?_⟩
    rw [List.any_eq_false] at hn
    have := hn l[j] (by rw [List.mem_take_iff_getElem]; exact ⟨j, by omega, rfl⟩)
    simpa using this
  unfold cutAt
  rw [this]
theorem cutAt_none {h : List Fault} {f : Int} {l : List Int} (hn : l.any (fun x => decide (ctxOf h x = f)) = false) : cutAt h f l = h := by
  have : l.find? (fun x => decide (ctxOf h x = f)) = none := by
    rw [List.find?_eq_none]
    rw [List.any_eq_false] at hn
    intro x hx
    simpa using hn x hx
  unfold cutAt
  rw [this]
/-- Contexts of faults that come to an end. -/
structure Calm (h : List Fault) : Prop where
  ctx : ∀ k, k < h.length → -1 ≤ (h.getD k default).ctx ∧ (h.getD k default).ctx < h.length
  last : ∀ k, k < h.length → lastOk h k = true
theorem Calm.at {h : List Fault} (hc : Calm h) {g : Int} (h0 : 0 ≤ g) (hg : g < h.length) {i : Nat} (hi : i < (chainF h g).length) : (i + 1 < (chainF h g).length ∧ 0 ≤ ctxOf h ((chainF h g).getD i default)) ∨ (i + 1 = (chainF h g).length ∧ ctxOf h ((chainF h g).getD i default) = -1) := by
  rcases Nat.lt_or_ge (i + 1) (chainF h g).length with q | q
  · left
    refine ⟨q, ?_⟩
    rw [← chain_step q, List.getD_eq_getElem?_getD, List.getElem?_eq_getElem q]
    exact (chainF_in (fun k hk => (hc.ctx k hk).2) hg (List.getElem_mem q)).1
  · right
    have e : i + 1 = (chainF h g).length := by omega
    refine ⟨e, ?_⟩
    have := hc.last g.toNat (by omega)
    rw [lastOk, decide_eq_true_eq, lastI, Int.toNat_of_nonneg h0, ← e] at this
    simpa using this
theorem c_raisedG (fs : List Fault) (cl : Bool) (f g : Int) (H : AHeap) (hl : fs.length ≤ 999999) (hcm : Calm fs) (hf0 : 0 ≤ f) (hf : f < fs.length) (hg : g < fs.length) : ACalls Tryd.prog 24 [aHeap fs cl, I f, I g] H fun r H' => ∃ x, r = .agg [x] ∧ Grow rFault 5 35 H H' x (raisedF fs f g) := by
  refine acalls_of1 Tryd.func24 rfl (by kernel_rfl) rfl rfl (awp_sound (fz := fun _ => []) (im := fun s => s == 3) mixed _ _ _ _ (by kernel_rfl) ?_)
  simp +contextual -dsimp -implicitDefEqProofs (maxSteps := 5000000) only [go_sem, reduceIte, reduceCtorEq, Nat.reduceEqDiff, Nat.reduceBEq, Nat.reduceAdd, Nat.reduceLeDiff, Nat.reduceMul, Nat.reduceLT, Int.reduceEq, Int.reduceLT, Int.reduceLE]
  intro b6 hb6
  refine (c_copyHeap fs cl _ (by omega)).mono ?_
  rintro _ H1 ⟨x, rfl, hgr⟩
  obtain ⟨H2, hgr2, rfl, hn6⟩ := grow_out hgr hb6
  rcases hgr2 with ⟨e, _, _⟩ | ⟨bx, clx, hbx, rfl, rfl⟩
  · rw [e] at hf; simp at hf; omega
  simp +contextual -dsimp -implicitDefEqProofs (maxSteps := 5000000) only [go_sem, reduceIte, reduceCtorEq, Nat.reduceEqDiff, Nat.reduceBEq, Nat.reduceAdd, Nat.reduceLeDiff, Nat.reduceMul, Nat.reduceLT, Int.reduceEq, Int.reduceLT, Int.reduceLE]
  rintro b7 ⟨n1, n2, hn7⟩
  have q6 := hn6
  rw [set_none] at q6
  obtain ⟨s1, s2, s3⟩ := q6
  obtain ⟨s4, s5, s6⟩ := hn7
  have fin : ∀ (l : List Fault) (tm : Tm), l.length = fs.length → tm 6 = .ptr b6 1 0 0 → l = raisedF fs f g → retR Tryd.prog [.cell 6 28] (fun r H' => ∃ x, r = .agg [x] ∧ Grow rFault 5 35 H H' x (raisedF fs f g)) tm
      (((H.set bx ⟨5, 35, l.map rFault⟩).set b6 ⟨1, 28, [[.sl bx 5 0 fs.length clx]]⟩).set b7 ⟨1, 28, [[.sl bx 5 0 fs.length clx]]⟩) := by
    intro l tm hll h6 he
    refine retR_less (l := [.agg [.sl bx 5 0 fs.length clx]]) (H' := H.set bx ⟨5, 35, l.map rFault⟩) ?_ (le_s1 (le_s1 (AHeap.le_refl _) (by rw [set_other s1]; exact s3)) (by rw [set_other s4]; exact s6)) ⟨_, rfl, .inr ⟨bx, clx, hbx, by rw [← he, hll], by rw [he]⟩⟩
    simp only [resA, go_sem, reduceIte, reduceCtorEq, Nat.reduceEqDiff, Nat.reduceBEq, Nat.reduceAdd, Nat.reduceLeDiff, Nat.reduceMul, Nat.reduceLT, Int.reduceEq, Int.reduceLT, Int.reduceLE, n1, n2, h6]
  refine ⟨fun hb => ?_, fun hb => ?_⟩
  · refine fin fs _ rfl ?_ (by rw [raisedF, if_pos hb])
    rfl
  have g0 : 0 ≤ g := by omega
  have hne := List.length_pos_iff.2 (chainF_ne (h := fs) g0)
  have hR : ∀ l1, l1 = cutAt fs f (chainF fs g) → l1.set f.toNat { l1.getD f.toNat default with ctx := g } = raisedF fs f g := by
    rintro _ rfl
    rw [raisedF, if_neg (by omega)]
  have fn : f.toNat < fs.length := by omega
  refine aloop mixed (fz := fun _ => []) (im := fun s => s == 3) (by kernel_rfl) (fun m tm H' => ∃ i : Nat, m = (chainF fs g).length - i ∧ i < (chainF fs g).length ∧ H' = (((H.set bx ⟨5, 35, fs.map rFault⟩).set b6 ⟨1, 28, [[.vsl [] true]]⟩).set b7 ⟨1, 28, [[.sl bx 5 0 fs.length clx]]⟩) ∧ tm 1 = I f ∧ tm 2 = I g ∧ tm 6 = .ptr b6 1 0 0 ∧ tm 7 = .ptr b7 1 0 0 ∧ tm 8 = I ((chainF fs g).getD i default) ∧ ((chainF fs g).take i).any (fun x => decide (ctxOf fs x = f)) = false) (chainF fs g).length ⟨0, by omega, by omega, rfl, ?_⟩ ?_
  · simp +contextual -dsimp -implicitDefEqProofs (maxSteps := 5000000) only [go_sem, reduceIte, reduceCtorEq, Nat.reduceEqDiff, Nat.reduceBEq, Nat.reduceAdd, Nat.reduceLeDiff, Nat.reduceMul, Nat.reduceLT, Int.reduceEq, Int.reduceLT, Int.reduceLE, chain_head g0]
    rfl
  · rintro m tm _ ⟨i, rfl, hi, rfl, h1, h2, h6, h7, h8, hno⟩
    have hin : 0 ≤ (chainF fs g).getD i default ∧ (chainF fs g).getD i default < fs.length := by
      rw [List.getD_eq_getElem?_getD, List.getElem?_eq_getElem hi]
      exact chainF_in (fun k hk => (hcm.ctx k hk).2) hg (List.getElem_mem hi)
    have hat := hcm.at g0 hg hi
    have hcut := fun hc => cutAt_at (h := fs) (f := f) hi hno hc
    have hst := fun q => chain_step (h := fs) (g := g) (i := i) q
    generalize hc : (chainF fs g).getD i default = c at hin hat hcut hst h8
    unfold ctxOf at hat hcut hst
    have cn : c.toNat < fs.length := by omega
    rcases hat with ⟨a1, a2⟩ | ⟨a1, a2⟩
    · by_cases e1 : (fs.getD c.toNat default).ctx = f
      · have l1f : f.toNat < (fs.set c.toNat { fs.getD c.toNat default with ctx := -1 }).length := by rw [List.length_set]; exact fn
        simp +contextual -dsimp -implicitDefEqProofs (maxSteps := 5000000) only [go_sem, reduceIte, reduceCtorEq, Nat.reduceEqDiff, Nat.reduceBEq, Nat.reduceAdd, Nat.reduceLeDiff, Nat.reduceMul, Nat.reduceLT, Int.reduceEq, Int.reduceLT, Int.reduceLE, h1, h2, h6, h7, h8, n1, n2, s1, s2, s4, s5, hin, cn, a2, e1, hf0]
        rw [wrO_y (y := { fs.getD c.toNat default with ctx := -1 }) cn rfl]
        simp +contextual -dsimp -implicitDefEqProofs (maxSteps := 5000000) only [go_sem, reduceIte, reduceCtorEq, Nat.reduceEqDiff, Nat.reduceBEq, Nat.reduceAdd, Nat.reduceLeDiff, Nat.reduceMul, Nat.reduceLT, Int.reduceEq, Int.reduceLT, Int.reduceLE, h1, h2, h6, h7, h8, n1, n2, s1, s2, s4, s5, hin, cn, a2, e1, hf0, hf]
        rw [wrO_y (y := { (fs.set c.toNat { fs.getD c.toNat default with ctx := -1 }).getD f.toNat default with ctx := g }) l1f rfl]
        simp +contextual -dsimp -implicitDefEqProofs (maxSteps := 5000000) only [go_sem, reduceIte, reduceCtorEq, Nat.reduceEqDiff, Nat.reduceBEq, Nat.reduceAdd, Nat.reduceLeDiff, Nat.reduceMul, Nat.reduceLT, Int.reduceEq, Int.reduceLT, Int.reduceLE, h1, h2, h6, h7, h8, n1, n2, s1, s2, s4, s5, hin, cn, a2, e1, hf0, hf]
        refine fin _ _ (by simp) ?_ (hR _ (hcut e1).symm)
        exact h6
      · simp +contextual -dsimp -implicitDefEqProofs (maxSteps := 5000000) only [go_sem, reduceIte, reduceCtorEq, Nat.reduceEqDiff, Nat.reduceBEq, Nat.reduceAdd, Nat.reduceLeDiff, Nat.reduceMul, Nat.reduceLT, Int.reduceEq, Int.reduceLT, Int.reduceLE, h1, h2, h6, h7, h8, n1, n2, s1, s2, s4, s5, hin, cn, a2, e1]
        exact ⟨_, by omega, i + 1, rfl, a1, by rw [hst a1], any_take hi hno (d := default) (by rw [hc]; exact decide_eq_false e1)⟩
    · have hall := any_take hi hno (d := default) (by rw [hc]; exact decide_eq_false (by unfold ctxOf; omega))
      rw [a1, List.take_length] at hall
      simp +contextual -dsimp -implicitDefEqProofs (maxSteps := 5000000) only [go_sem, reduceIte, reduceCtorEq, Nat.reduceEqDiff, Nat.reduceBEq, Nat.reduceAdd, Nat.reduceLeDiff, Nat.reduceMul, Nat.reduceLT, Int.reduceEq, Int.reduceLT, Int.reduceLE, h1, h2, h6, h7, h8, n1, n2, s1, s2, s4, s5, hin, cn, a2, hf0, hf]
      rw [wrO_y (y := { fs.getD f.toNat default with ctx := g }) fn rfl]
      simp +contextual -dsimp -implicitDefEqProofs (maxSteps := 5000000) only [go_sem, reduceIte, reduceCtorEq, Nat.reduceEqDiff, Nat.reduceBEq, Nat.reduceAdd, Nat.reduceLeDiff, Nat.reduceMul, Nat.reduceLT, Int.reduceEq, Int.reduceLT, Int.reduceLE, h1, h2, h6, h7, h8, n1, n2, s1, s2, s4, s5, hin, cn, a2, hf0, hf]
      refine fin _ _ (by simp) ?_ (hR _ (cutAt_none hall).symm)
      exact h6
theorem c_raisedF (fs : List Fault) (cl : Bool) (f g : Int) (H : AHeap) (hl : fs.length ≤ 999999) (hcm : Calm fs) (hf0 : 0 ≤ f) (hf : f < fs.length) (hg : g < fs.length) : ACalls Tryd.prog 24 [aHeap fs cl, I f, I g] H fun r H' => (∃ cl', r = aHeap (raisedF fs f g) cl') ∧ H' = H :=
  acalls_frzA (c_raisedG fs cl f g H hl hcm hf0 hf hg) fun cl' => ⟨⟨cl', rfl⟩, rfl⟩
end Go.Proofs.YtihjbbiajggcoaaDoor
end
section
set_option linter.unusedVariables false
set_option linter.unusedSimpArgs false
namespace Go.Proofs.YtihjbbiajggcoaaDoor
open Go Go.Sim
set_option maxRecDepth 100000

/-- In so many steps there is nothing more. -/
def EndsAt (nx : Int → Int) : Nat → Int → Prop
  | 0, a => a < 0
  | m + 1, a => 0 ≤ a ∧ EndsAt nx m (nx a)
theorem EndsAt.uniq {nx : Int → Int} : ∀ {m m' : Nat} {a : Int}, EndsAt nx m a → EndsAt nx m' a → m = m'
  | 0, 0, _, _, _ => rfl
  | 0, m' + 1, a, h, h' => by have := h'.1; simp only [EndsAt] at h; omega
  | m + 1, 0, a, h, h' => by have := h.1; simp only [EndsAt] at h'; omega
  | m + 1, m' + 1, a, h, h' => by rw [EndsAt.uniq h.2 h'.2]
def Ends (nx : Int → Int) (a : Int) : Prop := ∃ m, EndsAt nx m a
theorem Ends.neg {nx : Int → Int} {a : Int} (h : a < 0) : Ends nx a := ⟨0, h⟩
theorem Ends.step {nx : Int → Int} {a : Int} (h : Ends nx (nx a)) : Ends nx a := by
  obtain ⟨m, hm⟩ := h
  by_cases c : a < 0
  · exact .neg c
  · exact ⟨m + 1, by omega, hm⟩
theorem Ends.ind {nx : Int → Int} {p : Int → Prop} (h0 : ∀ a, a < 0 → p a) (h1 : ∀ a, 0 ≤ a → p (nx a) → p a) {a : Int} (h : Ends nx a) : p a := by
  obtain ⟨m, hm⟩ := h
  induction m generalizing a with
  | zero => exact h0 a hm
  | succ m ih => exact h1 a hm.1 (ih hm.2)
theorem walkG_end {nx : Int → Int} {n : Nat} (hnx : ∀ a : Int, 0 ≤ a → a < n → nx a < n) : ∀ (m fuel : Nat) (out : List Int) (f : Int), EndsAt nx m f → f < n → (∀ a ∈ out, ∃ m', m < m' ∧ EndsAt nx m' a) → freeN n out < fuel → (out ≠ [] → nx (lastI out) = f) → walkG nx fuel out f ≠ [] → nx (lastI (walkG nx fuel out f)) < 0
  | m, 0, out, f, _, _, _, hfr, _, _ => by omega
  | 0, fuel + 1, out, f, he, hf, ho, hfr, hl, hne => by
    have hf0 : f < 0 := he
    simp only [walkG] at hne ⊢
    rw [if_neg (by omega)] at hne ⊢
    rw [hl hne]; exact hf0
  | m + 1, fuel + 1, out, f, he, hf, ho, hfr, hl, hne => by
    have hany : (out.any fun x => decide (f = x)) = false := by
      rw [List.any_eq_false]
      intro a ha
      obtain ⟨m', h1, h2⟩ := ho a ha
      have : ¬ f = a := by
        rintro rfl
        have := he.uniq h2
        omega
      simpa using this
    simp only [walkG] at hne ⊢
    rw [if_pos ⟨he.1, hany⟩] at hne ⊢
    have := freeN_lt he.1 hf hany
    refine walkG_end hnx m fuel (out ++ [f]) (nx f) he.2 (hnx f he.1 hf) ?_ (by omega) ?_ hne
    · intro a ha
      rcases List.mem_append.1 ha with q | q
      · obtain ⟨m', h1, h2⟩ := ho a q
        exact ⟨m', by omega, h2⟩
      · simp at q; subst q
        exact ⟨m + 1, by omega, he⟩
    · intro _
      congr 1
      simp [lastI, List.getD_eq_getElem?_getD]
theorem Calm.of_ends {h : List Fault} (hc : ∀ k, k < h.length → -1 ≤ (h.getD k default).ctx ∧ (h.getD k default).ctx < h.length) (he : ∀ k : Nat, k < h.length → Ends (ctxOf h) k) : Calm h := by
  refine ⟨hc, fun k hk => ?_⟩
  obtain ⟨m, hm⟩ := he k hk
  have hne := chainF_ne (h := h) (g := k) (by omega)
  have hnx : ∀ a : Int, 0 ≤ a → a < h.length → ctxOf h a < h.length := fun a a0 a1 => (hc a.toNat (by omega)).2
  have := walkG_end hnx m (h.length + 1) [] k hm (by omega) (fun a ha => by cases ha) (by have := freeN_nil h.length; omega) (fun q => absurd rfl q) hne
  have hin := lastI_in (fun k hk => (hc k hk).2) (f := k) (by omega) (by omega)
  have h1 := hc (lastI (chainF h k)).toNat (by omega)
  rw [lastOk, decide_eq_true_eq]
  unfold ctxOf at this ⊢
  unfold chainF walkF at h1 ⊢
  unfold ctxOf at h1 ⊢
  omega
theorem Calm.ends {h : List Fault} (hc : Calm h) {k : Int} (h0 : 0 ≤ k) (hk : k < h.length) : Ends (ctxOf h) k := by
  have hne := List.length_pos_iff.2 (chainF_ne (h := h) h0)
  have key : ∀ j, j < (chainF h k).length → Ends (ctxOf h) ((chainF h k).getD ((chainF h k).length - 1 - j) default) := by
    intro j
    induction j with
    | zero =>
      intro hj
      rcases hc.at h0 hk (i := (chainF h k).length - 1 - 0) (by omega) with ⟨q, _⟩ | ⟨_, q⟩
      · omega
      · exact .step (.neg (by omega))
    | succ j ih =>
      intro hj
      have e : (chainF h k).length - 1 - j = ((chainF h k).length - 1 - (j + 1)) + 1 := by omega
      have := ih (by omega)
      rw [e, chain_step (by omega)] at this
      exact .step this
  have := key ((chainF h k).length - 1) (by omega)
  rw [Nat.sub_self, chain_head h0] at this
  exact this
end Go.Proofs.YtihjbbiajggcoaaDoor
end
section
set_option linter.unusedVariables false
set_option linter.unusedSimpArgs false
namespace Go.Proofs.YtihjbbiajggcoaaDoor
open Go Go.Sim
set_option maxRecDepth 100000

theorem getD_set {α : Type} {l : List α} {i j : Nat} {x d : α} (h : i < l.length) : (l.set i x).getD j d = if i = j then x else l.getD j d := by
  rw [List.getD_eq_getElem?_getD, List.getD_eq_getElem?_getD, List.getElem?_set]
  split
  · rename_i e; subst e; simp [h]
  · rfl
theorem ctx_set {h : List Fault} {i : Nat} {x : Fault} {a : Int} (hi : i < h.length) : ctxOf (h.set i x) a = if i = a.toNat then x.ctx else ctxOf h a := by
  unfold ctxOf
  rw [getD_set hi]
  split <;> rfl
theorem cut_ctx {h : List Fault} {f : Int} {l : List Int} (hl : ∀ x ∈ l, 0 ≤ x ∧ x < h.length) {a : Int} (a0 : 0 ≤ a) : ctxOf (cutAt h f l) a = ctxOf h a ∨ (ctxOf (cutAt h f l) a = -1 ∧ ctxOf h a = f) := by
  unfold cutAt
  split
  · rename_i x hx
    have hm := hl x (List.mem_of_find?_eq_some hx)
    have hp := List.find?_some hx
    rw [ctx_set (by omega)]
    by_cases e : x.toNat = a.toNat
    · rw [if_pos e]
      right
      have : x = a := by omega
      subst this
      exact ⟨rfl, by simpa using hp⟩
    · rw [if_neg e]; exact .inl rfl
  · exact .inl rfl
theorem Calm.raised {h : List Fault} (hc : Calm h) {f g : Int} (f0 : 0 ≤ f) (hf : f < h.length) (hg : g < h.length) : Calm (raisedF h f g) := by
  by_cases hb : f = g ∨ g < 0
  · rw [raisedF, if_pos hb]; exact hc
  have g0 : 0 ≤ g := by omega
  have hfg : ¬ f = g := by omega
  have hlin : ∀ x ∈ chainF h g, 0 ≤ x ∧ x < h.length := fun x hx => chainF_in (fun k hk => (hc.ctx k hk).2) hg hx
  have e2 : ∀ a : Int, 0 ≤ a → ctxOf (raisedF h f g) a = if f = a then g else ctxOf (cutAt h f (chainF h g)) a := by
    intro a a0
    rw [raisedF, if_neg hb, ctx_set (by rw [cutAt_len]; omega)]
    by_cases e : f = a
    · subst e; rw [if_pos rfl, if_pos rfl]
    · rw [if_neg e, if_neg (by omega)]
  have ec : ∀ a : Int, 0 ≤ a → ¬ f = a → ctxOf (raisedF h f g) a = ctxOf h a ∨ (ctxOf (raisedF h f g) a = -1 ∧ ctxOf h a = f) := by
    intro a a0 e
    rw [e2 a a0, if_neg e]
    exact cut_ctx hlin a0
  have hEg : ∀ (j i : Nat), (chainF h g).length - i ≤ j → i < (chainF h g).length → ((chainF h g).take i).any (fun x => decide (ctxOf h x = f)) = false → Ends (ctxOf (raisedF h f g)) ((chainF h g).getD i default) := by
    intro j
    induction j with
    | zero => intro i h1 h2; omega
    | succ j ih =>
      intro i h1 h2 h3
      have hm : (chainF h g).getD i default ∈ chainF h g := by
        rw [List.getD_eq_getElem?_getD, List.getElem?_eq_getElem h2]; exact List.getElem_mem h2
      have hin := hlin _ hm
      have hne : ¬ f = (chainF h g).getD i default := by
        cases i with
        | zero => rw [chain_head g0]; exact hfg
        | succ i =>
          rw [chain_step h2]
          rw [List.any_eq_false] at h3
          have hi : i < (chainF h g).length := by omega
          have := h3 ((chainF h g).getD i default) (by rw [List.getD_eq_getElem?_getD, List.getElem?_eq_getElem hi, List.mem_take_iff_getElem]; exact ⟨i, by omega, rfl⟩)
          intro q
          exact this (decide_eq_true q.symm)
      refine .step ?_
      by_cases hx : ctxOf h ((chainF h g).getD i default) = f
      · have : ctxOf (raisedF h f g) ((chainF h g).getD i default) = -1 := by
          rw [e2 _ hin.1, if_neg hne, cutAt_at h2 h3 hx, ctx_set (by omega), if_pos rfl]
        rw [this]; exact .neg (by omega)
      · rcases ec _ hin.1 hne with q | ⟨_, q⟩
        · rw [q]
          rcases hc.at g0 hg h2 with ⟨q1, q2⟩ | ⟨q1, q2⟩
          · rw [← chain_step q1]
            exact ih (i + 1) (by omega) q1 (any_take h2 h3 (d := default) (decide_eq_false hx))
          · rw [q2]; exact .neg (by omega)
        · exact absurd q hx
  have hne := List.length_pos_iff.2 (chainF_ne (h := h) g0)
  have hg' : Ends (ctxOf (raisedF h f g)) g := by
    have := hEg (chainF h g).length 0 (by omega) hne rfl
    rwa [chain_head g0] at this
  have hall : ∀ a : Int, Ends (ctxOf h) a → Ends (ctxOf (raisedF h f g)) a := by
    intro a ha
    refine Ends.ind (p := fun a => Ends (ctxOf (raisedF h f g)) a) (fun a q => .neg q) (fun a a0 q => ?_) ha
    refine .step ?_
    by_cases e : f = a
    · rw [e2 a a0, if_pos e]; exact hg'
    · rcases ec a a0 e with q1 | ⟨q1, _⟩
      · rw [q1]; exact q
      · rw [q1]; exact .neg (by omega)
  refine .of_ends (fun k hk => ?_) (fun k hk => ?_)
  · rw [raisedF_len] at hk ⊢
    have hk2 := hc.ctx k hk
    show -1 ≤ ctxOf (raisedF h f g) (k : Int) ∧ ctxOf (raisedF h f g) (k : Int) < h.length
    by_cases e : f = k
    · rw [e2 k (by omega), if_pos e]; omega
    · rcases ec k (by omega) e with q1 | ⟨q1, _⟩
      · rw [q1]; exact hk2
      · rw [q1]; omega
  · rw [raisedF_len] at hk
    exact hall k (hc.ends (by omega) (by omega))
theorem Calm.nil : Calm [] := ⟨fun k hk => by simp at hk, fun k hk => by simp at hk⟩
theorem Calm.same {h h' : List Fault} (hc : Calm h) (hl : h'.length = h.length) (hx : ∀ k, k < h.length → (h'.getD k default).ctx = (h.getD k default).ctx) : Calm h' := by
  have e : ∀ a : Int, 0 ≤ a → a < h.length → ctxOf h' a = ctxOf h a := fun a a0 a1 => hx a.toNat (by omega)
  refine .of_ends (fun k hk => ?_) (fun k hk => ?_)
  · rw [hl] at hk ⊢; rw [hx k hk]; exact hc.ctx k hk
  · rw [hl] at hk
    have := hc.ends (k := k) (by omega) (by omega)
    refine Ends.ind (p := fun a => a < h.length → Ends (ctxOf h') a) (fun a q _ => .neg q) (fun a a0 q q1 => .step ?_) this (by omega)
    rw [e a a0 q1]
    exact q (hc.ctx a.toNat (by omega)).2
theorem Calm.add {h : List Fault} (hc : Calm h) {x : Fault} (hx : x.ctx = -1) : Calm (h ++ [x]) := by
  have e1 : ∀ a : Int, 0 ≤ a → a < h.length → ctxOf (h ++ [x]) a = ctxOf h a := fun a a0 a1 => by unfold ctxOf; rw [getD_app (by omega)]
  have e2 : ctxOf (h ++ [x]) h.length = -1 := by unfold ctxOf; simp [List.getD_eq_getElem?_getD, hx]
  refine .of_ends (fun k hk => ?_) (fun k hk => ?_)
  · rw [List.length_append, List.length_singleton] at hk ⊢
    show -1 ≤ ctxOf (h ++ [x]) (k : Int) ∧ ctxOf (h ++ [x]) (k : Int) < ((h.length + 1 : Nat) : Int)
    rcases Nat.lt_or_ge k h.length with q | q
    · rw [e1 k (by omega) (by omega)]
      have := hc.ctx k q
      unfold ctxOf
      simp only [Int.toNat_natCast]
      omega
    · have : k = h.length := by omega
      subst this
      rw [e2]; omega
  · rw [List.length_append, List.length_singleton] at hk
    rcases Nat.lt_or_ge k h.length with q | q
    · have := hc.ends (k := k) (by omega) (by omega)
      refine Ends.ind (p := fun a => a < h.length → Ends (ctxOf (h ++ [x])) a) (fun a q _ => .neg q) (fun a a0 q q1 => .step ?_) this (by omega)
      rw [e1 a a0 q1]
      exact q (hc.ctx a.toNat (by omega)).2
    · have : k = h.length := by omega
      subst this
      exact .step (by rw [e2]; exact .neg (by omega))
end Go.Proofs.YtihjbbiajggcoaaDoor
end
section
set_option linter.unusedVariables false
set_option linter.unusedSimpArgs false
namespace Go.Proofs.YtihjbbiajggcoaaDoor
open Go Go.Sim
set_option maxRecDepth 100000
attribute [local go_sem ↓] aw_skip aw_ret aw_exit aw_region aw_draw aw_seq aw_block aw_loop aw_cond frz_nil frz_cons sq_normal sq_ret sq_exit exB_normal exB_ret exB_same exB_other retQ_ret retQ_normal ret0_ret ret0_normal ao_nil go1 g_move g_assign g_pick g_build g_load g_binOp g_unOp g_convert g_fieldAddr g_field g_indexAddr g_index g_extract g_slice g_nilCheck g_len g_makeFunc h_call h_append h_alloc h_box h_buildSlice h_makeSlice h_store gV i_box i_buildSlice i_move i_assign i_build i_load i_binOp i_unOp i_convert i_fieldAddr i_field i_indexAddr i_index i_extract i_slice i_nilCheck i_makeFunc i_len i_max i_min i_alloc i_makeSlice i_store i_append i_call i_pick boxI boxA buildSliceI buildSliceA makeSliceA allocA storeA p_move p_assign p_pick p_build p_load p_binOp p_unOp p_convert p_fieldAddr p_field p_indexAddr p_index p_extract p_slice p_nilCheck p_makeFunc p_len p_max p_min p_alloc p_box p_buildSlice p_makeSlice p_store p_append p_call x_nil x_go1 x_g0 x_g1 x_g2 x_g3 x_s0 x_s1 x_s2 x_s3 u_move u_assign u_pick u_build u_load u_binOp u_unOp u_convert u_fieldAddr u_field u_indexAddr u_index u_extract u_slice u_nilCheck u_makeFunc u_len u_buildSlice x_s4 x_g4 rq_normal rq_ret rq_exit aw_range
attribute [local go_sem] frzV_sl frzK_some set_none set_other AHeap.set_self set_del set_set cnd_t cnd_f cnd_b retA_one retA_two retA_three retA_four retA_nil gIf_b mrgV_b mrgV_wh mrgV_U gIf_U gIf_wh mrgB_f mrgB_some mrgB_if wh_true wh_false keepA_some keepA_if gD_zero gD_succ gT_some bxA_t bxA_f callA_fn ev_tmp ev_const ev_global ev_func oc_bool oc_int oc_string oc_nil oc_nilptr oc_nilfunc cl_bool cl_int cl_string cl_nil updO_some updO_none upd_same upd_other init_at pickA_b pickA_wh selA_t selA_f selA_and selA_or selA_orn selA_orm selA_bb selA_ii beqt b_add b_sub b_mul b_and b_or b_xor b_eql b_neq b_lss b_leq b_gtr b_geq b_quo b_rem b_shr b_seql b_sneq b_sadd b_beql b_bneq b_aeql b_aneq u_not u_neg isConstOp eqA eqCellV List.getD_cons_zero List.getD_cons_succ List.map_cons List.map_nil List.nil_append List.cons_append List.append_nil if_true if_false Option.map_some Option.map_none ne_eq not_false_eq_true oneA ldv ld1v ld1s wr1s ldRow stRow row_lit row_agg row_vsl row_sl row_ptr row_fn one_I one_B one_S one_vsl one_sl one_ptr one_fn extractA okA rI rS rU rClass rFault rExit rStart rLine Int.toNat_natCast List.length_cons List.length_nil List.length_map List.all_cons List.all_nil Bool.and_true Nat.zero_add List.getElem?_cons_zero List.getElem?_cons_succ List.take_succ_cons List.take_zero List.drop_succ_cons List.drop_zero and_self true_and and_true implies_true decide_eq_true_eq decide_eq_false_iff_not Bool.or_eq_true Bool.or_eq_false_iff Bool.and_eq_true Bool.not_eq_true' Bool.not_eq_false' beq_false decide_true decide_false Int.ofNat_lt Int.ofNat_le Int.natCast_nonneg Bool.or_true Bool.or_false Bool.true_or Bool.false_or beq_self_eq_true List.drop_one Bool.not_true Bool.not_false Bool.not_not Bool.false_eq_true Bool.true_eq_false false_implies true_implies Bool.true_and Bool.false_and Bool.and_false not_true_eq_false Int.natCast_eq_zero Int.natCast_pos Int.natCast_zero false_and and_false or_false false_or or_true true_or Bool.or_self none_le_iff List.replicate_zero Int.toNat_zero List.replicate_succ buildRows List.set_cons_zero List.set_cons_succ List.set_nil List.mapM_nil maxLen_eq Nat.zero_le Nat.mul_one Nat.one_mul bldA fillA spliceA List.take_nil List.drop_nil List.getElem?_nil ld1o wr1o bldSliceA le_same cv_i cvI_t quietT_fn qvd_some ld_o ldO_1 ldO_l wr_o wrO_1 set_2 set_3 set_4 putL_nil putL_cons List.zip_cons_cons List.zip_nil_left List.zip_nil_right List.toList_toArray frzV_set ti1 ti2 tk2 ti3 te3 ts3 tk3 tz3 ti4 tb4 ti5 tk5 tz5 ti9 te9 ts9 tk9 tz9 ti12 tk12 ti13 tp13 tf13_0 tf13_1 ti20 ti21 tk21 tz21 ti22 te22 tz22 ti23 te23 ti24 tp24 tf24_0 ti25 tp25 tf25_0 ti26 te26 ti27 tp27 tf27_0 ti28 tp28 tf28_0 ti30 ti32 ti33 ti34 tq34 tp34 tf34_0 tf34_1 tf34_2 tf34_3 tf34_4 ti35 tq35 tp35 tf35_0 tf35_1 tf35_2 tf35_3 tf35_4 ti36 ti37 te37 ti38 ti39 ti40 ti42 ti44 ti45 ti46 ti47 ti48 ti49 ti50 ti51 ti52 ti53 ti54 ti55 ti56 ti57 ti58 ti59 ti60 ti61 ti62 ti64 ti65 ti66 tp66 tf66_0 tf66_1 ti67 tp67 tf67_0 tf67_1 ti68 ti69 ti70 ti71 ti72 ti73 ti74 ti75 ti76 ti77 ti78 ti79 ti80 ti81 ti82 ti83 tq83 tp83 tf83_0 tf83_1 ti84 tq84 tp84 tf84_0 tf84_1 ti85 ti86 ti87 ti88 ti89 ti90 ti91 ti92 ti93 ti94 ti95 ti96 tk96 tz96 ti97 ti98 ti99 ti100 ti101 te101 ti102 ti103 ti104 tk104 ti106 ti107 ti108 ti110 ti111 ti112 tk112 tz112 ti113 ti114 tk114 tz114 ti115 tk115 ti116 ti117 ti118 ti119 ti120 ti121 ti122 ti124 ti125 ta125 ti126 ti128 ti129 ti130 ta130 ti131 ta131 ti132 ta132 ti133 ta133 ti134 ti140 ti144 fp13_0 fv13_0 fp13_1 fv13_1 fp24_0 fv24_0 fp25_0 fv25_0 fp27_0 fv27_0 fp28_0 fv28_0 fp34_0 fv34_0 fp34_1 fv34_1 fp34_2 fv34_2 fp34_3 fv34_3 fp34_4 fv34_4 fp35_0 fv35_0 fp35_1 fv35_1 fp35_2 fv35_2 fp35_3 fv35_3 fp35_4 fv35_4 fp66_0 fv66_0 fp66_1 fv66_1 fp67_0 fv67_0 fp67_1 fv67_1 fp83_0 fv83_0 fp83_1 fv83_1 fp84_0 fv84_0 fp84_1 fv84_1 lv22 ll22 is22 ix22 sh22 so22 sb22 sm22 sp22 lv23 ll23 is23 ix23 sh23 so23 sb23 sm23 sp23 lv26 ll26 is26 ix26 sh26 so26 sb26 sm26 sp26 lv37 ll37 is37 ix37 sh37 so37 sb37 sm37 sp37 lv101 ll101 is101 ix101 sh101 so101 sb101 sm101 sp101 xs9 ls9 sx9 sy9 sz9

theorem c_aFault (F : AHeap) (br n : Nat) (K : ABlk) (h : List Fault) (cl : Bool) (hK : RdK n K) (hF : F br = none) (hn : n < 700000000) : ACalls Tryd.prog 37 [.ptr br 2 0 0, aHeap h cl] (F.set br K) fun r H' => ∃ v K', r = I v ∧ RdK (n + 2) K' ∧ H' = F.set br K' := by
  refine acalls_len1 (by kernel_rfl) (List.mem_cons_of_mem _ (List.mem_cons_self ..)) fun hl => ?_
  refine acalls_of0 Tryd.func37 rfl (by kernel_rfl) rfl rfl (awp_sound (fz := fun _ => []) (im := fun s => s == 3 || s == 12) mixed _ _ _ _ (by kernel_rfl) ?_)
  simp +contextual -dsimp -implicitDefEqProofs (maxSteps := 5000000) only [go_sem, reduceIte, reduceCtorEq, Nat.reduceEqDiff, Nat.reduceBEq, Nat.reduceAdd, Nat.reduceLeDiff, Nat.reduceMul, Nat.reduceLT, Int.reduceEq, Int.reduceLT, Int.reduceLE]
  refine k_pick 16 hK hF (by omega) rfl fun v K1 v0 v1 v2 hK1 => ?_
  simp +contextual -dsimp -implicitDefEqProofs (maxSteps := 5000000) only [go_sem, reduceIte, reduceCtorEq, Nat.reduceEqDiff, Nat.reduceBEq, Nat.reduceAdd, Nat.reduceLeDiff, Nat.reduceMul, Nat.reduceLT, Int.reduceEq, Int.reduceLT, Int.reduceLE]
  refine ⟨fun hv => ?_, fun hv => ?_⟩
  · refine k_one [-1, h.length, 9] _ hK1 hF (by omega) (by simp) rfl rfl fun v K1 hv hK1 => ?_
    simp +contextual -dsimp -implicitDefEqProofs (maxSteps := 5000000) only [go_sem, reduceIte, reduceCtorEq, Nat.reduceEqDiff, Nat.reduceBEq, Nat.reduceAdd, Nat.reduceLeDiff, Nat.reduceMul, Nat.reduceLT, Int.reduceEq, Int.reduceLT, Int.reduceLE]
    exact ⟨_, _, rfl, hK1, rfl⟩
  · refine k_pick h.length hK1 hF (by omega) rfl fun v K1 v0 v1 v2 hK1 => ?_
    simp +contextual -dsimp -implicitDefEqProofs (maxSteps := 5000000) only [go_sem, reduceIte, reduceCtorEq, Nat.reduceEqDiff, Nat.reduceBEq, Nat.reduceAdd, Nat.reduceLeDiff, Nat.reduceMul, Nat.reduceLT, Int.reduceEq, Int.reduceLT, Int.reduceLE]
    exact ⟨_, _, rfl, hK1, rfl⟩
section
variable {α : Type} {f : α → List AV} {sz : Nat} {ty : TypeId} {F G H : AHeap} {x : AV} {l : List α} {b4 b5 br : Nat} {K4 K5 Kr : ABlk}
theorem own3 (hg : Grow f sz ty F G x l) (h4 : G b4 = none) (h5 : G b5 = none) (hr : G br = none) (n1 : b5 ≠ b4) (n2 : br ≠ b4) (n3 : br ≠ b5) : Grow f sz ty (((F.set b4 K4).set b5 K5).set br Kr) (((G.set b4 K4).set b5 K5).set br Kr) x l :=
  grow_in (grow_in (grow_in hg h4) (by rw [set_other n1]; exact h5)) (by rw [set_other n3, set_other n2]; exact hr)
theorem own3_out (hg : Grow f sz ty (((F.set b4 K4).set b5 K5).set br Kr) H x l) (h4 : F b4 = none) (h5 : F b5 = none) (hr : F br = none) (n1 : b5 ≠ b4) (n2 : br ≠ b4) (n3 : br ≠ b5) :
    ∃ G, H = ((G.set b4 K4).set b5 K5).set br Kr ∧ Grow f sz ty F G x l ∧ G b4 = none ∧ G b5 = none ∧ G br = none := by
  obtain ⟨H1, hg1, rfl, e1⟩ := grow_out hg (by rw [set_other n3, set_other n2]; exact hr)
  obtain ⟨H2, hg2, rfl, e2⟩ := grow_out hg1 (by rw [set_other n1]; exact h5)
  obtain ⟨H3, hg3, rfl, e3⟩ := grow_out hg2 h4
  rw [set_other n3, set_other n2] at e1
  rw [set_other n1] at e2
  exact ⟨H3, rfl, hg3, e3, e2, e1⟩
end
theorem c_goodHeap (F : AHeap) (br n : Nat) (K : ABlk) (t : List Class) (cl : Bool) (hK : RdK n K) (hF : F br = none) (hn : n < 700000000) : ACalls Tryd.prog 61 [.ptr br 2 0 0, aTree t cl] (F.set br K) fun r H' =>
    ∃ x l G K', r = .agg [x] ∧ Grow rFault 5 35 F G x l ∧ G br = none ∧ H' = G.set br K' ∧ RdK (n + 60) K' ∧ l.length ≤ 6 := by
  refine acalls_of1 Tryd.func61 rfl (by kernel_rfl) rfl rfl (awp_sound (fz := fun _ => []) (im := fun s => s == 3 || s == 10 || s == 13 || s == 30) mixed _ _ _ _ (by kernel_rfl) ?_)
  simp +contextual -dsimp -implicitDefEqProofs (maxSteps := 5000000) only [go_sem, reduceIte, reduceCtorEq, Nat.reduceEqDiff, Nat.reduceBEq, Nat.reduceAdd, Nat.reduceLeDiff, Nat.reduceMul, Nat.reduceLT, Int.reduceEq, Int.reduceLT, Int.reduceLE]
  rintro b4 ⟨p1, p2, hb4⟩ b5 ⟨p3, p4, p5, p6, hb5⟩
  rw [br_out p1, br_out p5]
  have n0 : ∀ (G : AHeap) K4 K5, G br = none → ((G.set b4 K4).set b5 K5) br = none := fun G K4 K5 h => by rw [set_other p6, set_other p2]; exact h
  refine k_one [4, 5, 3, 6, 2, 1, 0] _ hK (n0 _ _ _ hF) (by omega) (by simp) rfl rfl fun v K1 hv hK1 => ?_
  have hv6 : 0 ≤ v ∧ v ≤ 6 := by simp at hv; omega
  simp +contextual -dsimp -implicitDefEqProofs (maxSteps := 5000000) only [go_sem, reduceIte, reduceCtorEq, Nat.reduceEqDiff, Nat.reduceBEq, Nat.reduceAdd, Nat.reduceLeDiff, Nat.reduceMul, Nat.reduceLT, Int.reduceEq, Int.reduceLT, Int.reduceLE]
  refine aloop mixed (fz := fun _ => []) (im := fun s => s == 3 || s == 10 || s == 13 || s == 30) (by kernel_rfl) (fun m tm H' => ∃ (l : List Fault) (G : AHeap) (x : AV) (K : ABlk) (i : Nat), m = (v - i).toNat ∧ i = l.length ∧ i ≤ v ∧ Grow rFault 5 35 F G x l ∧ Calm l ∧ G b4 = none ∧ G b5 = none ∧ G br = none ∧ RdK (n + 1 + 2 * i) K ∧ H' = ((G.set b4 ⟨1, 28, [[.vsl [] true]]⟩).set b5 ⟨1, 28, [[x]]⟩).set br K ∧ tm 0 = .ptr br 2 0 0 ∧ tm 3 = .vptr [[.vsl (t.map rClass) cl]] 0 0 ∧ tm 4 = .ptr b4 1 0 0 ∧ tm 5 = .ptr b5 1 0 0 ∧ tm 6 = I (v - i)) v.toNat ⟨[], F, .vsl [] true, K1, 0, by simp, rfl, by omega, grow_nil, Calm.nil, hb4, hb5, hF, hK1, rfl, ?_⟩ ?_
  · simp +contextual -dsimp -implicitDefEqProofs (maxSteps := 5000000) only [go_sem, reduceIte, reduceCtorEq, Nat.reduceEqDiff, Nat.reduceBEq, Nat.reduceAdd, Nat.reduceLeDiff, Nat.reduceMul, Nat.reduceLT, Int.reduceEq, Int.reduceLT, Int.reduceLE]
    simp
  · rintro m tm _ ⟨l, G, x, K2, i, rfl, hi, hiv, hg, hcm, f4, f5, fr, hK2, rfl, t0, t3, t4, t5, t6⟩
    by_cases hlt : (0 : Int) < v - i
    · simp +contextual -dsimp -implicitDefEqProofs (maxSteps := 5000000) only [go_sem, reduceIte, reduceCtorEq, Nat.reduceEqDiff, Nat.reduceBEq, Nat.reduceAdd, Nat.reduceLeDiff, Nat.reduceMul, Nat.reduceLT, Int.reduceEq, Int.reduceLT, Int.reduceLE, t0, t3, t4, t5, t6, hlt, p1, p2, p3, p4, p5, p6]
      refine draw_intro [1, 0, 0, 0, 0, 3, 0, 0, 3, 2, 2] _ (by kernel_rfl) (le_set (n0 _ _ _ fr)) ?_
      simp +contextual -dsimp -implicitDefEqProofs (maxSteps := 5000000) only [go_sem, reduceIte, reduceCtorEq, Nat.reduceEqDiff, Nat.reduceBEq, Nat.reduceAdd, Nat.reduceLeDiff, Nat.reduceMul, Nat.reduceLT, Int.reduceEq, Int.reduceLT, Int.reduceLE, t0, t3, t4, t5, t6, hlt, p1, p2, p3, p4, p5, p6]
      refine k_pick t.length hK2 (n0 _ _ _ fr) (by omega) rfl fun a K3 _ _ _ hK3 => ⟨le_set (n0 _ _ _ fr), ?_⟩
      simp +contextual -dsimp -implicitDefEqProofs (maxSteps := 5000000) only [go_sem, reduceIte, reduceCtorEq, Nat.reduceEqDiff, Nat.reduceBEq, Nat.reduceAdd, Nat.reduceLeDiff, Nat.reduceMul, Nat.reduceLT, Int.reduceEq, Int.reduceLT, Int.reduceLE, t0, t3, t4, t5, t6, hlt, p1, p2, p3, p4, p5, p6]
      refine k_one [1, 2, 3, 0, 99] _ hK3 (n0 _ _ _ fr) (by omega) (by simp) rfl rfl fun b K4 _ hK4 => ⟨le_set (n0 _ _ _ fr), ?_⟩
      simp +contextual -dsimp -implicitDefEqProofs (maxSteps := 5000000) only [go_sem, reduceIte, reduceCtorEq, Nat.reduceEqDiff, Nat.reduceBEq, Nat.reduceAdd, Nat.reduceLeDiff, Nat.reduceMul, Nat.reduceLT, Int.reduceEq, Int.reduceLT, Int.reduceLE, t0, t3, t4, t5, t6, hlt, p1, p2, p3, p4, p5, p6]
      have hg3 := own3 (K4 := ⟨1, 28, [[.vsl [] true]]⟩) (K5 := ⟨1, 28, [[x]]⟩) (Kr := K4) hg f4 f5 fr p3 p2 p6
      obtain ⟨cl1, hz⟩ := grow_fz hg3
      refine acalls_drop [aHeap l cl1, I a, I b] (grow_le hg3) (.cons (fz_agg (.cons hz .nil)) (FzL.refl _)) ((c_added0 l cl1 a b _ (by omega)).mono ?_)
      rintro _ H' ⟨x', rfl, hg'⟩
      obtain ⟨G', rfl, hg2, g4, g5, gr⟩ := own3_out hg' hb4 hb5 hF p3 p2 p6
      simp +contextual -dsimp -implicitDefEqProofs (maxSteps := 5000000) only [go_sem, reduceIte, reduceCtorEq, Nat.reduceEqDiff, Nat.reduceBEq, Nat.reduceAdd, Nat.reduceLeDiff, Nat.reduceMul, Nat.reduceLT, Int.reduceEq, Int.reduceLT, Int.reduceLE, t0, t3, t4, t5, t6, hlt, p1, p2, p3, p4, p5, p6]
      exact ⟨(one_grow hg2).2, _, by omega, l ++ [⟨a, b, -1, -1, false⟩], G', x', K4, i + 1, rfl, by simp; omega, by omega, hg2, hcm.add rfl, g4, g5, gr, rdk_mono hK4 (by omega), rfl, I_wrap (by omega) (by omega) (by omega)⟩
    · simp +contextual -dsimp -implicitDefEqProofs (maxSteps := 5000000) only [go_sem, reduceIte, reduceCtorEq, Nat.reduceEqDiff, Nat.reduceBEq, Nat.reduceAdd, Nat.reduceLeDiff, Nat.reduceMul, Nat.reduceLT, Int.reduceEq, Int.reduceLT, Int.reduceLE, t0, t3, t4, t5, t6, hlt, p1, p2, p3, p4, p5, p6]
      refine k_one [3, 4, 2, 5, 0] _ hK2 (n0 _ _ _ fr) (by omega) (by simp) rfl rfl fun v2 K3 hv2 hK3 => ?_
      have hv5 : 0 ≤ v2 ∧ v2 ≤ 5 := by simp at hv2; omega
      simp +contextual -dsimp -implicitDefEqProofs (maxSteps := 5000000) only [go_sem, reduceIte, reduceCtorEq, Nat.reduceEqDiff, Nat.reduceBEq, Nat.reduceAdd, Nat.reduceLeDiff, Nat.reduceMul, Nat.reduceLT, Int.reduceEq, Int.reduceLT, Int.reduceLE, t0, t3, t4, t5, t6, hlt, p1, p2, p3, p4, p5, p6]
      have hl6 : l.length ≤ 6 := by omega
      have hi6 : i ≤ 6 := by omega
      clear hlt hi hiv t6
      refine aloop mixed (fz := fun _ => []) (im := fun s => s == 3 || s == 10 || s == 13 || s == 30) (by kernel_rfl) (fun m tm H' => ∃ (l : List Fault) (G : AHeap) (x : AV) (K : ABlk) (i : Nat), m = (v2 - i).toNat ∧ i ≤ v2 ∧ l.length ≤ 6 ∧ Grow rFault 5 35 F G x l ∧ Calm l ∧ G b4 = none ∧ G b5 = none ∧ G br = none ∧ RdK (n + 14 + 3 * i) K ∧ H' = ((G.set b4 ⟨1, 28, [[.vsl [] true]]⟩).set b5 ⟨1, 28, [[x]]⟩).set br K ∧ tm 0 = .ptr br 2 0 0 ∧ tm 4 = .ptr b4 1 0 0 ∧ tm 5 = .ptr b5 1 0 0 ∧ tm 7 = I (v2 - i)) v2.toNat ⟨l, G, x, K3, 0, by simp, by omega, hl6, hg, hcm, f4, f5, fr, rdk_mono hK3 (by omega), rfl, ?_⟩ ?_
      · simp +contextual -dsimp -implicitDefEqProofs (maxSteps := 5000000) only [go_sem, reduceIte, reduceCtorEq, Nat.reduceEqDiff, Nat.reduceBEq, Nat.reduceAdd, Nat.reduceLeDiff, Nat.reduceMul, Nat.reduceLT, Int.reduceEq, Int.reduceLT, Int.reduceLE, t0, t4, t5]
        simp
      · clear hl6 hg hcm f4 f5 fr hK2 hK3 t0 t3 t4 t5
        rintro m tm _ ⟨l, G, x, K5, i, rfl, hiv, hl6, hg, hcm, f4, f5, fr, hK5, rfl, t0, t4, t5, t7⟩
        have hlen := grow_len te26 hg
        have fin : ∀ tm : Tm, tm 4 = .ptr b4 1 0 0 → retR Tryd.prog [.cell 4 28] (fun r H' => ∃ x l G K', r = .agg [x] ∧ Grow rFault 5 35 F G x l ∧ G br = none ∧ H' = G.set br K' ∧ RdK (n + 60) K' ∧ l.length ≤ 6) tm (((G.set b4 ⟨1, 28, [[x]]⟩).set b5 ⟨1, 28, [[x]]⟩).set br K5) := by
          intro tm t4
          refine retR_less (l := [.agg [x]]) (H' := G.set br K5) ?_ (le_ch (le_s1 (le_s1 (AHeap.le_refl _) f4) f5)) ⟨x, l, G, K5, rfl, hg, fr, rfl, rdk_mono hK5 (by omega), hl6⟩
          simp only [resA, go_sem, reduceIte, reduceCtorEq, Nat.reduceEqDiff, Nat.reduceBEq, Nat.reduceAdd, Nat.reduceLeDiff, Nat.reduceMul, Nat.reduceLT, Int.reduceEq, Int.reduceLT, Int.reduceLE, p1, p2, p3, p4, p5, p6, t4]
        by_cases hlt : (0 : Int) < v2 - i
        · by_cases hl1 : (1 : Int) < l.length
          · rcases hg with ⟨e, _, _⟩ | ⟨bx, clx, hbx, rfl, rfl⟩
            · rw [e] at hl1; simp at hl1
            have f4' := f4
            have f5' := f5
            have fr' := fr
            rw [set_none] at f4' f5' fr'
            obtain ⟨s1, s2, _⟩ := f4'
            obtain ⟨s3, s4, _⟩ := f5'
            obtain ⟨s5, s6, _⟩ := fr'
            have upd1 : ∀ l' : List Fault, l'.length = l.length → Grow rFault 5 35 F (F.set bx ⟨5, 35, l'.map rFault⟩) (.sl bx 5 0 l.length clx) l' := fun l' e => .inr ⟨bx, clx, hbx, by rw [e], rfl⟩
            have g4 : ∀ k : ABlk, (F.set bx k) b4 = none := fun k => by rw [set_other s1]; exact hb4
            have g5 : ∀ k : ABlk, (F.set bx k) b5 = none := fun k => by rw [set_other s3]; exact hb5
            have gr : ∀ k : ABlk, (F.set bx k) br = none := fun k => by rw [set_other s5]; exact hF
            simp +contextual -dsimp -implicitDefEqProofs (maxSteps := 5000000) only [go_sem, reduceIte, reduceCtorEq, Nat.reduceEqDiff, Nat.reduceBEq, Nat.reduceAdd, Nat.reduceLeDiff, Nat.reduceMul, Nat.reduceLT, Int.reduceEq, Int.reduceLT, Int.reduceLE, t0, t4, t5, t7, hlt, hl1, p1, p2, p3, p4, p5, p6]
            refine k_pick l.length hK5 (n0 _ _ _ fr) (by omega) rfl fun f K6 q0 q1 _ hK6 => ?_
            have ql := q1 (by omega)
            have qn : f.toNat < l.length := by omega
            simp +contextual -dsimp -implicitDefEqProofs (maxSteps := 5000000) only [go_sem, reduceIte, reduceCtorEq, Nat.reduceEqDiff, Nat.reduceBEq, Nat.reduceAdd, Nat.reduceLeDiff, Nat.reduceMul, Nat.reduceLT, Int.reduceEq, Int.reduceLT, Int.reduceLE, t0, t4, t5, t7, hlt, hl1, p1, p2, p3, p4, p5, p6]
            refine k_pick l.length hK6 (n0 _ _ _ fr) (by omega) rfl fun g K7 r0 r1 _ hK7 => ?_
            have rl := r1 (by omega)
            simp +contextual -dsimp -implicitDefEqProofs (maxSteps := 5000000) only [go_sem, reduceIte, reduceCtorEq, Nat.reduceEqDiff, Nat.reduceBEq, Nat.reduceAdd, Nat.reduceLeDiff, Nat.reduceMul, Nat.reduceLT, Int.reduceEq, Int.reduceLT, Int.reduceLE, t0, t4, t5, t7, hlt, hl1, p1, p2, p3, p4, p5, p6]
            by_cases hfg : f = g
            · subst hfg
              simp +contextual -dsimp -implicitDefEqProofs (maxSteps := 5000000) only [go_sem, reduceIte, reduceCtorEq, Nat.reduceEqDiff, Nat.reduceBEq, Nat.reduceAdd, Nat.reduceLeDiff, Nat.reduceMul, Nat.reduceLT, Int.reduceEq, Int.reduceLT, Int.reduceLE, t0, t4, t5, t7, hlt, hl1, p1, p2, p3, p4, p5, p6]
              refine draw_intro [0, 0, 0, 0, 0, 0, 0, 0, 0, 0, 0, 0, 2] _ (by kernel_rfl) (AHeap.le_refl _) ?_
              simp +contextual -dsimp -implicitDefEqProofs (maxSteps := 5000000) only [go_sem, reduceIte, reduceCtorEq, Nat.reduceEqDiff, Nat.reduceBEq, Nat.reduceAdd, Nat.reduceLeDiff, Nat.reduceMul, Nat.reduceLT, Int.reduceEq, Int.reduceLT, Int.reduceLE, t0, t4, t5, t7, hlt, hl1, p1, p2, p3, p4, p5, p6, s1, s2, s3, s4, s5, s6, q0, ql, qn]
              rw [wrO_y (y := { l.getD f.toNat default with hide := !(l.getD f.toNat default).hide }) qn rfl]
              simp +contextual -dsimp -implicitDefEqProofs (maxSteps := 5000000) only [go_sem, reduceIte, reduceCtorEq, Nat.reduceEqDiff, Nat.reduceBEq, Nat.reduceAdd, Nat.reduceLeDiff, Nat.reduceMul, Nat.reduceLT, Int.reduceEq, Int.reduceLT, Int.reduceLE, t0, t4, t5, t7, hlt, hl1, p1, p2, p3, p4, p5, p6, s1, s2, s3, s4, s5, s6, q0, ql, qn]
              exact ⟨_, by omega, l.set f.toNat _, _, _, K7, i + 1, rfl, by omega, by rw [List.length_set]; exact hl6, upd1 _ (List.length_set ..), hcm.same (List.length_set ..) (fun k hk => by rw [getD_set qn]; split <;> simp [*]), g4 _, g5 _, gr _, rdk_mono hK7 (by omega), rfl, I_wrap (by omega) (by omega) (by omega)⟩
            · simp +contextual -dsimp -implicitDefEqProofs (maxSteps := 5000000) only [go_sem, reduceIte, reduceCtorEq, Nat.reduceEqDiff, Nat.reduceBEq, Nat.reduceAdd, Nat.reduceLeDiff, Nat.reduceMul, Nat.reduceLT, Int.reduceEq, Int.reduceLT, Int.reduceLE, t0, t4, t5, t7, hlt, hl1, p1, p2, p3, p4, p5, p6, hfg]
              refine k_pick 3 hK7 (n0 _ _ _ fr) (by omega) rfl fun z K8 z0 z1 _ hK8 => ?_
              by_cases hz : z = 0
              · have qn1 : f.toNat < (l.set f.toNat { l.getD f.toNat default with cause := g }).length := by rw [List.length_set]; exact qn
                have hc1 : Calm (l.set f.toNat { l.getD f.toNat default with cause := g }) := hcm.same (List.length_set ..) (fun k hk => by rw [getD_set qn]; split <;> simp [*])
                simp +contextual -dsimp -implicitDefEqProofs (maxSteps := 5000000) only [go_sem, reduceIte, reduceCtorEq, Nat.reduceEqDiff, Nat.reduceBEq, Nat.reduceAdd, Nat.reduceLeDiff, Nat.reduceMul, Nat.reduceLT, Int.reduceEq, Int.reduceLT, Int.reduceLE, t0, t4, t5, t7, hlt, hl1, hfg, hz, p1, p2, p3, p4, p5, p6, s1, s2, s3, s4, s5, s6, q0, ql, qn]
                rw [wrO_y (y := { l.getD f.toNat default with cause := g }) qn rfl]
                simp +contextual -dsimp -implicitDefEqProofs (maxSteps := 5000000) only [go_sem, reduceIte, reduceCtorEq, Nat.reduceEqDiff, Nat.reduceBEq, Nat.reduceAdd, Nat.reduceLeDiff, Nat.reduceMul, Nat.reduceLT, Int.reduceEq, Int.reduceLT, Int.reduceLE, t0, t4, t5, t7, hlt, hl1, hfg, hz, p1, p2, p3, p4, p5, p6, s1, s2, s3, s4, s5, s6, q0, ql, qn]
                rw [wrO_y (y := { (l.set f.toNat { l.getD f.toNat default with cause := g }).getD f.toNat default with hide := true }) qn1 rfl]
                simp +contextual -dsimp -implicitDefEqProofs (maxSteps := 5000000) only [go_sem, reduceIte, reduceCtorEq, Nat.reduceEqDiff, Nat.reduceBEq, Nat.reduceAdd, Nat.reduceLeDiff, Nat.reduceMul, Nat.reduceLT, Int.reduceEq, Int.reduceLT, Int.reduceLE, t0, t4, t5, t7, hlt, hl1, hfg, hz, p1, p2, p3, p4, p5, p6, s1, s2, s3, s4, s5, s6, q0, ql, qn]
                exact ⟨_, by omega, (l.set f.toNat { l.getD f.toNat default with cause := g }).set f.toNat _, _, _, K8, i + 1, rfl, by omega, by rw [List.length_set, List.length_set]; exact hl6, upd1 _ (by rw [List.length_set, List.length_set]), hc1.same (List.length_set ..) (fun k hk => by rw [getD_set qn1]; split <;> simp [*]), g4 _, g5 _, gr _, rdk_mono hK8 (by omega), rfl, I_wrap (by omega) (by omega) (by omega)⟩
              · simp +contextual -dsimp -implicitDefEqProofs (maxSteps := 5000000) only [go_sem, reduceIte, reduceCtorEq, Nat.reduceEqDiff, Nat.reduceBEq, Nat.reduceAdd, Nat.reduceLeDiff, Nat.reduceMul, Nat.reduceLT, Int.reduceEq, Int.reduceLT, Int.reduceLE, t0, t4, t5, t7, hlt, hl1, hfg, hz, p1, p2, p3, p4, p5, p6, s1, s2, s3, s4, s5, s6, q0, ql, qn]
                have hg3 := own3 (K4 := ⟨1, 28, [[.vsl [] true]]⟩) (K5 := ⟨1, 28, [[.sl bx 5 0 l.length clx]]⟩) (Kr := K8) (upd1 l rfl) f4 f5 fr p3 p2 p6
                obtain ⟨cl1, hzz⟩ := grow_fz hg3
                refine acalls_drop [aHeap l cl1, I f, I g] (grow_le hg3) (.cons (fz_agg (.cons hzz .nil)) (FzL.refl _)) ((c_raisedG l cl1 f g _ (by omega) hcm q0 ql rl).mono ?_)
                rintro _ H' ⟨x', rfl, hg'⟩
                obtain ⟨G', rfl, hg2, h4, h5, hr⟩ := own3_out hg' hb4 hb5 hF p3 p2 p6
                simp +contextual -dsimp -implicitDefEqProofs (maxSteps := 5000000) only [go_sem, reduceIte, reduceCtorEq, Nat.reduceEqDiff, Nat.reduceBEq, Nat.reduceAdd, Nat.reduceLeDiff, Nat.reduceMul, Nat.reduceLT, Int.reduceEq, Int.reduceLT, Int.reduceLE, t0, t4, t5, t7, hlt, hl1, hfg, hz, p1, p2, p3, p4, p5, p6, s1, s2, s3, s4, s5, s6, q0, ql, qn]
                exact ⟨(one_grow hg2).2, _, by omega, raisedF l f g, G', x', K8, i + 1, rfl, by omega, by rw [raisedF_len]; exact hl6, hg2, hcm.raised q0 ql rl, h4, h5, hr, rdk_mono hK8 (by omega), rfl, I_wrap (by omega) (by omega) (by omega)⟩
          · simp +contextual -dsimp -implicitDefEqProofs (maxSteps := 5000000) only [go_sem, reduceIte, reduceCtorEq, Nat.reduceEqDiff, Nat.reduceBEq, Nat.reduceAdd, Nat.reduceLeDiff, Nat.reduceMul, Nat.reduceLT, Int.reduceEq, Int.reduceLT, Int.reduceLE, t0, t4, t5, t7, hlt, hl1, hlen, p1, p2, p3, p4, p5, p6]
            exact ⟨(one_grow hg).2, fin _ t4⟩
        · simp +contextual -dsimp -implicitDefEqProofs (maxSteps := 5000000) only [go_sem, reduceIte, reduceCtorEq, Nat.reduceEqDiff, Nat.reduceBEq, Nat.reduceAdd, Nat.reduceLeDiff, Nat.reduceMul, Nat.reduceLT, Int.reduceEq, Int.reduceLT, Int.reduceLE, t0, t4, t5, t7, hlt, p1, p2, p3, p4, p5, p6]
          exact ⟨(one_grow hg).2, fin _ t4⟩
end Go.Proofs.YtihjbbiajggcoaaDoor
end
section
set_option linter.unusedVariables false
set_option linter.unusedSimpArgs false
namespace Go.Proofs.YtihjbbiajggcoaaDoor
open Go Go.Sim
set_option maxRecDepth 100000
attribute [local go_sem ↓] aw_skip aw_ret aw_exit aw_region aw_draw aw_seq aw_block aw_loop aw_cond frz_nil frz_cons sq_normal sq_ret sq_exit exB_normal exB_ret exB_same exB_other retQ_ret retQ_normal ret0_ret ret0_normal ao_nil go1 g_move g_assign g_pick g_build g_load g_binOp g_unOp g_convert g_fieldAddr g_field g_indexAddr g_index g_extract g_slice g_nilCheck g_len g_makeFunc h_call h_append h_alloc h_box h_buildSlice h_makeSlice h_store gV i_box i_buildSlice i_move i_assign i_build i_load i_binOp i_unOp i_convert i_fieldAddr i_field i_indexAddr i_index i_extract i_slice i_nilCheck i_makeFunc i_len i_max i_min i_alloc i_makeSlice i_store i_append i_call i_pick boxI boxA buildSliceI buildSliceA makeSliceA allocA storeA p_move p_assign p_pick p_build p_load p_binOp p_unOp p_convert p_fieldAddr p_field p_indexAddr p_index p_extract p_slice p_nilCheck p_makeFunc p_len p_max p_min p_alloc p_box p_buildSlice p_makeSlice p_store p_append p_call x_nil x_go1 x_g0 x_g1 x_g2 x_g3 x_s0 x_s1 x_s2 x_s3 u_move u_assign u_pick u_build u_load u_binOp u_unOp u_convert u_fieldAddr u_field u_indexAddr u_index u_extract u_slice u_nilCheck u_makeFunc u_len u_buildSlice x_s4 x_g4 rq_normal rq_ret rq_exit aw_range
attribute [local go_sem] frzV_sl frzK_some set_none set_other AHeap.set_self set_del set_set cnd_t cnd_f cnd_b retA_one retA_two retA_three retA_four retA_nil gIf_b mrgV_b mrgV_wh mrgV_U gIf_U gIf_wh mrgB_f mrgB_some mrgB_if wh_true wh_false keepA_some keepA_if gD_zero gD_succ gT_some bxA_t bxA_f callA_fn ev_tmp ev_const ev_global ev_func oc_bool oc_int oc_string oc_nil oc_nilptr oc_nilfunc cl_bool cl_int cl_string cl_nil updO_some updO_none upd_same upd_other init_at pickA_b pickA_wh selA_t selA_f selA_and selA_or selA_orn selA_orm selA_bb selA_ii beqt b_add b_sub b_mul b_and b_or b_xor b_eql b_neq b_lss b_leq b_gtr b_geq b_quo b_rem b_shr b_seql b_sneq b_sadd b_beql b_bneq b_aeql b_aneq u_not u_neg isConstOp eqA eqCellV List.getD_cons_zero List.getD_cons_succ List.map_cons List.map_nil List.nil_append List.cons_append List.append_nil if_true if_false Option.map_some Option.map_none ne_eq not_false_eq_true oneA ldv ld1v ld1s wr1s ldRow stRow row_lit row_agg row_vsl row_sl row_ptr row_fn one_I one_B one_S one_vsl one_sl one_ptr one_fn extractA okA rI rS rU rClass rFault rExit rStart rLine Int.toNat_natCast List.length_cons List.length_nil List.length_map List.all_cons List.all_nil Bool.and_true Nat.zero_add List.getElem?_cons_zero List.getElem?_cons_succ List.take_succ_cons List.take_zero List.drop_succ_cons List.drop_zero and_self true_and and_true implies_true decide_eq_true_eq decide_eq_false_iff_not Bool.or_eq_true Bool.or_eq_false_iff Bool.and_eq_true Bool.not_eq_true' Bool.not_eq_false' beq_false decide_true decide_false Int.ofNat_lt Int.ofNat_le Int.natCast_nonneg Bool.or_true Bool.or_false Bool.true_or Bool.false_or beq_self_eq_true List.drop_one Bool.not_true Bool.not_false Bool.not_not Bool.false_eq_true Bool.true_eq_false false_implies true_implies Bool.true_and Bool.false_and Bool.and_false not_true_eq_false Int.natCast_eq_zero Int.natCast_pos Int.natCast_zero false_and and_false or_false false_or or_true true_or Bool.or_self none_le_iff List.replicate_zero Int.toNat_zero List.replicate_succ buildRows List.set_cons_zero List.set_cons_succ List.set_nil List.mapM_nil maxLen_eq Nat.zero_le Nat.mul_one Nat.one_mul bldA fillA spliceA List.take_nil List.drop_nil List.getElem?_nil ld1o wr1o bldSliceA le_same cv_i cvI_t quietT_fn qvd_some ld_o ldO_1 ldO_l wr_o wrO_1 set_2 set_3 set_4 putL_nil putL_cons List.zip_cons_cons List.zip_nil_left List.zip_nil_right List.toList_toArray frzV_set ti1 ti2 tk2 ti3 te3 ts3 tk3 tz3 ti4 tb4 ti5 tk5 tz5 ti9 te9 ts9 tk9 tz9 ti12 tk12 ti13 tp13 tf13_0 tf13_1 ti20 ti21 tk21 tz21 ti22 te22 tz22 ti23 te23 ti24 tp24 tf24_0 ti25 tp25 tf25_0 ti26 te26 ti27 tp27 tf27_0 ti28 tp28 tf28_0 ti30 ti32 ti33 ti34 tq34 tp34 tf34_0 tf34_1 tf34_2 tf34_3 tf34_4 ti35 tq35 tp35 tf35_0 tf35_1 tf35_2 tf35_3 tf35_4 ti36 ti37 te37 ti38 ti39 ti40 ti42 ti44 ti45 ti46 ti47 ti48 ti49 ti50 ti51 ti52 ti53 ti54 ti55 ti56 ti57 ti58 ti59 ti60 ti61 ti62 ti64 ti65 ti66 tp66 tf66_0 tf66_1 ti67 tp67 tf67_0 tf67_1 ti68 ti69 ti70 ti71 ti72 ti73 ti74 ti75 ti76 ti77 ti78 ti79 ti80 ti81 ti82 ti83 tq83 tp83 tf83_0 tf83_1 ti84 tq84 tp84 tf84_0 tf84_1 ti85 ti86 ti87 ti88 ti89 ti90 ti91 ti92 ti93 ti94 ti95 ti96 tk96 tz96 ti97 ti98 ti99 ti100 ti101 te101 ti102 ti103 ti104 tk104 ti106 ti107 ti108 ti110 ti111 ti112 tk112 tz112 ti113 ti114 tk114 tz114 ti115 tk115 ti116 ti117 ti118 ti119 ti120 ti121 ti122 ti124 ti125 ta125 ti126 ti128 ti129 ti130 ta130 ti131 ta131 ti132 ta132 ti133 ta133 ti134 ti140 ti144 fp13_0 fv13_0 fp13_1 fv13_1 fp24_0 fv24_0 fp25_0 fv25_0 fp27_0 fv27_0 fp28_0 fv28_0 fp34_0 fv34_0 fp34_1 fv34_1 fp34_2 fv34_2 fp34_3 fv34_3 fp34_4 fv34_4 fp35_0 fv35_0 fp35_1 fv35_1 fp35_2 fv35_2 fp35_3 fv35_3 fp35_4 fv35_4 fp66_0 fv66_0 fp66_1 fv66_1 fp67_0 fv67_0 fp67_1 fv67_1 fp83_0 fv83_0 fp83_1 fv83_1 fp84_0 fv84_0 fp84_1 fv84_1 lv22 ll22 is22 ix22 sh22 so22 sb22 sm22 sp22 lv23 ll23 is23 ix23 sh23 so23 sb23 sm23 sp23 lv26 ll26 is26 ix26 sh26 so26 sb26 sm26 sp26 lv37 ll37 is37 ix37 sh37 so37 sb37 sm37 sp37 lv101 ll101 is101 ix101 sh101 so101 sb101 sm101 sp101 xs9 ls9 sx9 sy9 sz9

theorem set_5 {H : AHeap} {b c d e g : Nat} {k k' k1 k2 k3 k4 : ABlk} (h1 : b ≠ c) (h2 : b ≠ d) (h3 : b ≠ e) (h4 : b ≠ g) : (((((H.set b k).set c k1).set d k2).set e k3).set g k4).set b k' = ((((H.set b k').set c k1).set d k2).set e k3).set g k4 := by
  rw [set_comm (Ne.symm h4), set_4 h1 h2 h3]
theorem le_one {H : AHeap} {b : Nat} {k : ABlk} (h : H b = some k) : AHeap.le (AHeap.none.set b k) H := by
  intro c k' hc
  by_cases e : c = b
  · subst e; rw [AHeap.set_self] at hc; rw [← hc]; exact h
  · rw [set_other e] at hc; cases hc
theorem le_two {H : AHeap} {b c : Nat} {k k' : ABlk} (h1 : H b = some k) (h2 : H c = some k') : AHeap.le ((AHeap.none.set b k).set c k') H := by
  intro d kk hd
  by_cases e : d = c
  · subst e; rw [AHeap.set_self] at hd; rw [← hd]; exact h2
  · rw [set_other e] at hd
    exact le_one h1 d kk hd
theorem c_someTreeF' (F : AHeap) (br n : Nat) (K : ABlk) (h : RdK n K) (hF : F br = none) (hn : n < 800000000) : ACalls Tryd.prog 60 [.ptr br 2 0 0] (F.set br K) fun r H' =>
    ∃ l cl K', r = aTree l cl ∧ H' = F.set br K' ∧ RdK (n + 25) K' ∧ l.length ≤ 8 ∧ shortNames l := by
  refine acalls_fz (c_someTree F br n K h hF hn) ?_
  rintro _ _ ⟨x, l, G, K', rfl, hg, hr, rfl, hK, hl, hs⟩
  have hg' := grow_in (K := K') hg hr
  obtain ⟨cl, hz⟩ := grow_fz hg'
  exact ⟨_, F.set br K', grow_le hg', fz_agg (.cons hz .nil), l, cl, K', rfl, rfl, hK, hl, hs⟩
theorem c_someHeap (F : AHeap) (br n : Nat) (K : ABlk) (h : RdK n K) (hF : F br = none) (hn : n < 600000000) : ACalls Tryd.prog 36 [.ptr br 2 0 0] (F.set br K) fun r H' =>
    ∃ t cl, ∃ l : List Fault, ∃ x G K', r = .tup [aTree t cl, .agg [x]] ∧ Grow rFault 5 35 F G x l ∧ G br = none ∧ H' = G.set br K' ∧ RdK (n + 100) K' ∧ t.length ≤ 8 ∧ shortNames t ∧ l.length ≤ 6 := by
  refine acalls_of1 Tryd.func36 rfl (by kernel_rfl) rfl rfl (awp_sound (fz := fun r => if r = 1 then [4] else []) (im := fun _ => false) mixed _ _ _ _ (by kernel_rfl) ?_)
  simp +contextual -dsimp -implicitDefEqProofs (maxSteps := 5000000) only [go_sem, reduceIte, reduceCtorEq, Nat.reduceEqDiff, Nat.reduceBEq, Nat.reduceAdd, Nat.reduceLeDiff, Nat.reduceMul, Nat.reduceLT, Int.reduceEq, Int.reduceLT, Int.reduceLE]
  rintro b2 ⟨p1, p2, hb2⟩ b3 ⟨p3, p4, p5, p6, hb3⟩
  rw [br_out p1, br_out p5]
  have n0 : ∀ (G : AHeap) K4 K5, G br = none → ((G.set b2 K4).set b3 K5) br = none := fun G K4 K5 h => by rw [set_other p6, set_other p2]; exact h
  refine (c_someTreeF' _ br n K h (n0 _ _ _ hF) (by omega)).mono ?_
  rintro _ _ ⟨t, cl, K1, rfl, rfl, hK1, ht8, hs⟩
  simp +contextual -dsimp -implicitDefEqProofs (maxSteps := 5000000) only [go_sem, reduceIte, reduceCtorEq, Nat.reduceEqDiff, Nat.reduceBEq, Nat.reduceAdd, Nat.reduceLeDiff, Nat.reduceMul, Nat.reduceLT, Int.reduceEq, Int.reduceLT, Int.reduceLE]
  intro _ _
  refine (c_goodHeap _ br _ K1 t cl hK1 (n0 _ _ _ hF) (by omega)).mono ?_
  rintro _ _ ⟨x, l, G0, K2, rfl, hg0, hr0, rfl, hK2, hl6⟩
  obtain ⟨G1, hg1, rfl, e3⟩ := grow_out hg0 (by rw [set_other p3]; exact hb3)
  obtain ⟨G, hg, rfl, e2⟩ := grow_out hg1 hb2
  rw [set_other p3] at e3
  rw [set_other p6, set_other p2] at hr0
  have hlen := grow_len te26 hg
  simp +contextual -dsimp -implicitDefEqProofs (maxSteps := 5000000) only [go_sem, reduceIte, reduceCtorEq, Nat.reduceEqDiff, Nat.reduceBEq, Nat.reduceAdd, Nat.reduceLeDiff, Nat.reduceMul, Nat.reduceLT, Int.reduceEq, Int.reduceLT, Int.reduceLE]
  rintro b5 ⟨v1, v2, v3, v4, v5, v6, hb5⟩
  rw [br_out v1]
  have v2' : b5 ≠ br := v1
  have n5 : ∀ (G : AHeap) K4 K5 K6, G br = none → (((G.set b2 K4).set b3 K5).set b5 K6) br = none := fun G K4 K5 K6 h => by rw [set_other v2]; exact n0 _ _ _ h
  simp +contextual -dsimp -implicitDefEqProofs (maxSteps := 5000000) only [go_sem, reduceIte, reduceCtorEq, Nat.reduceEqDiff, Nat.reduceBEq, Nat.reduceAdd, Nat.reduceLeDiff, Nat.reduceMul, Nat.reduceLT, Int.reduceEq, Int.reduceLT, Int.reduceLE, p1, p2, p3, p4, p5, p6, v1, v2, v3, v4, v5, v6, hlen]
  refine ⟨(one_grow hg).2, ?_⟩
  refine ⟨fun hl0 => ?_, fun hl0 => ?_⟩
  · refine k_pick l.length hK2 (n5 _ _ _ _ hr0) (by omega) rfl fun k K3 k0 k1 _ hK3 => ?_
    have kl := k1 (by omega)
    have kn : k.toNat < l.length := by omega
    simp +contextual -dsimp -implicitDefEqProofs (maxSteps := 5000000) only [go_sem, reduceIte, reduceCtorEq, Nat.reduceEqDiff, Nat.reduceBEq, Nat.reduceAdd, Nat.reduceLeDiff, Nat.reduceMul, Nat.reduceLT, Int.reduceEq, Int.reduceLT, Int.reduceLE, p1, p2, p3, p4, p5, p6, v1, v2, v3, v4, v5, v6]
    refine k_pick 24 hK3 (n5 _ _ _ _ hr0) (by omega) rfl fun z K4 z0 z1 _ hK4 => ?_
    rcases hg with ⟨e, _, _⟩ | ⟨bx, clx, hbx, rfl, rfl⟩
    · rw [e] at hl0; simp at hl0
    have e2' := e2
    have e3' := e3
    have hr' := hr0
    have e5' := hb5
    rw [set_none] at e2' e3' hr' e5'
    obtain ⟨s1, s2, _⟩ := e2'
    obtain ⟨s3, s4, _⟩ := e3'
    obtain ⟨s5, s6, _⟩ := hr'
    obtain ⟨s7, s8, f5⟩ := e5'
    have upd1 : ∀ l' : List Fault, l'.length = l.length → Grow rFault 5 35 F (F.set bx ⟨5, 35, l'.map rFault⟩) (.sl bx 5 0 l.length clx) l' := fun l' e => .inr ⟨bx, clx, hbx, by rw [e], rfl⟩
    have g2 : ∀ k : ABlk, (F.set bx k) b2 = none := fun k => by rw [set_other s1]; exact hb2
    have g3 : ∀ k : ABlk, (F.set bx k) b3 = none := fun k => by rw [set_other s3]; exact hb3
    have gr : ∀ k : ABlk, (F.set bx k) br = none := fun k => by rw [set_other s5]; exact hF
    have g5 : ∀ k : ABlk, (F.set bx k) b5 = none := fun k => by rw [set_other s7]; exact f5
    by_cases c0 : z = 0
    · simp +contextual -dsimp -implicitDefEqProofs (maxSteps := 5000000) only [go_sem, reduceIte, reduceCtorEq, Nat.reduceEqDiff, Nat.reduceBEq, Nat.reduceAdd, Nat.reduceLeDiff, Nat.reduceMul, Nat.reduceLT, Int.reduceEq, Int.reduceLT, Int.reduceLE, c0, p1, p2, p3, p4, p5, p6, v1, v2, v3, v4, v5, v6, s1, s2, s3, s4, s5, s6, s7, s8, k0, kl, kn]
      refine draw_intro [0, 1, 0, 0, 0, 0, 3, 0, 0, 2] _ (by kernel_rfl) (le_set (n5 _ _ _ _ hr0)) ?_
      simp +contextual -dsimp -implicitDefEqProofs (maxSteps := 5000000) only [go_sem, reduceIte, reduceCtorEq, Nat.reduceEqDiff, Nat.reduceBEq, Nat.reduceAdd, Nat.reduceLeDiff, Nat.reduceMul, Nat.reduceLT, Int.reduceEq, Int.reduceLT, Int.reduceLE, c0, p1, p2, p3, p4, p5, p6, v1, v2, v3, v4, v5, v6, s1, s2, s3, s4, s5, s6, s7, s8, k0, kl, kn]
      refine k_one [k, 9, -2] _ hK4 (n5 _ _ _ _ hr0) (by omega) (by simp) rfl rfl fun s K5 _ hK5 => ⟨le_set (n5 _ _ _ _ hr0), ?_⟩
      simp +contextual -dsimp -implicitDefEqProofs (maxSteps := 5000000) only [go_sem, reduceIte, reduceCtorEq, Nat.reduceEqDiff, Nat.reduceBEq, Nat.reduceAdd, Nat.reduceLeDiff, Nat.reduceMul, Nat.reduceLT, Int.reduceEq, Int.reduceLT, Int.reduceLE, c0, p1, p2, p3, p4, p5, p6, v1, v2, v3, v4, v5, v6, s1, s2, s3, s4, s5, s6, s7, s8, k0, kl, kn]
      rw [wrO_y (y := { l.getD k.toNat default with ctx := s }) kn rfl]
      simp +contextual -dsimp -implicitDefEqProofs (maxSteps := 5000000) only [go_sem, reduceIte, reduceCtorEq, Nat.reduceEqDiff, Nat.reduceBEq, Nat.reduceAdd, Nat.reduceLeDiff, Nat.reduceMul, Nat.reduceLT, Int.reduceEq, Int.reduceLT, Int.reduceLE, c0, p1, p2, p3, p4, p5, p6, v1, v2, v3, v4, v5, v6, s1, s2, s3, s4, s5, s6, s7, s8, k0, kl, kn]
      rw [set_5 s2 s4 s8 s6]
      refine draw_intro [0, 1, 3, 2] (AHeap.none.set b5 ⟨1, 28, [[(.sl bx 5 0 l.length clx)]]⟩) (by kernel_rfl) (le_one (by rw [set_other v2', AHeap.set_self])) ?_
      simp +contextual -dsimp -implicitDefEqProofs (maxSteps := 5000000) only [go_sem, reduceIte, reduceCtorEq, Nat.reduceEqDiff, Nat.reduceBEq, Nat.reduceAdd, Nat.reduceLeDiff, Nat.reduceMul, Nat.reduceLT, Int.reduceEq, Int.reduceLT, Int.reduceLE, p1, p2, p3, p4, p5, p6, v1, v2, v3, v4, v5, v6, s1, s2, s3, s4, s5, s6, s7, s8]
      refine ⟨le_one (by rw [set_other v2', AHeap.set_self]), ?_⟩
      refine retR_less (l := [aTree t cl, .agg [(.sl bx 5 0 l.length clx)]]) (H' := AHeap.set (F.set bx ⟨5, 35, (l.set k.toNat { l.getD k.toNat default with ctx := s }).map rFault⟩) br K5) ?_ (le_ch (le_s1 (le_s1 (le_s1 (AHeap.le_refl _) (g2 _)) (g3 _)) (g5 _))) ⟨t, cl, (l.set k.toNat { l.getD k.toNat default with ctx := s }), (.sl bx 5 0 l.length clx), (F.set bx ⟨5, 35, (l.set k.toNat { l.getD k.toNat default with ctx := s }).map rFault⟩), K5, rfl, (upd1 _ (List.length_set ..)), (gr _), rfl, rdk_mono hK5 (by omega), ht8, hs, (by rw [List.length_set]; exact hl6)⟩
      simp only [resA, go_sem, reduceIte, reduceCtorEq, Nat.reduceEqDiff, Nat.reduceBEq, Nat.reduceAdd, Nat.reduceLeDiff, Nat.reduceMul, Nat.reduceLT, Int.reduceEq, Int.reduceLT, Int.reduceLE, p1, p2, p3, p4, p5, p6, v1, v2, v3, v4, v5, v6, s1, s2, s3, s4, s5, s6, s7, s8]
    · by_cases c1 : z = 1
      · simp +contextual -dsimp -implicitDefEqProofs (maxSteps := 5000000) only [go_sem, reduceIte, reduceCtorEq, Nat.reduceEqDiff, Nat.reduceBEq, Nat.reduceAdd, Nat.reduceLeDiff, Nat.reduceMul, Nat.reduceLT, Int.reduceEq, Int.reduceLT, Int.reduceLE, c0, c1, p1, p2, p3, p4, p5, p6, v1, v2, v3, v4, v5, v6, s1, s2, s3, s4, s5, s6, s7, s8, k0, kl, kn]
        refine draw_intro [0, 1, 0, 0, 0, 3, 0, 0, 2] _ (by kernel_rfl) (le_set (n5 _ _ _ _ hr0)) ?_
        simp +contextual -dsimp -implicitDefEqProofs (maxSteps := 5000000) only [go_sem, reduceIte, reduceCtorEq, Nat.reduceEqDiff, Nat.reduceBEq, Nat.reduceAdd, Nat.reduceLeDiff, Nat.reduceMul, Nat.reduceLT, Int.reduceEq, Int.reduceLT, Int.reduceLE, c0, c1, p1, p2, p3, p4, p5, p6, v1, v2, v3, v4, v5, v6, s1, s2, s3, s4, s5, s6, s7, s8, k0, kl, kn]
        refine (c_aClass _ br _ K4 t cl hK4 (n5 _ _ _ _ hr0) (by omega)).mono ?_
        rintro _ _ ⟨s, K5, rfl, hK5, rfl⟩
        refine ⟨le_set (n5 _ _ _ _ hr0), ?_⟩
        simp +contextual -dsimp -implicitDefEqProofs (maxSteps := 5000000) only [go_sem, reduceIte, reduceCtorEq, Nat.reduceEqDiff, Nat.reduceBEq, Nat.reduceAdd, Nat.reduceLeDiff, Nat.reduceMul, Nat.reduceLT, Int.reduceEq, Int.reduceLT, Int.reduceLE, c0, c1, p1, p2, p3, p4, p5, p6, v1, v2, v3, v4, v5, v6, s1, s2, s3, s4, s5, s6, s7, s8, k0, kl, kn]
        rw [wrO_y (y := { l.getD k.toNat default with cls := s }) kn rfl]
        simp +contextual -dsimp -implicitDefEqProofs (maxSteps := 5000000) only [go_sem, reduceIte, reduceCtorEq, Nat.reduceEqDiff, Nat.reduceBEq, Nat.reduceAdd, Nat.reduceLeDiff, Nat.reduceMul, Nat.reduceLT, Int.reduceEq, Int.reduceLT, Int.reduceLE, c0, c1, p1, p2, p3, p4, p5, p6, v1, v2, v3, v4, v5, v6, s1, s2, s3, s4, s5, s6, s7, s8, k0, kl, kn]
        rw [set_5 s2 s4 s8 s6]
        refine draw_intro [0, 1, 3, 2] (AHeap.none.set b5 ⟨1, 28, [[(.sl bx 5 0 l.length clx)]]⟩) (by kernel_rfl) (le_one (by rw [set_other v2', AHeap.set_self])) ?_
        simp +contextual -dsimp -implicitDefEqProofs (maxSteps := 5000000) only [go_sem, reduceIte, reduceCtorEq, Nat.reduceEqDiff, Nat.reduceBEq, Nat.reduceAdd, Nat.reduceLeDiff, Nat.reduceMul, Nat.reduceLT, Int.reduceEq, Int.reduceLT, Int.reduceLE, p1, p2, p3, p4, p5, p6, v1, v2, v3, v4, v5, v6, s1, s2, s3, s4, s5, s6, s7, s8]
        refine ⟨le_one (by rw [set_other v2', AHeap.set_self]), ?_⟩
        refine retR_less (l := [aTree t cl, .agg [(.sl bx 5 0 l.length clx)]]) (H' := AHeap.set (F.set bx ⟨5, 35, (l.set k.toNat { l.getD k.toNat default with cls := s }).map rFault⟩) br K5) ?_ (le_ch (le_s1 (le_s1 (le_s1 (AHeap.le_refl _) (g2 _)) (g3 _)) (g5 _))) ⟨t, cl, (l.set k.toNat { l.getD k.toNat default with cls := s }), (.sl bx 5 0 l.length clx), (F.set bx ⟨5, 35, (l.set k.toNat { l.getD k.toNat default with cls := s }).map rFault⟩), K5, rfl, (upd1 _ (List.length_set ..)), (gr _), rfl, rdk_mono hK5 (by omega), ht8, hs, (by rw [List.length_set]; exact hl6)⟩
        simp only [resA, go_sem, reduceIte, reduceCtorEq, Nat.reduceEqDiff, Nat.reduceBEq, Nat.reduceAdd, Nat.reduceLeDiff, Nat.reduceMul, Nat.reduceLT, Int.reduceEq, Int.reduceLT, Int.reduceLE, p1, p2, p3, p4, p5, p6, v1, v2, v3, v4, v5, v6, s1, s2, s3, s4, s5, s6, s7, s8]
      · by_cases c2 : z = 2
        · simp +contextual -dsimp -implicitDefEqProofs (maxSteps := 5000000) only [go_sem, reduceIte, reduceCtorEq, Nat.reduceEqDiff, Nat.reduceBEq, Nat.reduceAdd, Nat.reduceLeDiff, Nat.reduceMul, Nat.reduceLT, Int.reduceEq, Int.reduceLT, Int.reduceLE, c0, c1, c2, p1, p2, p3, p4, p5, p6, v1, v2, v3, v4, v5, v6, s1, s2, s3, s4, s5, s6, s7, s8, k0, kl, kn]
          refine draw_intro [0, 1, 0, 0, 0, 3, 0, 0, 2] _ (by kernel_rfl) (le_set (n5 _ _ _ _ hr0)) ?_
          simp +contextual -dsimp -implicitDefEqProofs (maxSteps := 5000000) only [go_sem, reduceIte, reduceCtorEq, Nat.reduceEqDiff, Nat.reduceBEq, Nat.reduceAdd, Nat.reduceLeDiff, Nat.reduceMul, Nat.reduceLT, Int.reduceEq, Int.reduceLT, Int.reduceLE, c0, c1, c2, p1, p2, p3, p4, p5, p6, v1, v2, v3, v4, v5, v6, s1, s2, s3, s4, s5, s6, s7, s8, k0, kl, kn]
          refine k_one [-1, 100] _ hK4 (n5 _ _ _ _ hr0) (by omega) (by simp) rfl rfl fun s K5 _ hK5 => ⟨le_set (n5 _ _ _ _ hr0), ?_⟩
          simp +contextual -dsimp -implicitDefEqProofs (maxSteps := 5000000) only [go_sem, reduceIte, reduceCtorEq, Nat.reduceEqDiff, Nat.reduceBEq, Nat.reduceAdd, Nat.reduceLeDiff, Nat.reduceMul, Nat.reduceLT, Int.reduceEq, Int.reduceLT, Int.reduceLE, c0, c1, c2, p1, p2, p3, p4, p5, p6, v1, v2, v3, v4, v5, v6, s1, s2, s3, s4, s5, s6, s7, s8, k0, kl, kn]
          rw [wrO_y (y := { l.getD k.toNat default with code := s }) kn rfl]
          simp +contextual -dsimp -implicitDefEqProofs (maxSteps := 5000000) only [go_sem, reduceIte, reduceCtorEq, Nat.reduceEqDiff, Nat.reduceBEq, Nat.reduceAdd, Nat.reduceLeDiff, Nat.reduceMul, Nat.reduceLT, Int.reduceEq, Int.reduceLT, Int.reduceLE, c0, c1, c2, p1, p2, p3, p4, p5, p6, v1, v2, v3, v4, v5, v6, s1, s2, s3, s4, s5, s6, s7, s8, k0, kl, kn]
          rw [set_5 s2 s4 s8 s6]
          refine draw_intro [0, 1, 3, 2] (AHeap.none.set b5 ⟨1, 28, [[(.sl bx 5 0 l.length clx)]]⟩) (by kernel_rfl) (le_one (by rw [set_other v2', AHeap.set_self])) ?_
          simp +contextual -dsimp -implicitDefEqProofs (maxSteps := 5000000) only [go_sem, reduceIte, reduceCtorEq, Nat.reduceEqDiff, Nat.reduceBEq, Nat.reduceAdd, Nat.reduceLeDiff, Nat.reduceMul, Nat.reduceLT, Int.reduceEq, Int.reduceLT, Int.reduceLE, p1, p2, p3, p4, p5, p6, v1, v2, v3, v4, v5, v6, s1, s2, s3, s4, s5, s6, s7, s8]
          refine ⟨le_one (by rw [set_other v2', AHeap.set_self]), ?_⟩
          refine retR_less (l := [aTree t cl, .agg [(.sl bx 5 0 l.length clx)]]) (H' := AHeap.set (F.set bx ⟨5, 35, (l.set k.toNat { l.getD k.toNat default with code := s }).map rFault⟩) br K5) ?_ (le_ch (le_s1 (le_s1 (le_s1 (AHeap.le_refl _) (g2 _)) (g3 _)) (g5 _))) ⟨t, cl, (l.set k.toNat { l.getD k.toNat default with code := s }), (.sl bx 5 0 l.length clx), (F.set bx ⟨5, 35, (l.set k.toNat { l.getD k.toNat default with code := s }).map rFault⟩), K5, rfl, (upd1 _ (List.length_set ..)), (gr _), rfl, rdk_mono hK5 (by omega), ht8, hs, (by rw [List.length_set]; exact hl6)⟩
          simp only [resA, go_sem, reduceIte, reduceCtorEq, Nat.reduceEqDiff, Nat.reduceBEq, Nat.reduceAdd, Nat.reduceLeDiff, Nat.reduceMul, Nat.reduceLT, Int.reduceEq, Int.reduceLT, Int.reduceLE, p1, p2, p3, p4, p5, p6, v1, v2, v3, v4, v5, v6, s1, s2, s3, s4, s5, s6, s7, s8]
        · by_cases c3 : z = 3
          · simp +contextual -dsimp -implicitDefEqProofs (maxSteps := 5000000) only [go_sem, reduceIte, reduceCtorEq, Nat.reduceEqDiff, Nat.reduceBEq, Nat.reduceAdd, Nat.reduceLeDiff, Nat.reduceMul, Nat.reduceLT, Int.reduceEq, Int.reduceLT, Int.reduceLE, c0, c1, c2, c3, p1, p2, p3, p4, p5, p6, v1, v2, v3, v4, v5, v6, s1, s2, s3, s4, s5, s6, s7, s8, k0, kl, kn]
            refine draw_intro [0, 1, 0, 0, 0, 0, 3, 0, 0, 2] _ (by kernel_rfl) (le_set (n5 _ _ _ _ hr0)) ?_
            simp +contextual -dsimp -implicitDefEqProofs (maxSteps := 5000000) only [go_sem, reduceIte, reduceCtorEq, Nat.reduceEqDiff, Nat.reduceBEq, Nat.reduceAdd, Nat.reduceLeDiff, Nat.reduceMul, Nat.reduceLT, Int.reduceEq, Int.reduceLT, Int.reduceLE, c0, c1, c2, c3, p1, p2, p3, p4, p5, p6, v1, v2, v3, v4, v5, v6, s1, s2, s3, s4, s5, s6, s7, s8, k0, kl, kn]
            refine k_one [k, 24, 0] _ hK4 (n5 _ _ _ _ hr0) (by omega) (by simp) rfl rfl fun s K5 _ hK5 => ⟨le_set (n5 _ _ _ _ hr0), ?_⟩
            simp +contextual -dsimp -implicitDefEqProofs (maxSteps := 5000000) only [go_sem, reduceIte, reduceCtorEq, Nat.reduceEqDiff, Nat.reduceBEq, Nat.reduceAdd, Nat.reduceLeDiff, Nat.reduceMul, Nat.reduceLT, Int.reduceEq, Int.reduceLT, Int.reduceLE, c0, c1, c2, c3, p1, p2, p3, p4, p5, p6, v1, v2, v3, v4, v5, v6, s1, s2, s3, s4, s5, s6, s7, s8, k0, kl, kn]
            rw [wrO_y (y := { l.getD k.toNat default with cause := s }) kn rfl]
            simp +contextual -dsimp -implicitDefEqProofs (maxSteps := 5000000) only [go_sem, reduceIte, reduceCtorEq, Nat.reduceEqDiff, Nat.reduceBEq, Nat.reduceAdd, Nat.reduceLeDiff, Nat.reduceMul, Nat.reduceLT, Int.reduceEq, Int.reduceLT, Int.reduceLE, c0, c1, c2, c3, p1, p2, p3, p4, p5, p6, v1, v2, v3, v4, v5, v6, s1, s2, s3, s4, s5, s6, s7, s8, k0, kl, kn]
            rw [set_5 s2 s4 s8 s6]
            refine draw_intro [0, 1, 3, 2] (AHeap.none.set b5 ⟨1, 28, [[(.sl bx 5 0 l.length clx)]]⟩) (by kernel_rfl) (le_one (by rw [set_other v2', AHeap.set_self])) ?_
            simp +contextual -dsimp -implicitDefEqProofs (maxSteps := 5000000) only [go_sem, reduceIte, reduceCtorEq, Nat.reduceEqDiff, Nat.reduceBEq, Nat.reduceAdd, Nat.reduceLeDiff, Nat.reduceMul, Nat.reduceLT, Int.reduceEq, Int.reduceLT, Int.reduceLE, p1, p2, p3, p4, p5, p6, v1, v2, v3, v4, v5, v6, s1, s2, s3, s4, s5, s6, s7, s8]
            refine ⟨le_one (by rw [set_other v2', AHeap.set_self]), ?_⟩
            refine retR_less (l := [aTree t cl, .agg [(.sl bx 5 0 l.length clx)]]) (H' := AHeap.set (F.set bx ⟨5, 35, (l.set k.toNat { l.getD k.toNat default with cause := s }).map rFault⟩) br K5) ?_ (le_ch (le_s1 (le_s1 (le_s1 (AHeap.le_refl _) (g2 _)) (g3 _)) (g5 _))) ⟨t, cl, (l.set k.toNat { l.getD k.toNat default with cause := s }), (.sl bx 5 0 l.length clx), (F.set bx ⟨5, 35, (l.set k.toNat { l.getD k.toNat default with cause := s }).map rFault⟩), K5, rfl, (upd1 _ (List.length_set ..)), (gr _), rfl, rdk_mono hK5 (by omega), ht8, hs, (by rw [List.length_set]; exact hl6)⟩
            simp only [resA, go_sem, reduceIte, reduceCtorEq, Nat.reduceEqDiff, Nat.reduceBEq, Nat.reduceAdd, Nat.reduceLeDiff, Nat.reduceMul, Nat.reduceLT, Int.reduceEq, Int.reduceLT, Int.reduceLE, p1, p2, p3, p4, p5, p6, v1, v2, v3, v4, v5, v6, s1, s2, s3, s4, s5, s6, s7, s8]
          · simp +contextual -dsimp -implicitDefEqProofs (maxSteps := 5000000) only [go_sem, reduceIte, reduceCtorEq, Nat.reduceEqDiff, Nat.reduceBEq, Nat.reduceAdd, Nat.reduceLeDiff, Nat.reduceMul, Nat.reduceLT, Int.reduceEq, Int.reduceLT, Int.reduceLE, c0, c1, c2, c3, p1, p2, p3, p4, p5, p6, v1, v2, v3, v4, v5, v6, s1, s2, s3, s4, s5, s6, s7, s8, k0, kl, kn]
            refine draw_intro [0, 1, 3, 2] (AHeap.none.set b5 ⟨1, 28, [[(.sl bx 5 0 l.length clx)]]⟩) (by kernel_rfl) (le_one (by rw [set_other v2', AHeap.set_self])) ?_
            simp +contextual -dsimp -implicitDefEqProofs (maxSteps := 5000000) only [go_sem, reduceIte, reduceCtorEq, Nat.reduceEqDiff, Nat.reduceBEq, Nat.reduceAdd, Nat.reduceLeDiff, Nat.reduceMul, Nat.reduceLT, Int.reduceEq, Int.reduceLT, Int.reduceLE, p1, p2, p3, p4, p5, p6, v1, v2, v3, v4, v5, v6, s1, s2, s3, s4, s5, s6, s7, s8]
            refine ⟨le_one (by rw [set_other v2', AHeap.set_self]), ?_⟩
            refine retR_less (l := [aTree t cl, .agg [(.sl bx 5 0 l.length clx)]]) (H' := AHeap.set (F.set bx ⟨5, 35, l.map rFault⟩) br K4) ?_ (le_ch (le_s1 (le_s1 (le_s1 (AHeap.le_refl _) (g2 _)) (g3 _)) (g5 _))) ⟨t, cl, l, (.sl bx 5 0 l.length clx), (F.set bx ⟨5, 35, l.map rFault⟩), K4, rfl, (upd1 l rfl), (gr _), rfl, rdk_mono hK4 (by omega), ht8, hs, hl6⟩
            simp only [resA, go_sem, reduceIte, reduceCtorEq, Nat.reduceEqDiff, Nat.reduceBEq, Nat.reduceAdd, Nat.reduceLeDiff, Nat.reduceMul, Nat.reduceLT, Int.reduceEq, Int.reduceLT, Int.reduceLE, p1, p2, p3, p4, p5, p6, v1, v2, v3, v4, v5, v6, s1, s2, s3, s4, s5, s6, s7, s8]
  · skip
    refine draw_intro [0, 1, 3, 2] (AHeap.none.set b5 ⟨1, 28, [[x]]⟩) (by kernel_rfl) (le_one (by rw [set_other v2', AHeap.set_self])) ?_
    simp +contextual -dsimp -implicitDefEqProofs (maxSteps := 5000000) only [go_sem, reduceIte, reduceCtorEq, Nat.reduceEqDiff, Nat.reduceBEq, Nat.reduceAdd, Nat.reduceLeDiff, Nat.reduceMul, Nat.reduceLT, Int.reduceEq, Int.reduceLT, Int.reduceLE, p1, p2, p3, p4, p5, p6, v1, v2, v3, v4, v5, v6]
    refine ⟨le_one (by rw [set_other v2', AHeap.set_self]), (one_grow hg).2, ?_⟩
    refine retR_less (l := [aTree t cl, .agg [x]]) (H' := AHeap.set G br K2) ?_ (le_ch (le_s1 (le_s1 (le_s1 (AHeap.le_refl _) e2) e3) hb5)) ⟨t, cl, l, x, G, K2, rfl, hg, hr0, rfl, rdk_mono hK2 (by omega), ht8, hs, hl6⟩
    simp only [resA, go_sem, reduceIte, reduceCtorEq, Nat.reduceEqDiff, Nat.reduceBEq, Nat.reduceAdd, Nat.reduceLeDiff, Nat.reduceMul, Nat.reduceLT, Int.reduceEq, Int.reduceLT, Int.reduceLE, p1, p2, p3, p4, p5, p6, v1, v2, v3, v4, v5, v6]
theorem c_faultIn (F : AHeap) (br n : Nat) (K : ABlk) (h : RdK n K) (hF : F br = none) (hn : n < 600000000) : ACalls Tryd.prog 28 [.ptr br 2 0 0] (F.set br K) fun r H' =>
    ∃ t cl, ∃ l : List Fault, ∃ cl' v K', r = .tup [aTree t cl, aHeap l cl', I v] ∧ H' = F.set br K' ∧ t.length ≤ 8 ∧ shortNames t ∧ l.length ≤ 6 := by
  refine acalls_of1 Tryd.func28 rfl (by kernel_rfl) rfl rfl (awp_sound (fz := fun _ => []) (im := fun _ => false) mixed _ _ _ _ (by kernel_rfl) ?_)
  simp +contextual -dsimp -implicitDefEqProofs (maxSteps := 5000000) only [go_sem, reduceIte, reduceCtorEq, Nat.reduceEqDiff, Nat.reduceBEq, Nat.reduceAdd, Nat.reduceLeDiff, Nat.reduceMul, Nat.reduceLT, Int.reduceEq, Int.reduceLT, Int.reduceLE]
  rintro b2 ⟨p1, p2, hb2⟩ b3 ⟨p3, p4, p5, p6, hb3⟩
  rw [br_out p1, br_out p5]
  have n0 : ∀ (G : AHeap) K4 K5, G br = none → ((G.set b2 K4).set b3 K5) br = none := fun G K4 K5 h => by rw [set_other p6, set_other p2]; exact h
  have fz : ACalls Tryd.prog 36 [.ptr br 2 0 0] (((F.set b2 ⟨1, 25, [[.vsl [] true]]⟩).set b3 ⟨1, 28, [[.vsl [] true]]⟩).set br K) fun r H' =>
      ∃ t cl, ∃ l : List Fault, ∃ cl' K', r = .tup [aTree t cl, aHeap l cl'] ∧ H' = ((F.set b2 ⟨1, 25, [[.vsl [] true]]⟩).set b3 ⟨1, 28, [[.vsl [] true]]⟩).set br K' ∧ RdK (n + 100) K' ∧ t.length ≤ 8 ∧ shortNames t ∧ l.length ≤ 6 := by
    refine acalls_fz (c_someHeap _ br n K h (n0 _ _ _ hF) hn) ?_
    rintro _ _ ⟨t, cl, l, x, G, K', rfl, hg, hr, rfl, hK, ht, hs, hl⟩
    have hg' := grow_in (K := K') hg hr
    obtain ⟨cl', hz⟩ := grow_fz hg'
    exact ⟨_, _, grow_le hg', fz_tup (.cons (.same _) (.cons (fz_agg (.cons hz .nil)) .nil)), t, cl, l, cl', K', rfl, rfl, hK, ht, hs, hl⟩
  refine fz.mono ?_
  rintro _ _ ⟨t, cl, l, cl', K1, rfl, rfl, hK1, ht, hs, hl⟩
  simp +contextual -dsimp -implicitDefEqProofs (maxSteps := 5000000) only [go_sem, reduceIte, reduceCtorEq, Nat.reduceEqDiff, Nat.reduceBEq, Nat.reduceAdd, Nat.reduceLeDiff, Nat.reduceMul, Nat.reduceLT, Int.reduceEq, Int.reduceLT, Int.reduceLE]
  rintro b5 ⟨q1, q2, q3, q4, q5, q6, hb5⟩ b6 ⟨r1, r2, r3, r4, r5, r6, r7, r8, hb6⟩
  rw [br_out q1, br_out r3]
  have n5 : ∀ (G : AHeap) K4 K5 K6 K7, G br = none → ((((G.set b2 K4).set b3 K5).set b5 K6).set b6 K7) br = none := fun G K4 K5 K6 K7 h => by rw [set_other r4, set_other q2]; exact n0 _ _ _ h
  have le5 : ∀ K4 K5 K6 K7 K8, AHeap.le ((AHeap.none.set b5 K6).set b6 K7) (((((F.set b2 K4).set b3 K5).set b5 K6).set b6 K7).set br K8) := fun K4 K5 K6 K7 K8 => le_two (by rw [set_other q1, set_other r2, AHeap.set_self]) (by rw [set_other r3, AHeap.set_self])
  refine draw_intro [1, 1, 0, 0, 3, 3, 2, 0] _ (by kernel_rfl) (le5 _ _ _ _ _) ?_
  simp +contextual -dsimp -implicitDefEqProofs (maxSteps := 5000000) only [go_sem, reduceIte, reduceCtorEq, Nat.reduceEqDiff, Nat.reduceBEq, Nat.reduceAdd, Nat.reduceLeDiff, Nat.reduceMul, Nat.reduceLT, Int.reduceEq, Int.reduceLT, Int.reduceLE, set_5, p1, p2, p3, p4, p5, p6, q1, q2, q3, q4, q5, q6, r1, r2, r3, r4, r5, r6, r7, r8]
  refine (c_aFault _ br _ K1 l cl' hK1 (n5 _ _ _ _ _ hF) (by omega)).mono ?_
  rintro _ _ ⟨v, K3, rfl, hK3, rfl⟩
  refine ⟨le5 _ _ _ _ _, ?_⟩
  simp +contextual -dsimp -implicitDefEqProofs (maxSteps := 5000000) only [go_sem, reduceIte, reduceCtorEq, Nat.reduceEqDiff, Nat.reduceBEq, Nat.reduceAdd, Nat.reduceLeDiff, Nat.reduceMul, Nat.reduceLT, Int.reduceEq, Int.reduceLT, Int.reduceLE, set_5, p1, p2, p3, p4, p5, p6, q1, q2, q3, q4, q5, q6, r1, r2, r3, r4, r5, r6, r7, r8]
  refine ⟨le5 _ _ _ _ _, ?_⟩
  refine retR_less (l := [aTree t cl, aHeap l cl', I v]) (H' := F.set br K3) ?_ (le_ch (le_s1 (le_s1 (le_s1 (le_s1 (AHeap.le_refl _) hb2) hb3) hb5) hb6)) ⟨t, cl, l, cl', v, K3, rfl, rfl, ht, hs, hl⟩
  simp only [resA, go_sem, reduceIte, reduceCtorEq, Nat.reduceEqDiff, Nat.reduceBEq, Nat.reduceAdd, Nat.reduceLeDiff, Nat.reduceMul, Nat.reduceLT, Int.reduceEq, Int.reduceLT, Int.reduceLE, p1, p2, p3, p4, p5, p6, q1, q2, q3, q4, q5, q6, r1, r2, r3, r4, r5, r6, r7, r8]
theorem c_DrawIsolateFault (bs : List UInt8) (cb : Bool) (F : AHeap) : ACalls Tryd.prog 13 [.vsl (bs.map rU) cb] F fun r H' =>
    ∃ t cl, ∃ l : List Fault, ∃ cl' v, r = .tup [aTree t cl, aHeap l cl', I v] ∧ H' = F ∧ t.length ≤ 8 ∧ shortNames t ∧ l.length ≤ 6 := by
  refine acalls_of1 Tryd.func13 rfl (by kernel_rfl) rfl rfl (awp_sound (fz := fun _ => []) (im := fun _ => false) mixed _ _ _ _ (by kernel_rfl) ?_)
  simp +contextual -dsimp -implicitDefEqProofs (maxSteps := 5000000) only [go_sem, reduceIte, reduceCtorEq, Nat.reduceEqDiff, Nat.reduceBEq, Nat.reduceAdd, Nat.reduceLeDiff, Nat.reduceMul, Nat.reduceLT, Int.reduceEq, Int.reduceLT, Int.reduceLE]
  rintro b2 h2 b3 ⟨p1, p2, h3⟩
  refine (c_newReader bs cb _).mono ?_
  rintro _ H' ⟨br, rfl, hR⟩
  have f4 : ∀ K2 K4, ((F.set b2 K2).set b3 K4) br = none := by
    have q := hR; obtain ⟨_, _, _, _, _, q, _⟩ := q
    rw [set_none, set_none] at q
    intro K2 K4; rw [set_none, set_none]; exact q
  obtain ⟨K1, hK1, rfl⟩ := rd_to hR
  have q1 := f4 ⟨1, 0, []⟩ ⟨1, 0, []⟩
  rw [set_none, set_none] at q1
  obtain ⟨u1, u2, u3, u4, hr⟩ := q1
  simp +contextual -dsimp -implicitDefEqProofs (maxSteps := 5000000) only [go_sem, reduceIte, reduceCtorEq, Nat.reduceEqDiff, Nat.reduceBEq, Nat.reduceAdd, Nat.reduceLeDiff, Nat.reduceMul, Nat.reduceLT, Int.reduceEq, Int.reduceLT, Int.reduceLE]
  refine (c_faultIn _ br 0 K1 hK1 (f4 _ _) (by omega)).mono ?_
  rintro _ _ ⟨t, cl, l, cl', v, K2, rfl, rfl, ht8, hs, hl6⟩
  simp +contextual -dsimp -implicitDefEqProofs (maxSteps := 5000000) only [go_sem, reduceIte, reduceCtorEq, Nat.reduceEqDiff, Nat.reduceBEq, Nat.reduceAdd, Nat.reduceLeDiff, Nat.reduceMul, Nat.reduceLT, Int.reduceEq, Int.reduceLT, Int.reduceLE, p1, p2, u1, u2, u3, u4]
  refine retR_less (l := [aTree t cl, aHeap l cl', I v]) (H' := F) ?_ (le_s1 (le_s1 (le_s1 (AHeap.le_refl _) h2) h3) hr) ⟨t, cl, l, cl', v, rfl, rfl, ht8, hs, hl6⟩
  simp only [resA, go_sem, reduceIte, reduceCtorEq, Nat.reduceEqDiff, Nat.reduceBEq, Nat.reduceAdd, Nat.reduceLeDiff, Nat.reduceMul, Nat.reduceLT, Int.reduceEq, Int.reduceLT, Int.reduceLE, p1, p2, u1, u2, u3, u4]
end Go.Proofs.YtihjbbiajggcoaaDoor
end
section
set_option linter.unusedVariables false
set_option linter.unusedSimpArgs false
namespace Go.Proofs.YtihjbbiajggcoaaDoor
open Go Go.Sim
set_option maxRecDepth 100000
attribute [local go_sem ↓] aw_skip aw_ret aw_exit aw_region aw_draw aw_seq aw_block aw_loop aw_cond frz_nil frz_cons sq_normal sq_ret sq_exit exB_normal exB_ret exB_same exB_other retQ_ret retQ_normal ret0_ret ret0_normal ao_nil go1 g_move g_assign g_pick g_build g_load g_binOp g_unOp g_convert g_fieldAddr g_field g_indexAddr g_index g_extract g_slice g_nilCheck g_len g_makeFunc h_call h_append h_alloc h_box h_buildSlice h_makeSlice h_store gV i_box i_buildSlice i_move i_assign i_build i_load i_binOp i_unOp i_convert i_fieldAddr i_field i_indexAddr i_index i_extract i_slice i_nilCheck i_makeFunc i_len i_max i_min i_alloc i_makeSlice i_store i_append i_call i_pick boxI boxA buildSliceI buildSliceA makeSliceA allocA storeA p_move p_assign p_pick p_build p_load p_binOp p_unOp p_convert p_fieldAddr p_field p_indexAddr p_index p_extract p_slice p_nilCheck p_makeFunc p_len p_max p_min p_alloc p_box p_buildSlice p_makeSlice p_store p_append p_call x_nil x_go1 x_g0 x_g1 x_g2 x_g3 x_s0 x_s1 x_s2 x_s3 u_move u_assign u_pick u_build u_load u_binOp u_unOp u_convert u_fieldAddr u_field u_indexAddr u_index u_extract u_slice u_nilCheck u_makeFunc u_len u_buildSlice x_s4 x_g4 rq_normal rq_ret rq_exit aw_range
attribute [local go_sem] frzV_sl frzK_some set_none set_other AHeap.set_self set_del set_set cnd_t cnd_f cnd_b retA_one retA_two retA_three retA_four retA_nil gIf_b mrgV_b mrgV_wh mrgV_U gIf_U gIf_wh mrgB_f mrgB_some mrgB_if wh_true wh_false keepA_some keepA_if gD_zero gD_succ gT_some bxA_t bxA_f callA_fn ev_tmp ev_const ev_global ev_func oc_bool oc_int oc_string oc_nil oc_nilptr oc_nilfunc cl_bool cl_int cl_string cl_nil updO_some updO_none upd_same upd_other init_at pickA_b pickA_wh selA_t selA_f selA_and selA_or selA_orn selA_orm selA_bb selA_ii beqt b_add b_sub b_mul b_and b_or b_xor b_eql b_neq b_lss b_leq b_gtr b_geq b_quo b_rem b_shr b_seql b_sneq b_sadd b_beql b_bneq b_aeql b_aneq u_not u_neg isConstOp eqA eqCellV List.getD_cons_zero List.getD_cons_succ List.map_cons List.map_nil List.nil_append List.cons_append List.append_nil if_true if_false Option.map_some Option.map_none ne_eq not_false_eq_true oneA ldv ld1v ld1s wr1s ldRow stRow row_lit row_agg row_vsl row_sl row_ptr row_fn one_I one_B one_S one_vsl one_sl one_ptr one_fn extractA okA rI rS rU rClass rFault rExit rStart rLine Int.toNat_natCast List.length_cons List.length_nil List.length_map List.all_cons List.all_nil Bool.and_true Nat.zero_add List.getElem?_cons_zero List.getElem?_cons_succ List.take_succ_cons List.take_zero List.drop_succ_cons List.drop_zero and_self true_and and_true implies_true decide_eq_true_eq decide_eq_false_iff_not Bool.or_eq_true Bool.or_eq_false_iff Bool.and_eq_true Bool.not_eq_true' Bool.not_eq_false' beq_false decide_true decide_false Int.ofNat_lt Int.ofNat_le Int.natCast_nonneg Bool.or_true Bool.or_false Bool.true_or Bool.false_or beq_self_eq_true List.drop_one Bool.not_true Bool.not_false Bool.not_not Bool.false_eq_true Bool.true_eq_false false_implies true_implies Bool.true_and Bool.false_and Bool.and_false not_true_eq_false Int.natCast_eq_zero Int.natCast_pos Int.natCast_zero false_and and_false or_false false_or or_true true_or Bool.or_self none_le_iff List.replicate_zero Int.toNat_zero List.replicate_succ buildRows List.set_cons_zero List.set_cons_succ List.set_nil List.mapM_nil maxLen_eq Nat.zero_le Nat.mul_one Nat.one_mul bldA fillA spliceA List.take_nil List.drop_nil List.getElem?_nil ld1o wr1o bldSliceA le_same cv_i cvI_t quietT_fn qvd_some ld_o ldO_1 ldO_l wr_o wrO_1 set_2 set_3 set_4 putL_nil putL_cons List.zip_cons_cons List.zip_nil_left List.zip_nil_right List.toList_toArray frzV_set ti1 ti2 tk2 ti3 te3 ts3 tk3 tz3 ti4 tb4 ti5 tk5 tz5 ti9 te9 ts9 tk9 tz9 ti12 tk12 ti13 tp13 tf13_0 tf13_1 ti20 ti21 tk21 tz21 ti22 te22 tz22 ti23 te23 ti24 tp24 tf24_0 ti25 tp25 tf25_0 ti26 te26 ti27 tp27 tf27_0 ti28 tp28 tf28_0 ti30 ti32 ti33 ti34 tq34 tp34 tf34_0 tf34_1 tf34_2 tf34_3 tf34_4 ti35 tq35 tp35 tf35_0 tf35_1 tf35_2 tf35_3 tf35_4 ti36 ti37 te37 ti38 ti39 ti40 ti42 ti44 ti45 ti46 ti47 ti48 ti49 ti50 ti51 ti52 ti53 ti54 ti55 ti56 ti57 ti58 ti59 ti60 ti61 ti62 ti64 ti65 ti66 tp66 tf66_0 tf66_1 ti67 tp67 tf67_0 tf67_1 ti68 ti69 ti70 ti71 ti72 ti73 ti74 ti75 ti76 ti77 ti78 ti79 ti80 ti81 ti82 ti83 tq83 tp83 tf83_0 tf83_1 ti84 tq84 tp84 tf84_0 tf84_1 ti85 ti86 ti87 ti88 ti89 ti90 ti91 ti92 ti93 ti94 ti95 ti96 tk96 tz96 ti97 ti98 ti99 ti100 ti101 te101 ti102 ti103 ti104 tk104 ti106 ti107 ti108 ti110 ti111 ti112 tk112 tz112 ti113 ti114 tk114 tz114 ti115 tk115 ti116 ti117 ti118 ti119 ti120 ti121 ti122 ti124 ti125 ta125 ti126 ti128 ti129 ti130 ta130 ti131 ta131 ti132 ta132 ti133 ta133 ti134 ti140 ti144 fp13_0 fv13_0 fp13_1 fv13_1 fp24_0 fv24_0 fp25_0 fv25_0 fp27_0 fv27_0 fp28_0 fv28_0 fp34_0 fv34_0 fp34_1 fv34_1 fp34_2 fv34_2 fp34_3 fv34_3 fp34_4 fv34_4 fp35_0 fv35_0 fp35_1 fv35_1 fp35_2 fv35_2 fp35_3 fv35_3 fp35_4 fv35_4 fp66_0 fv66_0 fp66_1 fv66_1 fp67_0 fv67_0 fp67_1 fv67_1 fp83_0 fv83_0 fp83_1 fv83_1 fp84_0 fv84_0 fp84_1 fv84_1 lv22 ll22 is22 ix22 sh22 so22 sb22 sm22 sp22 lv23 ll23 is23 ix23 sh23 so23 sb23 sm23 sp23 lv26 ll26 is26 ix26 sh26 so26 sb26 sm26 sp26 lv37 ll37 is37 ix37 sh37 so37 sb37 sm37 sp37 lv101 ll101 is101 ix101 sh101 so101 sb101 sm101 sp101 xs9 ls9 sx9 sy9 sz9

/-- What is reached, depth first: causes ahead of contexts. -/
def dfsG (h : List Fault) : Nat → Int → List Int → List Int
  | 0, _, out => out
  | n + 1, f, out => if 0 ≤ f ∧ (out.any fun x => decide (f = x)) = false then dfsG h n (ctxOf h f) (dfsG h n (causeOf h f) (out ++ [f])) else out
def Links (h : List Fault) : Prop := ∀ k, k < h.length → (h.getD k default).cause < h.length ∧ (h.getD k default).ctx < h.length
theorem Nums.app {n : Nat} {out : List Int} (h : Nums n out) {g : Int} (h0 : 0 ≤ g) (hg : g < n) (ha : (out.any fun x => decide (g = x)) = false) : Nums n (out ++ [g]) := by
  have := h.add hg
  unfold addF at this
  rwa [if_pos ⟨h0, ha⟩] at this
theorem dfsG_nums {h : List Fault} (hlk : Links h) : ∀ (m : Nat) (f : Int) (out : List Int), f < h.length → Nums h.length out → Nums h.length (dfsG h m f out) ∧ freeN h.length (dfsG h m f out) ≤ freeN h.length out
  | 0, f, out, _, hn => ⟨hn, Nat.le_refl _⟩
  | m + 1, f, out, hf, hn => by
    simp only [dfsG]
    split
    · rename_i c
      have hk := hlk f.toNat (by omega)
      have l1 := freeN_lt c.1 hf c.2
      obtain ⟨n1, l2⟩ := dfsG_nums hlk m (causeOf h f) (out ++ [f]) hk.1 (hn.app c.1 hf c.2)
      obtain ⟨n2, l3⟩ := dfsG_nums hlk m (ctxOf h f) _ hk.2 n1
      exact ⟨n2, by omega⟩
    · exact ⟨hn, Nat.le_refl _⟩
theorem c_reachG (h : List Fault) (cl : Bool) (hl : h.length ≤ 999999) (hlk : Links h) : ∀ (m : Nat) (f : Int) (F H : AHeap) (x : AV) (out : List Int), f < h.length → Nums h.length out → freeN h.length out < m → Grow rI 1 3 F H x out →
    ACalls Tryd.prog 55 [aHeap h cl, I f, x] H fun r H' => Grow rI 1 3 F H' r (dfsG h m f out) := by
  intro m
  induction m with
  | zero => intro f F H x out _ _ h3; omega
  | succ m ih =>
    intro f F H x out h1 hn hfr hg
    have hb := hn.free
    by_cases h0 : f < 0
    · refine acalls_of0 Tryd.func55 rfl (by kernel_rfl) rfl rfl (awp_sound (fz := fun _ => []) (im := fun s => s == 3 || s == 17) mixed _ _ _ _ (by kernel_rfl) ?_)
      simp +contextual -dsimp -implicitDefEqProofs (maxSteps := 5000000) only [go_sem, reduceIte, reduceCtorEq, Nat.reduceEqDiff, Nat.reduceBEq, Nat.reduceAdd, Nat.reduceLeDiff, Nat.reduceMul, Nat.reduceLT, Int.reduceEq, Int.reduceLT, Int.reduceLE, h0]
      simp only [dfsG]
      rw [if_neg (by omega)]; exact hg
    · cases hany : out.any fun x => decide (f = x)
      · have hc := hlk f.toNat (by omega)
        have i1 : 0 ≤ f := by omega
        have i2 : f.toNat < h.length := by omega
        have l1 := freeN_lt i1 h1 hany
        have n1 := hn.app i1 h1 hany
        obtain ⟨n2, l2⟩ := dfsG_nums hlk m (causeOf h f) (out ++ [f]) hc.1 n1
        refine acalls_of0 Tryd.func55 rfl (by kernel_rfl) rfl rfl (awp_sound (fz := fun _ => []) (im := fun s => s == 3 || s == 17) mixed _ _ _ _ (by kernel_rfl) ?_)
        simp +contextual -dsimp -implicitDefEqProofs (maxSteps := 5000000) only [go_sem, reduceIte, reduceCtorEq, Nat.reduceEqDiff, Nat.reduceBEq, Nat.reduceAdd, Nat.reduceLeDiff, Nat.reduceMul, Nat.reduceLT, Int.reduceEq, Int.reduceLT, Int.reduceLE, h0]
        refine (c_hasIntG out x f F H hg).det ?_
        rw [hany]
        simp +contextual -dsimp -implicitDefEqProofs (maxSteps := 5000000) only [go_sem, reduceIte, reduceCtorEq, Nat.reduceEqDiff, Nat.reduceBEq, Nat.reduceAdd, Nat.reduceLeDiff, Nat.reduceMul, Nat.reduceLT, Int.reduceEq, Int.reduceLT, Int.reduceLE, h0]
        refine grow_append (m := [f]) te37 ti3 rI_len (by decide) hg (by simp; omega) (by simp; omega) rfl fun x' H' hg' => ?_
        simp +contextual -dsimp -implicitDefEqProofs (maxSteps := 5000000) only [go_sem, reduceIte, reduceCtorEq, Nat.reduceEqDiff, Nat.reduceBEq, Nat.reduceAdd, Nat.reduceLeDiff, Nat.reduceMul, Nat.reduceLT, Int.reduceEq, Int.reduceLT, Int.reduceLE, h0]
        refine draw_intro [0, 0, 0, 0, 0, 0, 0, 0, 2, 0] AHeap.none (by kernel_rfl) none_le ?_
        simp +contextual -dsimp -implicitDefEqProofs (maxSteps := 5000000) only [go_sem, reduceIte, reduceCtorEq, Nat.reduceEqDiff, Nat.reduceBEq, Nat.reduceAdd, Nat.reduceLeDiff, Nat.reduceMul, Nat.reduceLT, Int.reduceEq, Int.reduceLT, Int.reduceLE, h0, h1, i1, i2]
        refine (ih (h.getD f.toNat default).cause F H' x' (out ++ [f]) hc.1 n1 (by omega) hg').mono fun r H2 hg2 => ?_
        simp +contextual -dsimp -implicitDefEqProofs (maxSteps := 5000000) only [go_sem, reduceIte, reduceCtorEq, Nat.reduceEqDiff, Nat.reduceBEq, Nat.reduceAdd, Nat.reduceLeDiff, Nat.reduceMul, Nat.reduceLT, Int.reduceEq, Int.reduceLT, Int.reduceLE, h0]
        refine draw_intro [0, 0, 0, 0, 0, 0, 0, 0, 2, 0] AHeap.none (by kernel_rfl) none_le ?_
        simp +contextual -dsimp -implicitDefEqProofs (maxSteps := 5000000) only [go_sem, reduceIte, reduceCtorEq, Nat.reduceEqDiff, Nat.reduceBEq, Nat.reduceAdd, Nat.reduceLeDiff, Nat.reduceMul, Nat.reduceLT, Int.reduceEq, Int.reduceLT, Int.reduceLE, h0, h1, i1, i2]
        refine (ih (h.getD f.toNat default).ctx F H2 r _ hc.2 n2 (by omega) hg2).mono fun r' H3 hg3 => ?_
        simp +contextual -dsimp -implicitDefEqProofs (maxSteps := 5000000) only [go_sem, reduceIte, reduceCtorEq, Nat.reduceEqDiff, Nat.reduceBEq, Nat.reduceAdd, Nat.reduceLeDiff, Nat.reduceMul, Nat.reduceLT, Int.reduceEq, Int.reduceLT, Int.reduceLE, h0]
        simp only [dfsG]
        rw [if_pos ⟨i1, hany⟩]
        exact hg3
      · refine acalls_of0 Tryd.func55 rfl (by kernel_rfl) rfl rfl (awp_sound (fz := fun _ => []) (im := fun s => s == 3 || s == 17) mixed _ _ _ _ (by kernel_rfl) ?_)
        simp +contextual -dsimp -implicitDefEqProofs (maxSteps := 5000000) only [go_sem, reduceIte, reduceCtorEq, Nat.reduceEqDiff, Nat.reduceBEq, Nat.reduceAdd, Nat.reduceLeDiff, Nat.reduceMul, Nat.reduceLT, Int.reduceEq, Int.reduceLT, Int.reduceLE, h0]
        refine (c_hasIntG out x f F H hg).det ?_
        rw [hany]
        simp +contextual -dsimp -implicitDefEqProofs (maxSteps := 5000000) only [go_sem, reduceIte, reduceCtorEq, Nat.reduceEqDiff, Nat.reduceBEq, Nat.reduceAdd, Nat.reduceLeDiff, Nat.reduceMul, Nat.reduceLT, Int.reduceEq, Int.reduceLT, Int.reduceLE, h0]
        simp only [dfsG]
        rw [if_neg (by rw [hany]; exact fun q => by cases q.2)]; exact hg
end Go.Proofs.YtihjbbiajggcoaaDoor
end
