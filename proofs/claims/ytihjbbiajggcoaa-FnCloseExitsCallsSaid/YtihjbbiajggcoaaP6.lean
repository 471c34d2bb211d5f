/- The law FnCloseExitsCalls answers true at every input. No condition. -/
import Derived.Test.YtihjbbiajggcoaaP5
import Derived.Test.YtihjbbiajggcoaaSimY
section
set_option linter.unusedVariables false
set_option linter.unusedSimpArgs false
namespace Go.Proofs.Ytihjbbiajggcoaa
open Go Go.Sim
set_option maxRecDepth 100000
attribute [local go_sem ↓] aw_skip aw_ret aw_exit aw_region aw_draw aw_seq aw_block aw_loop aw_cond frz_nil frz_cons sq_normal sq_ret sq_exit exB_normal exB_ret exB_same exB_other retQ_ret retQ_normal ret0_ret ret0_normal ao_nil go1 g_move g_assign g_pick g_build g_load g_binOp g_unOp g_convert g_fieldAddr g_field g_indexAddr g_index g_extract g_slice g_nilCheck g_len g_makeFunc h_call h_append h_alloc h_box h_buildSlice h_makeSlice h_store gV i_box i_buildSlice i_move i_assign i_build i_load i_binOp i_unOp i_convert i_fieldAddr i_field i_indexAddr i_index i_extract i_slice i_nilCheck i_makeFunc i_len i_max i_min i_alloc i_makeSlice i_store i_append i_call i_pick boxI boxA buildSliceI buildSliceA makeSliceA allocA storeA p_move p_assign p_pick p_build p_load p_binOp p_unOp p_convert p_fieldAddr p_field p_indexAddr p_index p_extract p_slice p_nilCheck p_makeFunc p_len p_max p_min p_alloc p_box p_buildSlice p_makeSlice p_store p_append p_call x_nil x_go1 x_g0 x_g1 x_g2 x_g3 x_s0 x_s1 x_s2 x_s3 u_move u_assign u_pick u_build u_load u_binOp u_unOp u_convert u_fieldAddr u_field u_indexAddr u_index u_extract u_slice u_nilCheck u_makeFunc u_len u_buildSlice x_s4 x_g4 rq_normal rq_ret rq_exit aw_range
attribute [local go_sem] frzV_sl frzK_some set_none set_other AHeap.set_self set_del set_set cnd_t cnd_f cnd_b retA_one retA_two retA_three retA_four retA_nil gIf_b mrgV_b mrgV_wh mrgV_U gIf_U gIf_wh mrgB_f mrgB_some mrgB_if wh_true wh_false keepA_some keepA_if gD_zero gD_succ gT_some bxA_t bxA_f callA_fn ev_tmp ev_const ev_global ev_func oc_bool oc_int oc_string oc_nil oc_nilptr oc_nilfunc cl_bool cl_int cl_string cl_nil updO_some updO_none upd_same upd_other init_at pickA_b pickA_wh selA_t selA_f selA_and selA_or selA_orn selA_orm selA_bb selA_ii beqt b_add b_sub b_mul b_and b_or b_xor b_eql b_neq b_lss b_leq b_gtr b_geq b_quo b_rem b_shr b_seql b_sneq b_sadd b_beql b_bneq b_aeql b_aneq u_not u_neg isConstOp eqA eqCellV List.getD_cons_zero List.getD_cons_succ List.map_cons List.map_nil List.nil_append List.cons_append List.append_nil if_true if_false Option.map_some Option.map_none ne_eq not_false_eq_true oneA ldv ld1v ld1s wr1s ldRow stRow row_lit row_agg row_vsl row_sl row_ptr row_fn one_I one_B one_S one_vsl one_sl one_ptr one_fn extractA okA rI rS rU rClass rFault rExit rStart rLine Int.toNat_natCast List.length_cons List.length_nil List.length_map List.all_cons List.all_nil Bool.and_true Nat.zero_add List.getElem?_cons_zero List.getElem?_cons_succ List.take_succ_cons List.take_zero List.drop_succ_cons List.drop_zero and_self true_and and_true implies_true decide_eq_true_eq decide_eq_false_iff_not Bool.or_eq_true Bool.or_eq_false_iff Bool.and_eq_true Bool.not_eq_true' Bool.not_eq_false' beq_false decide_true decide_false Int.ofNat_lt Int.ofNat_le Int.natCast_nonneg Bool.or_true Bool.or_false Bool.true_or Bool.false_or beq_self_eq_true List.drop_one Bool.not_true Bool.not_false Bool.not_not Bool.false_eq_true Bool.true_eq_false false_implies true_implies Bool.true_and Bool.false_and Bool.and_false not_true_eq_false Int.natCast_eq_zero Int.natCast_pos Int.natCast_zero false_and and_false or_false false_or or_true true_or Bool.or_self none_le_iff List.replicate_zero Int.toNat_zero List.replicate_succ buildRows List.set_cons_zero List.set_cons_succ List.set_nil List.mapM_nil maxLen_eq Nat.zero_le Nat.mul_one Nat.one_mul bldA fillA spliceA List.take_nil List.drop_nil List.getElem?_nil ld1o wr1o bldSliceA le_same cv_i cvI_t quietT_fn qvd_some ld_o ldO_1 ldO_l wr_o wrO_1 set_2 set_3 set_4 putL_nil putL_cons List.zip_cons_cons List.zip_nil_left List.zip_nil_right List.toList_toArray frzV_set ti1 ti2 tk2 ti3 te3 ts3 tk3 tz3 ti4 tb4 ti5 tk5 tz5 ti9 te9 ts9 tk9 tz9 ti12 tk12 ti13 tp13 tf13_0 tf13_1 ti20 ti21 tk21 tz21 ti22 te22 tz22 ti23 te23 ti24 tp24 tf24_0 ti25 tp25 tf25_0 ti26 te26 ti27 tq27 tp27 tf27_0 tf27_1 tf27_2 ti28 tq28 tp28 tf28_0 tf28_1 tf28_2 ti30 ti31 te31 ti32 te32 ti33 tp33 tf33_0 ti34 tp34 tf34_0 ti35 tp35 tf35_0 tf35_1 tf35_2 tf35_3 ti36 tp36 tf36_0 tf36_1 tf36_2 tf36_3 ti37 ti38 ti39 ti40 tq40 tp40 tf40_0 tf40_1 tf40_2 ti41 tq41 tp41 tf41_0 tf41_1 tf41_2 ti42 ti43 ti44 ti45 ti47 ti48 ti49 ti50 ti51 ti52 ti53 ti54 ti55 tp55 tf55_0 tf55_1 ti56 tp56 tf56_0 tf56_1 ti57 ti58 ti59 ti60 ti61 ti62 ti63 ti64 ti65 ti66 ti67 tq67 tp67 tf67_0 tf67_1 ti68 tq68 tp68 tf68_0 tf68_1 ti69 tq69 tp69 tf69_0 tf69_1 tf69_2 tf69_3 tf69_4 ti70 tq70 tp70 tf70_0 tf70_1 tf70_2 tf70_3 tf70_4 ti71 ti72 tp72 tf72_0 tf72_1 tf72_2 ti73 tp73 tf73_0 tf73_1 tf73_2 ti74 ti75 ti77 ti78 tq78 tp78 tf78_0 tf78_1 ti79 tq79 tp79 tf79_0 tf79_1 ti80 ti81 ti82 ti83 ti84 ti85 te85 ti86 ti87 te87 ti88 tp88 tf88_0 tf88_1 tf88_2 tf88_3 tf88_4 ti89 tp89 tf89_0 tf89_1 tf89_2 tf89_3 tf89_4 ti90 ti91 ti92 ti93 ti94 ti95 ti96 ti97 ti98 ti99 ti100 ti101 ti102 ti103 ti104 ti105 ti106 ti107 ti108 ti109 ti110 ti111 ti112 ti113 ti114 ti115 ti116 tk116 tz116 ti117 ti118 tk118 ti120 ti121 ti122 ti124 ti125 ti126 tk126 tz126 ti127 ti128 tk128 tz128 ti129 tk129 ti130 ti131 ti132 ti133 ti134 ti135 ti137 ti138 ti144 ti148 ti153 ti154 tq154 tp154 tf154_0 tf154_1 tf154_2 tf154_3 ti155 tq155 tp155 tf155_0 tf155_1 tf155_2 tf155_3 ti157 fp13_0 fv13_0 fp13_1 fv13_1 fp24_0 fv24_0 fp25_0 fv25_0 fp27_0 fv27_0 fp27_1 fv27_1 fp27_2 fv27_2 fp28_0 fv28_0 fp28_1 fv28_1 fp28_2 fv28_2 fp33_0 fv33_0 fp34_0 fv34_0 fp35_0 fv35_0 fp35_1 fv35_1 fp35_2 fv35_2 fp35_3 fv35_3 fp36_0 fv36_0 fp36_1 fv36_1 fp36_2 fv36_2 fp36_3 fv36_3 fp40_0 fv40_0 fp40_1 fv40_1 fp40_2 fv40_2 fp41_0 fv41_0 fp41_1 fv41_1 fp41_2 fv41_2 fp55_0 fv55_0 fp55_1 fv55_1 fp56_0 fv56_0 fp56_1 fv56_1 fp67_0 fv67_0 fp67_1 fv67_1 fp68_0 fv68_0 fp68_1 fv68_1 fp69_0 fv69_0 fp69_1 fv69_1 fp69_2 fv69_2 fp69_3 fv69_3 fp69_4 fv69_4 fp70_0 fv70_0 fp70_1 fv70_1 fp70_2 fv70_2 fp70_3 fv70_3 fp70_4 fv70_4 fp72_0 fv72_0 fp72_1 fv72_1 fp72_2 fv72_2 fp73_0 fv73_0 fp73_1 fv73_1 fp73_2 fv73_2 fp78_0 fv78_0 fp78_1 fv78_1 fp79_0 fv79_0 fp79_1 fv79_1 fp88_0 fv88_0 fp88_1 fv88_1 fp88_2 fv88_2 fp88_3 fv88_3 fp88_4 fv88_4 fp89_0 fv89_0 fp89_1 fv89_1 fp89_2 fv89_2 fp89_3 fv89_3 fp89_4 fv89_4 fp154_0 fv154_0 fp154_1 fv154_1 fp154_2 fv154_2 fp154_3 fv154_3 fp155_0 fv155_0 fp155_1 fv155_1 fp155_2 fv155_2 fp155_3 fv155_3 lv22 ll22 is22 ix22 sh22 so22 sb22 sm22 sp22 lv23 ll23 is23 ix23 sh23 so23 sb23 sm23 sp23 lv26 ll26 is26 ix26 sh26 so26 sb26 sm26 sp26 lv31 ll31 is31 ix31 sh31 so31 sb31 sm31 sp31 lv32 ll32 is32 ix32 sh32 so32 sb32 sm32 sp32 lv85 ll85 is85 ix85 sh85 so85 sb85 sm85 sp85 lv87 ll87 is87 ix87 sh87 so87 sb87 sm87 sp87 xs9 ls9 sx9 sy9 sz9

def mostF (l : List Exi) : List Exi := l.filter fun e => decide (e.kind = 0 ∨ e.kind = 1)
theorem most_take {l : List Exi} {k : Nat} (h : k < l.length) : mostF (l.take (k + 1)) = mostF (l.take k) ++ (if (l.getD k default).kind = 0 ∨ (l.getD k default).kind = 1 then [l.getD k default] else []) := by
  have e : l.getD k default = l[k] := by simp [List.getD_eq_getElem?_getD, h]
  rw [List.take_succ_eq_append_getElem h, mostF, List.filter_append, e, mostF]
  congr 1
  by_cases c : l[k].kind = 0 ∨ l[k].kind = 1 <;> simp [c]
theorem most_le (l : List Exi) : (mostF l).length ≤ l.length := List.length_filter_le ..
theorem fold_calls (t : List Class) : ∀ (m : List Exi) (s : Clo), (∀ e ∈ m, e.kind = 0) → m.foldl (stepX t) s = { s with log := s.log ++ m.map (·.a) }
  | [], s, _ => by simp
  | e :: m, s, h => by
    rw [List.foldl_cons, fold_calls t m _ (fun a ha => h a (List.mem_cons_of_mem _ ha))]
    have : stepX t s e = { s with log := s.log ++ [e.a] } := by unfold stepX; rw [if_pos (h e (List.mem_cons_self ..))]
    rw [this]
    simp
theorem res_log (s : Clo) : (resX s).log = s.log := by unfold resX; split <;> rfl
theorem start_log (x : Sta) : (startX x).log = [] := by unfold startX; split <;> rfl
theorem calls_kind {l : List Exi} : ∀ e ∈ callsF l, e.kind = 0 := fun e he => by simpa using (List.mem_filter.1 he).2
theorem calls_log (t : List Class) (l : List Exi) (x : Sta) : (resX (closeX t (callsF l) x)).log = (callsF l).reverse.map (·.a) := by
  rw [res_log, closeX, fold_calls t _ _ (fun e he => calls_kind e (List.mem_reverse.1 he)), start_log, List.nil_append]
theorem step_log (t : List Class) (s : Clo) (e : Exi) : s.log.length + (callsF [e]).length ≤ (stepX t s e).log.length ∧ (stepX t s e).log.length ≤ s.log.length + (mostF [e]).length := by
  unfold stepX callsF mostF
  by_cases c0 : e.kind = 0
  · simp [c0]
  · by_cases c1 : e.kind = 1
    · rw [if_neg c0, if_pos c1]
      by_cases c : 0 ≤ s.cur <;> simp [c, c1]
    · rw [if_neg c0, if_neg c1]
      have q1 : (List.filter (fun e => decide (e.kind = 0)) [e]).length = 0 := by simp [c0]
      have q2 : (List.filter (fun e => decide (e.kind = 0 ∨ e.kind = 1)) [e]).length = 0 := by simp [c0, c1]
      rw [q1, q2]
      split
      · split <;> exact ⟨Nat.le_refl _, Nat.le_refl _⟩
      · split <;> exact ⟨Nat.le_refl _, Nat.le_refl _⟩
theorem fold_log (t : List Class) : ∀ (m : List Exi) (s : Clo), s.log.length + (callsF m).length ≤ (m.foldl (stepX t) s).log.length ∧ (m.foldl (stepX t) s).log.length ≤ s.log.length + (mostF m).length
  | [], s => by simp [callsF, mostF]
  | e :: m, s => by
    obtain ⟨h1, h2⟩ := step_log t s e
    obtain ⟨h3, h4⟩ := fold_log t m (stepX t s e)
    have e1 : (callsF (e :: m)).length = (callsF [e]).length + (callsF m).length := by rw [← List.length_append]; simp only [callsF, ← List.filter_append]; rfl
    have e2 : (mostF (e :: m)).length = (mostF [e]).length + (mostF m).length := by rw [← List.length_append]; simp only [mostF, ← List.filter_append]; rfl
    rw [List.foldl_cons]
    omega
theorem close_log (t : List Class) (l : List Exi) (x : Sta) : (callsF l).length ≤ (resX (closeX t l x)).log.length ∧ (resX (closeX t l x)).log.length ≤ (mostF l).length := by
  rw [res_log]
  have h := fold_log t l.reverse (startX x)
  rw [start_log] at h
  have e1 : (callsF l.reverse).length = (callsF l).length := by rw [calls_rev, List.length_reverse]
  have e2 : (mostF l.reverse).length = (mostF l).length := by simp [mostF, List.filter_reverse]
  rw [e1, e2] at h
  simpa [closeX] using h
theorem calls_valid {t : List Class} {l : List Exi} (h : validX t l = true) : validX t (callsF l) = true := by
  have := calls_le l
  simp only [validX, Bool.and_eq_true, decide_eq_true_eq, List.all_eq_true] at h ⊢
  exact ⟨⟨h.1.1, by omega⟩, fun e he => h.2 e (List.mem_filter.1 he).1⟩
theorem iwrap {a b : Int} (h : a = b) (h1 : -9223372036854775808 ≤ b) (h2 : b < 9223372036854775808) : IntKind.i64.wrap a = b := by
  have := I_wrap h h1 h2
  injection this with q
  injection q
theorem rev_at {m : List Exi} {i : Nat} (h : i < m.length) : (m.reverse.map (·.a)).getD i default = (m.getD (m.length - 1 - i) default).a := by
  have h2 : m.length - 1 - i < m.length := by omega
  simp [List.getD_eq_getElem?_getD, h, h2, List.getElem?_map, List.getElem?_reverse]
theorem c_Calls (bs : List UInt8) (cb : Bool) (H : AHeap) : ACalls Try.prog 4 [.vsl (bs.map rU) cb] H fun r H' => r = B true ∧ H' = H := by
  refine acalls_of1 Try.func4 rfl (by kernel_rfl) rfl rfl (awp_sound (fz := fun _ => []) (im := fun s => s == 84 || s == 102) mixed _ _ _ _ (by kernel_rfl) ?_)
  simp +contextual -dsimp -implicitDefEqProofs (maxSteps := 5000000) only [go_sem, reduceIte, reduceCtorEq, Nat.reduceEqDiff, Nat.reduceBEq, Nat.reduceAdd, Nat.reduceLeDiff, Nat.reduceMul, Nat.reduceLT, Int.reduceEq, Int.reduceLT, Int.reduceLE]
  refine ⟨fun hbig => ?_, fun hsmall => ?_⟩
  · refine retR_less (l := [B true]) (H' := H) ?_ (AHeap.le_refl _) ⟨rfl, rfl⟩
    simp only [resA, go_sem, reduceIte, reduceCtorEq, Nat.reduceEqDiff, Nat.reduceBEq, Nat.reduceAdd, Nat.reduceLeDiff, Nat.reduceMul, Nat.reduceLT, Int.reduceEq, Int.reduceLT, Int.reduceLE]
  refine (c_DrawCloseExits H bs cb).mono ?_
  rintro _ H1 ⟨t, cl, l, cl', ⟨xh, xc, xo⟩, rfl, hH, hs, ht8, hl8⟩
  rw [hH]
  have hn := short_ok hs
  simp +contextual -dsimp -implicitDefEqProofs (maxSteps := 5000000) only [go_sem, reduceIte, reduceCtorEq, Nat.reduceEqDiff, Nat.reduceBEq, Nat.reduceAdd, Nat.reduceLeDiff, Nat.reduceMul, Nat.reduceLT, Int.reduceEq, Int.reduceLT, Int.reduceLE]
  rintro b3 h3 b5 ⟨p1, p2, h5⟩
  refine (c_mCloseExitsF t cl l cl' ⟨xh, xc, xo⟩ _ hn).mono ?_
  rintro _ _ ⟨⟨c1, c2, rfl⟩, rfl⟩
  generalize hR : (if (validX t l && startOk t ⟨xh, xc, xo⟩) = true then resX (closeX t l ⟨xh, xc, xo⟩) else res0) = R
  simp +contextual -dsimp -implicitDefEqProofs (maxSteps := 5000000) only [go_sem, reduceIte, reduceCtorEq, Nat.reduceEqDiff, Nat.reduceBEq, Nat.reduceAdd, Nat.reduceLeDiff, Nat.reduceMul, Nat.reduceLT, Int.reduceEq, Int.reduceLT, Int.reduceLE, p1, p2]
  rintro b6 ⟨q1, q2, q3, q4, h6⟩
  refine draw_intro [1, 0, 0, 0, 3, 2, 0, 0, 0, 0, 2, 0, 0, 0, 0, 0, 0, 0, 0, 0, 2, 0, 0, 0, 0, 0, 0, 0, 0, 0, 0, 0, 0, 0, 0, 0, 0, 0, 0, 0, 0, 0, 0, 0, 0, 0, 0, 0, 0, 0, 0, 0, 0] _ (by kernel_rfl) (AHeap.le_refl _) ?_
  simp +contextual -dsimp -implicitDefEqProofs (maxSteps := 5000000) only [go_sem, reduceIte, reduceCtorEq, Nat.reduceEqDiff, Nat.reduceBEq, Nat.reduceAdd, Nat.reduceLeDiff, Nat.reduceMul, Nat.reduceLT, Int.reduceEq, Int.reduceLT, Int.reduceLE, p1, p2, q1, q2, q3, q4]
  refine (c_sCloseExits t cl l cl' ⟨_, xc, xo⟩ _ hn).mono ?_
  rintro _ _ ⟨⟨c3, c4, rfl⟩, rfl⟩
  rw [hR]
  simp +contextual -dsimp -implicitDefEqProofs (maxSteps := 5000000) only [go_sem, reduceIte, reduceCtorEq, Nat.reduceEqDiff, Nat.reduceBEq, Nat.reduceAdd, Nat.reduceLeDiff, Nat.reduceMul, Nat.reduceLT, Int.reduceEq, Int.reduceLT, Int.reduceLE, p1, p2, q1, q2, q3, q4]
  refine (c_equalResult R R _ _ _ _ _).det ?_
  rw [resEq_refl]
  simp +contextual -dsimp -implicitDefEqProofs (maxSteps := 5000000) only [go_sem, reduceIte, reduceCtorEq, Nat.reduceEqDiff, Nat.reduceBEq, Nat.reduceAdd, Nat.reduceLeDiff, Nat.reduceMul, Nat.reduceLT, Int.reduceEq, Int.reduceLT, Int.reduceLE, p1, p2, q1, q2, q3, q4]
  refine (c_ValidExits t cl l cl' _ hn).det ?_
  have le3 : ∀ K3 K5 K6, AHeap.le H (((H.set b3 K3).set b5 K5).set b6 K6) := fun _ _ _ => le_s1 (le_s1 (le_s1 (AHeap.le_refl _) h3) h5) h6
  cases hv : validX t l
  · simp +contextual -dsimp -implicitDefEqProofs (maxSteps := 5000000) only [go_sem, reduceIte, reduceCtorEq, Nat.reduceEqDiff, Nat.reduceBEq, Nat.reduceAdd, Nat.reduceLeDiff, Nat.reduceMul, Nat.reduceLT, Int.reduceEq, Int.reduceLT, Int.reduceLE, p1, p2, q1, q2, q3, q4]
    refine draw_intro [1, 0, 0, 0, 3, 2, 0] _ (by kernel_rfl) (AHeap.le_refl _) ?_
    simp +contextual -dsimp -implicitDefEqProofs (maxSteps := 5000000) only [go_sem, reduceIte, reduceCtorEq, Nat.reduceEqDiff, Nat.reduceBEq, Nat.reduceAdd, Nat.reduceLeDiff, Nat.reduceMul, Nat.reduceLT, Int.reduceEq, Int.reduceLT, Int.reduceLE, p1, p2, q1, q2, q3, q4]
    refine (c_sCloseExits t cl l cl' ⟨_, xc, xo⟩ _ hn).mono ?_
    rintro _ _ ⟨⟨c3, c4, rfl⟩, rfl⟩
    rw [hR]
    simp +contextual -dsimp -implicitDefEqProofs (maxSteps := 5000000) only [go_sem, reduceIte, reduceCtorEq, Nat.reduceEqDiff, Nat.reduceBEq, Nat.reduceAdd, Nat.reduceLeDiff, Nat.reduceMul, Nat.reduceLT, Int.reduceEq, Int.reduceLT, Int.reduceLE, p1, p2, q1, q2, q3, q4]
    refine (c_equalResult R R _ _ _ _ _).det ?_
    rw [resEq_refl]
    simp +contextual -dsimp -implicitDefEqProofs (maxSteps := 5000000) only [go_sem, reduceIte, reduceCtorEq, Nat.reduceEqDiff, Nat.reduceBEq, Nat.reduceAdd, Nat.reduceLeDiff, Nat.reduceMul, Nat.reduceLT, Int.reduceEq, Int.reduceLT, Int.reduceLE, p1, p2, q1, q2, q3, q4]
    refine retR_less (l := [B true]) (H' := H) ?_ (le3 _ _ _) ⟨rfl, rfl⟩
    simp only [resA, go_sem, reduceIte, reduceCtorEq, Nat.reduceEqDiff, Nat.reduceBEq, Nat.reduceAdd, Nat.reduceLeDiff, Nat.reduceMul, Nat.reduceLT, Int.reduceEq, Int.reduceLT, Int.reduceLE]
  · cases xh
    · simp +contextual -dsimp -implicitDefEqProofs (maxSteps := 5000000) only [go_sem, reduceIte, reduceCtorEq, Nat.reduceEqDiff, Nat.reduceBEq, Nat.reduceAdd, Nat.reduceLeDiff, Nat.reduceMul, Nat.reduceLT, Int.reduceEq, Int.reduceLT, Int.reduceLE, p1, p2, q1, q2, q3, q4]
      refine ⟨fun hb => ?_, fun hb => ?_⟩
      · skip
        refine draw_intro [1, 0, 0, 0, 3, 2, 0] _ (by kernel_rfl) (AHeap.le_refl _) ?_
        simp +contextual -dsimp -implicitDefEqProofs (maxSteps := 5000000) only [go_sem, reduceIte, reduceCtorEq, Nat.reduceEqDiff, Nat.reduceBEq, Nat.reduceAdd, Nat.reduceLeDiff, Nat.reduceMul, Nat.reduceLT, Int.reduceEq, Int.reduceLT, Int.reduceLE, p1, p2, q1, q2, q3, q4]
        refine (c_sCloseExits t cl l cl' ⟨_, xc, xo⟩ _ hn).mono ?_
        rintro _ _ ⟨⟨c3, c4, rfl⟩, rfl⟩
        rw [hR]
        simp +contextual -dsimp -implicitDefEqProofs (maxSteps := 5000000) only [go_sem, reduceIte, reduceCtorEq, Nat.reduceEqDiff, Nat.reduceBEq, Nat.reduceAdd, Nat.reduceLeDiff, Nat.reduceMul, Nat.reduceLT, Int.reduceEq, Int.reduceLT, Int.reduceLE, p1, p2, q1, q2, q3, q4]
        refine (c_equalResult R R _ _ _ _ _).det ?_
        rw [resEq_refl]
        simp +contextual -dsimp -implicitDefEqProofs (maxSteps := 5000000) only [go_sem, reduceIte, reduceCtorEq, Nat.reduceEqDiff, Nat.reduceBEq, Nat.reduceAdd, Nat.reduceLeDiff, Nat.reduceMul, Nat.reduceLT, Int.reduceEq, Int.reduceLT, Int.reduceLE, p1, p2, q1, q2, q3, q4]
        refine retR_less (l := [B true]) (H' := H) ?_ (le3 _ _ _) ⟨rfl, rfl⟩
        simp only [resA, go_sem, reduceIte, reduceCtorEq, Nat.reduceEqDiff, Nat.reduceBEq, Nat.reduceAdd, Nat.reduceLeDiff, Nat.reduceMul, Nat.reduceLT, Int.reduceEq, Int.reduceLT, Int.reduceLE]
      · have hst : startOk t ⟨false, xc, xo⟩ = true := by simp [startOk]; omega
        refine sim_endfrz ?_
        refine aloop mixed (fz := fun r => if r = 3 then [3, 5] else if r = 4 then [6] else if r = 16 then [10] else []) (im := fun s => s == 84 || s == 102) (by kernel_rfl) (fun m tm H' => ∃ (k : Nat) (y : AV), m = l.length - k ∧ k ≤ l.length ∧ Grow rExit 3 41 (((H.set b3 ⟨1, 25, [[.vsl (t.map rClass) cl]]⟩).set b5 ⟨3, 28, [[B _, I xc, I xo]]⟩).set b6 ⟨4, 36, [[.vsl (R.log.map rI) c1, I R.ed, I R.val, .vsl (R.heap.map rFault) c2]]⟩) H' y (callsF (l.take k)) ∧ tm 3 = .ptr b3 1 0 0 ∧ tm 4 = .vsl (l.map rExit) cl' ∧ tm 5 = .ptr b5 3 0 0 ∧ tm 6 = .ptr b6 4 0 0 ∧ tm 7 = y ∧ tm 8 = I (mostF (l.take k)).length ∧ tm 9 = I k) l.length ⟨0, _, by omega, by omega, grow_nil, ?_⟩ ?_
        · simp +contextual -dsimp -implicitDefEqProofs (maxSteps := 5000000) only [go_sem, reduceIte, reduceCtorEq, Nat.reduceEqDiff, Nat.reduceBEq, Nat.reduceAdd, Nat.reduceLeDiff, Nat.reduceMul, Nat.reduceLT, Int.reduceEq, Int.reduceLT, Int.reduceLE]
          rfl
        · rintro m tm G ⟨k, y, rfl, hk, hg, h3', h4, h5', h6', h7, h8, h9⟩
          by_cases hlt : k < l.length
          · have hml := most_le (l.take k)
            have hcl := calls_le (l.take k)
            rw [List.length_take] at hml hcl
            by_cases h0 : (l.getD k default).kind = 0
            · simp +contextual -dsimp -implicitDefEqProofs (maxSteps := 5000000) only [go_sem, reduceIte, reduceCtorEq, Nat.reduceEqDiff, Nat.reduceBEq, Nat.reduceAdd, Nat.reduceLeDiff, Nat.reduceMul, Nat.reduceLT, Int.reduceEq, Int.reduceLT, Int.reduceLE, h3', h4, h5', h6', h7, h8, h9, hlt, h0]
              refine grow_append (m := [l.getD k default]) te26 ti41 rExit_len (by decide) hg (by simp; omega) (by simp; omega) (by rw [List.map_cons, List.map_nil, rExit, h0]) fun y' G' hg' => ?_
              simp +contextual -dsimp -implicitDefEqProofs (maxSteps := 5000000) only [go_sem, reduceIte, reduceCtorEq, Nat.reduceEqDiff, Nat.reduceBEq, Nat.reduceAdd, Nat.reduceLeDiff, Nat.reduceMul, Nat.reduceLT, Int.reduceEq, Int.reduceLT, Int.reduceLE, h3', h4, h5', h6', h7, h8, h9, hlt, h0]
              exact ⟨_, by omega, k + 1, y', rfl, hlt, by rw [calls_take hlt, if_pos h0]; exact hg', rfl, by rw [most_take hlt, if_pos (.inl h0), List.length_append, List.length_singleton]; exact I_wrap (by omega) (by omega) (by omega), I_wrap (by omega) (by omega) (by omega)⟩
            · simp +contextual -dsimp -implicitDefEqProofs (maxSteps := 5000000) only [go_sem, reduceIte, reduceCtorEq, Nat.reduceEqDiff, Nat.reduceBEq, Nat.reduceAdd, Nat.reduceLeDiff, Nat.reduceMul, Nat.reduceLT, Int.reduceEq, Int.reduceLT, Int.reduceLE, h3', h4, h5', h6', h7, h8, h9, hlt, h0]
              refine ⟨fun h1 => ⟨_, by omega, k + 1, y, rfl, hlt, by rw [calls_take hlt, if_neg h0, List.append_nil]; exact hg, rfl, by rw [most_take hlt, if_pos (.inr h1), List.length_append, List.length_singleton]; exact I_wrap (by omega) (by omega) (by omega), I_wrap (by omega) (by omega) (by omega)⟩, fun h1 => ⟨_, by omega, k + 1, y, rfl, hlt, by rw [calls_take hlt, if_neg h0, List.append_nil]; exact hg, rfl, by rw [most_take hlt, if_neg (fun q => q.elim h0 h1), List.append_nil], I_wrap (by omega) (by omega) (by omega)⟩⟩
          · simp +contextual -dsimp -implicitDefEqProofs (maxSteps := 5000000) only [go_sem, reduceIte, reduceCtorEq, Nat.reduceEqDiff, Nat.reduceBEq, Nat.reduceAdd, Nat.reduceLeDiff, Nat.reduceMul, Nat.reduceLT, Int.reduceEq, Int.reduceLT, Int.reduceLE, h3', h4, h5', h6', h7, h8, h9, hlt]
            have hkl : k = l.length := by omega
            subst hkl
            rw [List.take_length] at hg h8
            refine grow_end 7 (l := callsF l) (by show Grow _ _ _ _ G (tm 7) _; rw [h7]; exact hg) fun clx => ?_
            simp +contextual -dsimp -implicitDefEqProofs (maxSteps := 5000000) only [go_sem, reduceIte, reduceCtorEq, Nat.reduceEqDiff, Nat.reduceBEq, Nat.reduceAdd, Nat.reduceLeDiff, Nat.reduceMul, Nat.reduceLT, Int.reduceEq, Int.reduceLT, Int.reduceLE, h3', h4, h5', h6', h7, h8, h9, p1, p2, q1, q2, q3, q4]
            refine (c_mCloseExitsF t cl (callsF l) clx ⟨false, xc, xo⟩ _ hn).mono ?_
            rintro _ _ ⟨⟨c5, c6, rfl⟩, rfl⟩
            rw [if_pos (by rw [calls_valid hv, hst]; rfl)]
            have e2 := calls_log t l ⟨false, xc, xo⟩
            have e1 := close_log t l ⟨false, xc, xo⟩
            rw [if_pos (by rw [hv, hst]; rfl)] at hR
            rw [hR] at e1
            generalize hR2 : resX (closeX t (callsF l) ⟨false, xc, xo⟩) = R2 at e2 ⊢
            simp +contextual -dsimp -implicitDefEqProofs (maxSteps := 5000000) only [go_sem, reduceIte, reduceCtorEq, Nat.reduceEqDiff, Nat.reduceBEq, Nat.reduceAdd, Nat.reduceLeDiff, Nat.reduceMul, Nat.reduceLT, Int.reduceEq, Int.reduceLT, Int.reduceLE, h3', h4, h5', h6', h7, h8, h9, p1, p2, q1, q2, q3, q4]
            rintro b10 ⟨r1, r2, r3, r4, r5, r6, h10⟩
            have hlen : R2.log.length = (callsF l).length := by rw [e2]; simp
            have hcl8 := calls_le l
            refine aloop mixed (fz := fun r => if r = 3 then [3, 5] else if r = 4 then [6] else if r = 16 then [10] else []) (im := fun s => s == 84 || s == 102) (by kernel_rfl) (fun m tm H' => ∃ i : Nat, m = (callsF l).length - i ∧ i ≤ (callsF l).length ∧ H' = (((H.set b3 ⟨1, 25, [[.vsl (t.map rClass) cl]]⟩).set b5 ⟨3, 28, [[B _, I xc, I xo]]⟩).set b6 ⟨4, 36, [[.vsl (R.log.map rI) c1, I R.ed, I R.val, .vsl (R.heap.map rFault) c2]]⟩).set b10 ⟨4, 36, [[.vsl (R2.log.map rI) c5, I R2.ed, I R2.val, .vsl (R2.heap.map rFault) c6]]⟩ ∧ tm 6 = .ptr b6 4 0 0 ∧ tm 7 = .vsl ((callsF l).map rExit) clx ∧ tm 8 = I (mostF l).length ∧ tm 10 = .ptr b10 4 0 0 ∧ tm 11 = I i) (callsF l).length ⟨0, by omega, by omega, rfl, ?_⟩ ?_
            · simp +contextual -dsimp -implicitDefEqProofs (maxSteps := 5000000) only [go_sem, reduceIte, reduceCtorEq, Nat.reduceEqDiff, Nat.reduceBEq, Nat.reduceAdd, Nat.reduceLeDiff, Nat.reduceMul, Nat.reduceLT, Int.reduceEq, Int.reduceLT, Int.reduceLE, h3', h4, h5', h6', h7, h8, h9]
            · rintro m tm _ ⟨i, rfl, hi, rfl, g6, g7, g8, g10, g11⟩
              by_cases hlt : i < (callsF l).length
              · simp +contextual -dsimp -implicitDefEqProofs (maxSteps := 5000000) only [go_sem, reduceIte, reduceCtorEq, Nat.reduceEqDiff, Nat.reduceBEq, Nat.reduceAdd, Nat.reduceLeDiff, Nat.reduceMul, Nat.reduceLT, Int.reduceEq, Int.reduceLT, Int.reduceLE, g6, g7, g8, g10, g11, hlt]
                refine draw_intro [0, 0, 0, 0, 0, 0, 0, 0, 0, 0, 0, 0, 0, 0, 0] _ (by kernel_rfl) (AHeap.le_refl _) ?_
                simp +contextual -dsimp -implicitDefEqProofs (maxSteps := 5000000) only [go_sem, reduceIte, reduceCtorEq, Nat.reduceEqDiff, Nat.reduceBEq, Nat.reduceAdd, Nat.reduceLeDiff, Nat.reduceMul, Nat.reduceLT, Int.reduceEq, Int.reduceLT, Int.reduceLE, g6, g7, g8, g10, g11, hlt, hlen, r1, r2, r3, r4, r5, r6]
                have hw : IntKind.i64.wrap (IntKind.i64.wrap ((callsF l).length - 1) - i) = (((callsF l).length - 1 - i : Nat) : Int) := by
                  rw [iwrap (b := ((callsF l).length : Int) - 1) rfl (by omega) (by omega)]
                  exact iwrap (by omega) (by omega) (by omega)
                have hat : R2.log.getD i default = ((callsF l).getD ((callsF l).length - 1 - i) default).a := by rw [e2]; exact rev_at hlt
                rw [hw, Int.toNat_natCast]
                refine ⟨⟨by omega, by omega⟩, by omega, fun hne => absurd hat hne, fun _ => ⟨_, by omega, i + 1, rfl, hlt, I_wrap (by omega) (by omega) (by omega)⟩⟩
              · simp +contextual -dsimp -implicitDefEqProofs (maxSteps := 5000000) only [go_sem, reduceIte, reduceCtorEq, Nat.reduceEqDiff, Nat.reduceBEq, Nat.reduceAdd, Nat.reduceLeDiff, Nat.reduceMul, Nat.reduceLT, Int.reduceEq, Int.reduceLT, Int.reduceLE, g6, g7, g8, g10, g11, hlt, hlen, r1, r2, r3, r4, r5, r6, p1, p2, q1, q2, q3, q4]
                refine retR_less (l := [B true]) (H' := H) ?_ (le_s1 (le3 _ _ _) h10) ⟨rfl, rfl⟩
                simp only [resA, go_sem, reduceIte, reduceCtorEq, Nat.reduceEqDiff, Nat.reduceBEq, Nat.reduceAdd, Nat.reduceLeDiff, Nat.reduceMul, Nat.reduceLT, Int.reduceEq, Int.reduceLT, Int.reduceLE]
                simp
                omega
    · simp +contextual -dsimp -implicitDefEqProofs (maxSteps := 5000000) only [go_sem, reduceIte, reduceCtorEq, Nat.reduceEqDiff, Nat.reduceBEq, Nat.reduceAdd, Nat.reduceLeDiff, Nat.reduceMul, Nat.reduceLT, Int.reduceEq, Int.reduceLT, Int.reduceLE, p1, p2, q1, q2, q3, q4]
      refine (c_lawsHas t cl xc _).det ?_
      cases hh : hasF t xc
      · simp +contextual -dsimp -implicitDefEqProofs (maxSteps := 5000000) only [go_sem, reduceIte, reduceCtorEq, Nat.reduceEqDiff, Nat.reduceBEq, Nat.reduceAdd, Nat.reduceLeDiff, Nat.reduceMul, Nat.reduceLT, Int.reduceEq, Int.reduceLT, Int.reduceLE, p1, p2, q1, q2, q3, q4]
        refine draw_intro [1, 0, 0, 0, 3, 2, 0] _ (by kernel_rfl) (AHeap.le_refl _) ?_
        simp +contextual -dsimp -implicitDefEqProofs (maxSteps := 5000000) only [go_sem, reduceIte, reduceCtorEq, Nat.reduceEqDiff, Nat.reduceBEq, Nat.reduceAdd, Nat.reduceLeDiff, Nat.reduceMul, Nat.reduceLT, Int.reduceEq, Int.reduceLT, Int.reduceLE, p1, p2, q1, q2, q3, q4]
        refine (c_sCloseExits t cl l cl' ⟨_, xc, xo⟩ _ hn).mono ?_
        rintro _ _ ⟨⟨c3, c4, rfl⟩, rfl⟩
        rw [hR]
        simp +contextual -dsimp -implicitDefEqProofs (maxSteps := 5000000) only [go_sem, reduceIte, reduceCtorEq, Nat.reduceEqDiff, Nat.reduceBEq, Nat.reduceAdd, Nat.reduceLeDiff, Nat.reduceMul, Nat.reduceLT, Int.reduceEq, Int.reduceLT, Int.reduceLE, p1, p2, q1, q2, q3, q4]
        refine (c_equalResult R R _ _ _ _ _).det ?_
        rw [resEq_refl]
        simp +contextual -dsimp -implicitDefEqProofs (maxSteps := 5000000) only [go_sem, reduceIte, reduceCtorEq, Nat.reduceEqDiff, Nat.reduceBEq, Nat.reduceAdd, Nat.reduceLeDiff, Nat.reduceMul, Nat.reduceLT, Int.reduceEq, Int.reduceLT, Int.reduceLE, p1, p2, q1, q2, q3, q4]
        refine retR_less (l := [B true]) (H' := H) ?_ (le3 _ _ _) ⟨rfl, rfl⟩
        simp only [resA, go_sem, reduceIte, reduceCtorEq, Nat.reduceEqDiff, Nat.reduceBEq, Nat.reduceAdd, Nat.reduceLeDiff, Nat.reduceMul, Nat.reduceLT, Int.reduceEq, Int.reduceLT, Int.reduceLE]
      · simp +contextual -dsimp -implicitDefEqProofs (maxSteps := 5000000) only [go_sem, reduceIte, reduceCtorEq, Nat.reduceEqDiff, Nat.reduceBEq, Nat.reduceAdd, Nat.reduceLeDiff, Nat.reduceMul, Nat.reduceLT, Int.reduceEq, Int.reduceLT, Int.reduceLE, p1, p2, q1, q2, q3, q4]
        refine ⟨fun hb => ?_, fun hb => ?_⟩
        · skip
          refine draw_intro [1, 0, 0, 0, 3, 2, 0] _ (by kernel_rfl) (AHeap.le_refl _) ?_
          simp +contextual -dsimp -implicitDefEqProofs (maxSteps := 5000000) only [go_sem, reduceIte, reduceCtorEq, Nat.reduceEqDiff, Nat.reduceBEq, Nat.reduceAdd, Nat.reduceLeDiff, Nat.reduceMul, Nat.reduceLT, Int.reduceEq, Int.reduceLT, Int.reduceLE, p1, p2, q1, q2, q3, q4]
          refine (c_sCloseExits t cl l cl' ⟨_, xc, xo⟩ _ hn).mono ?_
          rintro _ _ ⟨⟨c3, c4, rfl⟩, rfl⟩
          rw [hR]
          simp +contextual -dsimp -implicitDefEqProofs (maxSteps := 5000000) only [go_sem, reduceIte, reduceCtorEq, Nat.reduceEqDiff, Nat.reduceBEq, Nat.reduceAdd, Nat.reduceLeDiff, Nat.reduceMul, Nat.reduceLT, Int.reduceEq, Int.reduceLT, Int.reduceLE, p1, p2, q1, q2, q3, q4]
          refine (c_equalResult R R _ _ _ _ _).det ?_
          rw [resEq_refl]
          simp +contextual -dsimp -implicitDefEqProofs (maxSteps := 5000000) only [go_sem, reduceIte, reduceCtorEq, Nat.reduceEqDiff, Nat.reduceBEq, Nat.reduceAdd, Nat.reduceLeDiff, Nat.reduceMul, Nat.reduceLT, Int.reduceEq, Int.reduceLT, Int.reduceLE, p1, p2, q1, q2, q3, q4]
          refine retR_less (l := [B true]) (H' := H) ?_ (le3 _ _ _) ⟨rfl, rfl⟩
          simp only [resA, go_sem, reduceIte, reduceCtorEq, Nat.reduceEqDiff, Nat.reduceBEq, Nat.reduceAdd, Nat.reduceLeDiff, Nat.reduceMul, Nat.reduceLT, Int.reduceEq, Int.reduceLT, Int.reduceLE]
        · have hst : startOk t ⟨true, xc, xo⟩ = true := by simp [startOk, hh, inR]; omega
          refine sim_endfrz ?_
          refine aloop mixed (fz := fun r => if r = 3 then [3, 5] else if r = 4 then [6] else if r = 16 then [10] else []) (im := fun s => s == 84 || s == 102) (by kernel_rfl) (fun m tm H' => ∃ (k : Nat) (y : AV), m = l.length - k ∧ k ≤ l.length ∧ Grow rExit 3 41 (((H.set b3 ⟨1, 25, [[.vsl (t.map rClass) cl]]⟩).set b5 ⟨3, 28, [[B _, I xc, I xo]]⟩).set b6 ⟨4, 36, [[.vsl (R.log.map rI) c1, I R.ed, I R.val, .vsl (R.heap.map rFault) c2]]⟩) H' y (callsF (l.take k)) ∧ tm 3 = .ptr b3 1 0 0 ∧ tm 4 = .vsl (l.map rExit) cl' ∧ tm 5 = .ptr b5 3 0 0 ∧ tm 6 = .ptr b6 4 0 0 ∧ tm 7 = y ∧ tm 8 = I (mostF (l.take k)).length ∧ tm 9 = I k) l.length ⟨0, _, by omega, by omega, grow_nil, ?_⟩ ?_
          · simp +contextual -dsimp -implicitDefEqProofs (maxSteps := 5000000) only [go_sem, reduceIte, reduceCtorEq, Nat.reduceEqDiff, Nat.reduceBEq, Nat.reduceAdd, Nat.reduceLeDiff, Nat.reduceMul, Nat.reduceLT, Int.reduceEq, Int.reduceLT, Int.reduceLE]
            rfl
          · rintro m tm G ⟨k, y, rfl, hk, hg, h3', h4, h5', h6', h7, h8, h9⟩
            by_cases hlt : k < l.length
            · have hml := most_le (l.take k)
              have hcl := calls_le (l.take k)
              rw [List.length_take] at hml hcl
              by_cases h0 : (l.getD k default).kind = 0
              · simp +contextual -dsimp -implicitDefEqProofs (maxSteps := 5000000) only [go_sem, reduceIte, reduceCtorEq, Nat.reduceEqDiff, Nat.reduceBEq, Nat.reduceAdd, Nat.reduceLeDiff, Nat.reduceMul, Nat.reduceLT, Int.reduceEq, Int.reduceLT, Int.reduceLE, h3', h4, h5', h6', h7, h8, h9, hlt, h0]
                refine grow_append (m := [l.getD k default]) te26 ti41 rExit_len (by decide) hg (by simp; omega) (by simp; omega) (by rw [List.map_cons, List.map_nil, rExit, h0]) fun y' G' hg' => ?_
                simp +contextual -dsimp -implicitDefEqProofs (maxSteps := 5000000) only [go_sem, reduceIte, reduceCtorEq, Nat.reduceEqDiff, Nat.reduceBEq, Nat.reduceAdd, Nat.reduceLeDiff, Nat.reduceMul, Nat.reduceLT, Int.reduceEq, Int.reduceLT, Int.reduceLE, h3', h4, h5', h6', h7, h8, h9, hlt, h0]
                exact ⟨_, by omega, k + 1, y', rfl, hlt, by rw [calls_take hlt, if_pos h0]; exact hg', rfl, by rw [most_take hlt, if_pos (.inl h0), List.length_append, List.length_singleton]; exact I_wrap (by omega) (by omega) (by omega), I_wrap (by omega) (by omega) (by omega)⟩
              · simp +contextual -dsimp -implicitDefEqProofs (maxSteps := 5000000) only [go_sem, reduceIte, reduceCtorEq, Nat.reduceEqDiff, Nat.reduceBEq, Nat.reduceAdd, Nat.reduceLeDiff, Nat.reduceMul, Nat.reduceLT, Int.reduceEq, Int.reduceLT, Int.reduceLE, h3', h4, h5', h6', h7, h8, h9, hlt, h0]
                refine ⟨fun h1 => ⟨_, by omega, k + 1, y, rfl, hlt, by rw [calls_take hlt, if_neg h0, List.append_nil]; exact hg, rfl, by rw [most_take hlt, if_pos (.inr h1), List.length_append, List.length_singleton]; exact I_wrap (by omega) (by omega) (by omega), I_wrap (by omega) (by omega) (by omega)⟩, fun h1 => ⟨_, by omega, k + 1, y, rfl, hlt, by rw [calls_take hlt, if_neg h0, List.append_nil]; exact hg, rfl, by rw [most_take hlt, if_neg (fun q => q.elim h0 h1), List.append_nil], I_wrap (by omega) (by omega) (by omega)⟩⟩
            · simp +contextual -dsimp -implicitDefEqProofs (maxSteps := 5000000) only [go_sem, reduceIte, reduceCtorEq, Nat.reduceEqDiff, Nat.reduceBEq, Nat.reduceAdd, Nat.reduceLeDiff, Nat.reduceMul, Nat.reduceLT, Int.reduceEq, Int.reduceLT, Int.reduceLE, h3', h4, h5', h6', h7, h8, h9, hlt]
              have hkl : k = l.length := by omega
              subst hkl
              rw [List.take_length] at hg h8
              refine grow_end 7 (l := callsF l) (by show Grow _ _ _ _ G (tm 7) _; rw [h7]; exact hg) fun clx => ?_
              simp +contextual -dsimp -implicitDefEqProofs (maxSteps := 5000000) only [go_sem, reduceIte, reduceCtorEq, Nat.reduceEqDiff, Nat.reduceBEq, Nat.reduceAdd, Nat.reduceLeDiff, Nat.reduceMul, Nat.reduceLT, Int.reduceEq, Int.reduceLT, Int.reduceLE, h3', h4, h5', h6', h7, h8, h9, p1, p2, q1, q2, q3, q4]
              refine (c_mCloseExitsF t cl (callsF l) clx ⟨true, xc, xo⟩ _ hn).mono ?_
              rintro _ _ ⟨⟨c5, c6, rfl⟩, rfl⟩
              rw [if_pos (by rw [calls_valid hv, hst]; rfl)]
              have e2 := calls_log t l ⟨true, xc, xo⟩
              have e1 := close_log t l ⟨true, xc, xo⟩
              rw [if_pos (by rw [hv, hst]; rfl)] at hR
              rw [hR] at e1
              generalize hR2 : resX (closeX t (callsF l) ⟨true, xc, xo⟩) = R2 at e2 ⊢
              simp +contextual -dsimp -implicitDefEqProofs (maxSteps := 5000000) only [go_sem, reduceIte, reduceCtorEq, Nat.reduceEqDiff, Nat.reduceBEq, Nat.reduceAdd, Nat.reduceLeDiff, Nat.reduceMul, Nat.reduceLT, Int.reduceEq, Int.reduceLT, Int.reduceLE, h3', h4, h5', h6', h7, h8, h9, p1, p2, q1, q2, q3, q4]
              rintro b10 ⟨r1, r2, r3, r4, r5, r6, h10⟩
              have hlen : R2.log.length = (callsF l).length := by rw [e2]; simp
              have hcl8 := calls_le l
              refine aloop mixed (fz := fun r => if r = 3 then [3, 5] else if r = 4 then [6] else if r = 16 then [10] else []) (im := fun s => s == 84 || s == 102) (by kernel_rfl) (fun m tm H' => ∃ i : Nat, m = (callsF l).length - i ∧ i ≤ (callsF l).length ∧ H' = (((H.set b3 ⟨1, 25, [[.vsl (t.map rClass) cl]]⟩).set b5 ⟨3, 28, [[B _, I xc, I xo]]⟩).set b6 ⟨4, 36, [[.vsl (R.log.map rI) c1, I R.ed, I R.val, .vsl (R.heap.map rFault) c2]]⟩).set b10 ⟨4, 36, [[.vsl (R2.log.map rI) c5, I R2.ed, I R2.val, .vsl (R2.heap.map rFault) c6]]⟩ ∧ tm 6 = .ptr b6 4 0 0 ∧ tm 7 = .vsl ((callsF l).map rExit) clx ∧ tm 8 = I (mostF l).length ∧ tm 10 = .ptr b10 4 0 0 ∧ tm 11 = I i) (callsF l).length ⟨0, by omega, by omega, rfl, ?_⟩ ?_
              · simp +contextual -dsimp -implicitDefEqProofs (maxSteps := 5000000) only [go_sem, reduceIte, reduceCtorEq, Nat.reduceEqDiff, Nat.reduceBEq, Nat.reduceAdd, Nat.reduceLeDiff, Nat.reduceMul, Nat.reduceLT, Int.reduceEq, Int.reduceLT, Int.reduceLE, h3', h4, h5', h6', h7, h8, h9]
              · rintro m tm _ ⟨i, rfl, hi, rfl, g6, g7, g8, g10, g11⟩
                by_cases hlt : i < (callsF l).length
                · simp +contextual -dsimp -implicitDefEqProofs (maxSteps := 5000000) only [go_sem, reduceIte, reduceCtorEq, Nat.reduceEqDiff, Nat.reduceBEq, Nat.reduceAdd, Nat.reduceLeDiff, Nat.reduceMul, Nat.reduceLT, Int.reduceEq, Int.reduceLT, Int.reduceLE, g6, g7, g8, g10, g11, hlt]
                  refine draw_intro [0, 0, 0, 0, 0, 0, 0, 0, 0, 0, 0, 0, 0, 0, 0] _ (by kernel_rfl) (AHeap.le_refl _) ?_
                  simp +contextual -dsimp -implicitDefEqProofs (maxSteps := 5000000) only [go_sem, reduceIte, reduceCtorEq, Nat.reduceEqDiff, Nat.reduceBEq, Nat.reduceAdd, Nat.reduceLeDiff, Nat.reduceMul, Nat.reduceLT, Int.reduceEq, Int.reduceLT, Int.reduceLE, g6, g7, g8, g10, g11, hlt, hlen, r1, r2, r3, r4, r5, r6]
                  have hw : IntKind.i64.wrap (IntKind.i64.wrap ((callsF l).length - 1) - i) = (((callsF l).length - 1 - i : Nat) : Int) := by
                    rw [iwrap (b := ((callsF l).length : Int) - 1) rfl (by omega) (by omega)]
                    exact iwrap (by omega) (by omega) (by omega)
                  have hat : R2.log.getD i default = ((callsF l).getD ((callsF l).length - 1 - i) default).a := by rw [e2]; exact rev_at hlt
                  rw [hw, Int.toNat_natCast]
                  refine ⟨⟨by omega, by omega⟩, by omega, fun hne => absurd hat hne, fun _ => ⟨_, by omega, i + 1, rfl, hlt, I_wrap (by omega) (by omega) (by omega)⟩⟩
                · simp +contextual -dsimp -implicitDefEqProofs (maxSteps := 5000000) only [go_sem, reduceIte, reduceCtorEq, Nat.reduceEqDiff, Nat.reduceBEq, Nat.reduceAdd, Nat.reduceLeDiff, Nat.reduceMul, Nat.reduceLT, Int.reduceEq, Int.reduceLT, Int.reduceLE, g6, g7, g8, g10, g11, hlt, hlen, r1, r2, r3, r4, r5, r6, p1, p2, q1, q2, q3, q4]
                  refine retR_less (l := [B true]) (H' := H) ?_ (le_s1 (le3 _ _ _) h10) ⟨rfl, rfl⟩
                  simp only [resA, go_sem, reduceIte, reduceCtorEq, Nat.reduceEqDiff, Nat.reduceBEq, Nat.reduceAdd, Nat.reduceLeDiff, Nat.reduceMul, Nat.reduceLT, Int.reduceEq, Int.reduceLT, Int.reduceLE]
                  simp
                  omega
end Go.Proofs.Ytihjbbiajggcoaa
end
