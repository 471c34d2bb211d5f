/- Walks and plain laws that the claims of this seat lean on. No condition. -/
import Derived.Test.YtbjgilehnlpmaaaGreatJ4
import Derived.Test.YtbjgilehnlpmaaaGreatSimZ
import Derived.Test.YtbjgilehnlpmaaaGreatGrow
import Derived.Test.YtbjgilehnlpmaaaGreatJ2
set_option linter.unusedVariables false
set_option linter.unusedSimpArgs false
namespace Go.Proofs.YtbjgilehnlpmaaaGreat
open Go Go.Sim
section
set_option maxRecDepth 100000
attribute [local go_sem ↓] aw_skip aw_ret aw_exit aw_region aw_draw aw_seq aw_block aw_loop aw_cond frz_nil frz_cons sq_normal sq_ret sq_exit exB_normal exB_ret exB_same exB_other retQ_ret retQ_normal ret0_ret ret0_normal ao_nil go1 g_move g_assign g_pick g_build g_load g_binOp g_unOp g_convert g_fieldAddr g_field g_indexAddr g_index g_extract g_slice g_nilCheck g_len g_makeFunc h_call h_append h_alloc h_box h_buildSlice h_makeSlice h_store gV i_box i_buildSlice i_move i_assign i_build i_load i_binOp i_unOp i_convert i_fieldAddr i_field i_indexAddr i_index i_extract i_slice i_nilCheck i_makeFunc i_len i_max i_min i_alloc i_makeSlice i_store i_append i_call i_pick boxI boxA buildSliceI buildSliceA makeSliceA allocA storeA p_move p_assign p_pick p_build p_load p_binOp p_unOp p_convert p_fieldAddr p_field p_indexAddr p_index p_extract p_slice p_nilCheck p_makeFunc p_len p_max p_min p_alloc p_box p_buildSlice p_makeSlice p_store p_append p_call x_nil x_go1 x_g0 x_g1 x_g2 x_g3 x_s0 x_s1 x_s2 x_s3 u_move u_assign u_pick u_build u_load u_binOp u_unOp u_convert u_fieldAddr u_field u_indexAddr u_index u_extract u_slice u_nilCheck u_makeFunc u_len u_buildSlice x_s4 x_g4 rq_normal rq_ret rq_exit aw_range
attribute [local go_sem] frzV_sl frzK_some set_none set_other AHeap.set_self set_del set_set cnd_t cnd_f cnd_b retA_one retA_two retA_three retA_four retA_nil gIf_b mrgV_b mrgV_wh mrgV_U gIf_U gIf_wh mrgB_f mrgB_some mrgB_if wh_true wh_false keepA_some keepA_if gD_zero gD_succ gT_some bxA_t bxA_f callA_fn ev_tmp ev_const ev_global ev_func oc_bool oc_int oc_string oc_nil oc_nilptr oc_nilfunc cl_bool cl_int cl_string cl_nil updO_some updO_none upd_same upd_other init_at pickA_b pickA_wh selA_t selA_f selA_and selA_or selA_orn selA_orm selA_bb selA_ii beqt b_add b_sub b_mul b_and b_or b_xor b_eql b_neq b_lss b_leq b_gtr b_geq b_quo b_rem b_shr b_seql b_sneq b_sadd b_beql b_bneq b_aeql b_aneq u_not u_neg isConstOp eqA eqCellV List.getD_cons_zero List.getD_cons_succ List.map_cons List.map_nil List.nil_append List.cons_append List.append_nil if_true if_false Option.map_some Option.map_none ne_eq not_false_eq_true oneA ldv ld1v ld1s wr1s ldRow stRow row_lit row_agg row_vsl row_sl row_ptr row_fn one_I one_B one_S one_vsl one_sl one_ptr one_fn extractA okA rI rS rU rClass rFault rExit rStart rLine Int.toNat_natCast List.length_cons List.length_nil List.length_map List.all_cons List.all_nil Bool.and_true Nat.zero_add List.getElem?_cons_zero List.getElem?_cons_succ List.take_succ_cons List.take_zero List.drop_succ_cons List.drop_zero and_self true_and and_true implies_true decide_eq_true_eq decide_eq_false_iff_not Bool.or_eq_true Bool.or_eq_false_iff Bool.and_eq_true Bool.not_eq_true' Bool.not_eq_false' beq_false decide_true decide_false Int.ofNat_lt Int.ofNat_le Int.natCast_nonneg Bool.or_true Bool.or_false Bool.true_or Bool.false_or beq_self_eq_true List.drop_one Bool.not_true Bool.not_false Bool.not_not Bool.false_eq_true Bool.true_eq_false false_implies true_implies Bool.true_and Bool.false_and Bool.and_false not_true_eq_false Int.natCast_eq_zero Int.natCast_pos Int.natCast_zero false_and and_false or_false false_or or_true true_or Bool.or_self none_le_iff List.replicate_zero Int.toNat_zero List.replicate_succ buildRows List.set_cons_zero List.set_cons_succ List.set_nil List.mapM_nil maxLen_eq Nat.zero_le Nat.mul_one Nat.one_mul bldA fillA spliceA List.take_nil List.drop_nil List.getElem?_nil ld1o wr1o bldSliceA le_same cv_i cvI_t quietT_fn qvd_some ld_o ldO_1 ldO_l wr_o wrO_1 set_2 set_3 set_4 putL_nil putL_cons List.zip_cons_cons List.zip_nil_left List.zip_nil_right List.toList_toArray frzV_set ti1 ti2 tk2 ti3 te3 ts3 tk3 tz3 ti4 tb4 ti5 tk5 tz5 ti9 te9 ts9 tk9 tz9 ti12 tk12 ti13 tp13 tf13_0 tf13_1 ti20 ti21 tk21 tz21 ti22 te22 ti23 tp23 tf23_0 ti24 tp24 tf24_0 ti25 te25 ti26 te26 ti27 te27 ti28 tp28 tf28_0 ti29 tp29 tf29_0 ti30 tp30 tf30_0 tf30_1 tf30_2 tf30_3 ti31 tp31 tf31_0 tf31_1 tf31_2 tf31_3 ti32 ti33 ti34 ti35 te35 tz35 ti37 ti38 ti39 ti40 ti42 ti44 ti46 ti47 ti48 ti49 tq49 tp49 tf49_0 tf49_1 tf49_2 tf49_3 ti50 tq50 tp50 tf50_0 tf50_1 tf50_2 tf50_3 ti51 ti52 ti53 ti54 ti55 ti56 ti57 ti58 tq58 tp58 tf58_0 tf58_1 ti59 tq59 tp59 tf59_0 tf59_1 ti60 ti61 ti62 ti63 ti64 ti65 ti66 ti67 ti68 ti69 ti70 ti71 ti72 ti73 ti74 ti75 ti76 ti77 ti78 ti79 tq79 tp79 tf79_0 tf79_1 tf79_2 tf79_3 tf79_4 ti80 tq80 tp80 tf80_0 tf80_1 tf80_2 tf80_3 tf80_4 ti81 ti82 ti83 ti84 ti85 ti86 ti87 ti88 ti89 tp89 tf89_0 tf89_1 tf89_2 tf89_3 tf89_4 ti90 tp90 tf90_0 tf90_1 tf90_2 tf90_3 tf90_4 ti91 ti93 ti94 ti95 ti96 ti97 ti98 tp98 tf98_0 tf98_1 tf98_2 tf98_3 ti99 tp99 tf99_0 tf99_1 tf99_2 tf99_3 ti100 tq100 tp100 tf100_0 tf100_1 ti101 tq101 tp101 tf101_0 tf101_1 ti102 ti103 ti104 tq104 tp104 tf104_0 tf104_1 ti105 tq105 tp105 tf105_0 tf105_1 ti106 ti107 ti108 ti109 ti110 ti111 ti112 ti113 tp113 tf113_0 tf113_1 ti114 tp114 tf114_0 tf114_1 ti115 ti116 ti117 ti118 te118 ti119 ti120 ti121 ti122 ti123 ti124 ti125 ti126 ti127 ti128 ti129 ti130 ti131 te131 ti132 ti133 ti134 ti135 ti136 tk136 tz136 ti137 ti138 ti139 ti140 ti141 ti142 ti143 tk143 ti145 ti146 ti147 ti149 ti150 ti151 tk151 tz151 ti152 ti153 tk153 tz153 ti154 ti155 ti156 ti157 ti158 tk158 ti159 ti160 ti161 ti162 ti163 ti164 ti165 ti167 ti168 ti174 ti178 fp13_0 fv13_0 fp13_1 fv13_1 fp23_0 fv23_0 fp24_0 fv24_0 fp28_0 fv28_0 fp29_0 fv29_0 fp30_0 fv30_0 fp30_1 fv30_1 fp30_2 fv30_2 fp30_3 fv30_3 fp31_0 fv31_0 fp31_1 fv31_1 fp31_2 fv31_2 fp31_3 fv31_3 fp49_0 fv49_0 fp49_1 fv49_1 fp49_2 fv49_2 fp49_3 fv49_3 fp50_0 fv50_0 fp50_1 fv50_1 fp50_2 fv50_2 fp50_3 fv50_3 fp58_0 fv58_0 fp58_1 fv58_1 fp59_0 fv59_0 fp59_1 fv59_1 fp79_0 fv79_0 fp79_1 fv79_1 fp79_2 fv79_2 fp79_3 fv79_3 fp79_4 fv79_4 fp80_0 fv80_0 fp80_1 fv80_1 fp80_2 fv80_2 fp80_3 fv80_3 fp80_4 fv80_4 fp89_0 fv89_0 fp89_1 fv89_1 fp89_2 fv89_2 fp89_3 fv89_3 fp89_4 fv89_4 fp90_0 fv90_0 fp90_1 fv90_1 fp90_2 fv90_2 fp90_3 fv90_3 fp90_4 fv90_4 fp98_0 fv98_0 fp98_1 fv98_1 fp98_2 fv98_2 fp98_3 fv98_3 fp99_0 fv99_0 fp99_1 fv99_1 fp99_2 fv99_2 fp99_3 fv99_3 fp100_0 fv100_0 fp100_1 fv100_1 fp101_0 fv101_0 fp101_1 fv101_1 fp104_0 fv104_0 fp104_1 fv104_1 fp105_0 fv105_0 fp105_1 fv105_1 fp113_0 fv113_0 fp113_1 fv113_1 fp114_0 fv114_0 fp114_1 fv114_1 lv22 ll22 is22 ix22 sh22 so22 sb22 sm22 sp22 lv25 ll25 is25 ix25 sh25 so25 sb25 sm25 sp25 lv26 ll26 is26 ix26 sh26 so26 sb26 sm26 sp26 lv27 ll27 is27 ix27 sh27 so27 sb27 sm27 sp27 lv35 ll35 is35 ix35 sh35 so35 sb35 sm35 sp35 lv118 ll118 is118 sp118 lv131 ll131 is131 ix131 sh131 so131 sb131 sm131 sp131 xs9 ls9 sx9 sy9 sz9
section
open Go Go.Sim
set_option maxRecDepth 100000
set_option maxHeartbeats 4000000

theorem st3 : DrawnF 151 6 3 := c_aStatement (p1 := 0) (p2 := 0) (by omega) (by omega) (by omega) (by omega) (by omega) (fun h => absurd h (by omega)) (fun h => absurd h (by omega))
theorem blk3 : Drawn 136 19 3 := c_aBlock (by omega) st3
theorem try2 : Drawn 135 105 2 := c_aTry (p := 19) (by omega) (by omega) blk3.frz
theorem st2 : DrawnF 151 111 2 := c_aStatement (p1 := 19) (p2 := 105) (by omega) (by omega) (by omega) (by omega) (by omega) (fun _ => blk3.frz) (fun _ => try2.frz)
theorem blk2 : Drawn 136 334 2 := c_aBlock (by omega) st2
theorem try1 : Drawn 135 1680 1 := c_aTry (p := 334) (by omega) (by omega) blk2.frz
theorem st1 : DrawnF 151 1686 1 := c_aStatement (p1 := 334) (p2 := 1680) (by omega) (by omega) (by omega) (by omega) (by omega) (fun _ => blk2.frz) (fun _ => try1.frz)
theorem blk1 : Drawn 136 5059 1 := c_aBlock (by omega) st1
theorem try0 : Drawn 135 25305 0 := c_aTry (p := 5059) (by omega) (by omega) blk1.frz
theorem st0 : DrawnF 151 25311 0 := c_aStatement (p1 := 5059) (p2 := 25305) (by omega) (by omega) (by omega) (by omega) (by omega) (fun _ => blk1.frz) (fun _ => try0.frz)
theorem blk0 : Drawn 136 75934 0 := c_aBlock (by omega) st0
/-- What is told beside blocks that nobody needs. -/
theorem grow_drop {α : Type} {f : α → List AV} {sz : Nat} {ty : TypeId} {F F0 G : AHeap} {x : AV} {l : List α} (hg : Grow f sz ty F0 G x l) (hle : F.le F0) : ∃ G', Grow f sz ty F G' x l ∧ G'.le G := by
  rcases hg with ⟨rfl, rfl, rfl⟩ | ⟨b, cl, hb, rfl, rfl⟩
  · exact ⟨F, .inl ⟨rfl, rfl, rfl⟩, hle⟩
  · have hb' : F b = none := by
      cases h : F b with
      | none => rfl
      | some k => rw [hle b k h] at hb; cases hb
    exact ⟨_, .inr ⟨b, cl, hb', rfl, rfl⟩, le_ch hle⟩
theorem le_none {F G : AHeap} {b : Nat} (h : F.le G) (hb : G b = none) : F b = none := by
  cases hq : F b with
  | none => rfl
  | some k => rw [h b k hq] at hb; cases hb
theorem c_goodProgram (F : AHeap) (br n : Nat) (K : ABlk) (t : List Class) (cl : Bool) (h : RdK n K) (hF : F br = none) (hn : n < 500000000) : ACalls Tryz.prog 95 [.ptr br 2 0 0, aTree t cl] (F.set br K) fun r H' =>
    ∃ (l : List Line) (G : AHeap) (K' : ABlk), Grow rLine 4 50 F G r l ∧ G br = none ∧ H' = G.set br K' ∧ RdK (n + 900000) K' ∧ 1 ≤ l.length ∧ l.length ≤ 24 := by
  refine acalls_of1 Tryz.func95 rfl (by kernel_rfl) rfl rfl (awp_sound (fz := fun _ => []) (im := fun s => s == 3) mixed _ _ _ _ (by kernel_rfl) ?_)
  simp +contextual -dsimp -implicitDefEqProofs (maxSteps := 5000000) only [go_sem, reduceIte, reduceCtorEq, Nat.reduceEqDiff, Nat.reduceBEq, Nat.reduceAdd, Nat.reduceLeDiff, Nat.reduceMul, Nat.reduceLT, Int.reduceEq, Int.reduceLT, Int.reduceLE]
  refine aloop mixed (fz := fun _ => []) (im := fun s => s == 3) (by kernel_rfl) (fun m tm H' => ∃ (F0 : AHeap) (K : ABlk) (i : Nat), m = 4 - i ∧ i ≤ 4 ∧ F.le F0 ∧ F0 br = none ∧ RdK (n + i * 180000) K ∧ H' = F0.set br K ∧ tm 0 = .ptr br 2 0 0 ∧ tm 3 = .vptr [[.vsl (t.map rClass) cl]] 0 0 ∧ tm 5 = I i) 4 ⟨F, K, 0, rfl, by omega, AHeap.le_refl _, hF, by simpa using h, rfl, ?_⟩ ?_
  · simp +contextual -dsimp -implicitDefEqProofs (maxSteps := 5000000) only [go_sem, reduceIte, reduceCtorEq, Nat.reduceEqDiff, Nat.reduceBEq, Nat.reduceAdd, Nat.reduceLeDiff, Nat.reduceMul, Nat.reduceLT, Int.reduceEq, Int.reduceLT, Int.reduceLE]
  · rintro m tm H' ⟨F0, K, i, rfl, hi, hle, fr, hK, rfl, t0, t3, t5⟩
    by_cases hlt : (i : Int) < 4
    · have hi4 : i < 4 := by omega
      simp +contextual -dsimp -implicitDefEqProofs (maxSteps := 5000000) only [go_sem, reduceIte, reduceCtorEq, Nat.reduceEqDiff, Nat.reduceBEq, Nat.reduceAdd, Nat.reduceLeDiff, Nat.reduceMul, Nat.reduceLT, Int.reduceEq, Int.reduceLT, Int.reduceLE, t0, t3, t5, hlt]
      refine (try0 F0 br _ K t cl false hK fr (by omega)).mono ?_
      rintro x H' ⟨l, G, K1, hg, fr1, rfl, hK1, h1, h2⟩
      simp +contextual -dsimp -implicitDefEqProofs (maxSteps := 5000000) only [go_sem, reduceIte, reduceCtorEq, Nat.reduceEqDiff, Nat.reduceBEq, Nat.reduceAdd, Nat.reduceLeDiff, Nat.reduceMul, Nat.reduceLT, Int.reduceEq, Int.reduceLT, Int.reduceLE, t0, t3, t5, hlt]
      refine k_pick 3 hK1 fr1 (by omega) rfl fun v K2 _ _ _ hK2 => ?_
      simp +contextual -dsimp -implicitDefEqProofs (maxSteps := 5000000) only [go_sem, reduceIte, reduceCtorEq, Nat.reduceEqDiff, Nat.reduceBEq, Nat.reduceAdd, Nat.reduceLeDiff, Nat.reduceMul, Nat.reduceLT, Int.reduceEq, Int.reduceLT, Int.reduceLE, t0, t3, t5, hlt]
      refine ⟨fun _ => ?_, fun _ => ?_⟩
      · refine (blk0.frz G br _ K2 t cl false hK2 fr1 (by omega)).mono ?_
        rintro _ H' ⟨l2, cl2, K3, rfl, rfl, hK3, h3, h4⟩
        simp +contextual -dsimp -implicitDefEqProofs (maxSteps := 5000000) only [go_sem, reduceIte, reduceCtorEq, Nat.reduceEqDiff, Nat.reduceBEq, Nat.reduceAdd, Nat.reduceLeDiff, Nat.reduceMul, Nat.reduceLT, Int.reduceEq, Int.reduceLT, Int.reduceLE, t0, t3, t5, hlt]
        refine app_lines (m := l2) (grow_in hg fr1) (by omega) rfl fun x' H' hg' => ?_
        obtain ⟨G1, hg1, rfl, u1⟩ := grow_out hg' (grow_none hg fr1)
        simp +contextual -dsimp -implicitDefEqProofs (maxSteps := 5000000) only [go_sem, reduceIte, reduceCtorEq, Nat.reduceEqDiff, Nat.reduceBEq, Nat.reduceAdd, Nat.reduceLeDiff, Nat.reduceMul, Nat.reduceLT, Int.reduceEq, Int.reduceLT, Int.reduceLE, t0, t3, t5, hlt]
        refine k_pick 4 hK3 u1 (by omega) rfl fun w K5 _ _ _ hK5 => ?_
        simp +contextual -dsimp -implicitDefEqProofs (maxSteps := 5000000) only [go_sem, reduceIte, reduceCtorEq, Nat.reduceEqDiff, Nat.reduceBEq, Nat.reduceAdd, Nat.reduceLeDiff, Nat.reduceMul, Nat.reduceLT, Int.reduceEq, Int.reduceLT, Int.reduceLE, t0, t3, t5, hlt]
        refine ⟨fun _ => ?_, fun _ => ?_⟩
        · refine (blk0 _ br _ _ t cl false hK5 u1 (by omega)).mono ?_
          rintro x6 H' ⟨l6, G6, K6, hg6, fr6, rfl, hK6, h5, h6⟩
          simp +contextual -dsimp -implicitDefEqProofs (maxSteps := 5000000) only [go_sem, reduceIte, reduceCtorEq, Nat.reduceEqDiff, Nat.reduceBEq, Nat.reduceAdd, Nat.reduceLeDiff, Nat.reduceMul, Nat.reduceLT, Int.reduceEq, Int.reduceLT, Int.reduceLE, t0, t3, t5, hlt]
          have hlen := grow_len te25 hg6
          simp +contextual -dsimp -implicitDefEqProofs (maxSteps := 5000000) only [go_sem, reduceIte, reduceCtorEq, Nat.reduceEqDiff, Nat.reduceBEq, Nat.reduceAdd, Nat.reduceLeDiff, Nat.reduceMul, Nat.reduceLT, Int.reduceEq, Int.reduceLT, Int.reduceLE, t0, t3, t5, hlt, hlen]
          refine ⟨fun h24 => ?_, fun h24 => ?_⟩
          · obtain ⟨G', hg', le'⟩ := grow_drop hg6 (AHeap.le_trans hle (grow_le hg1))
            refine retR_less (l := [x6]) (H' := G'.set br _) ?_ (le_ch le') ⟨_, G', _, hg', le_none le' fr6, rfl, rdk_mono hK6 (by omega), by first | omega | (simp; omega), by first | omega | (simp at h24 ⊢; omega)⟩
            simp only [resA, go_sem, reduceIte, reduceCtorEq, Nat.reduceEqDiff, Nat.reduceBEq, Nat.reduceAdd, Nat.reduceLeDiff, Nat.reduceMul, Nat.reduceLT, Int.reduceEq, Int.reduceLT, Int.reduceLE]
          · exact ⟨_, by omega, _, _, i + 1, rfl, by omega, AHeap.le_trans (AHeap.le_trans hle (grow_le hg1)) (grow_le hg6), fr6, rdk_mono hK6 (by omega), rfl, I_wrap (by omega) (by omega) (by omega)⟩
        · skip
          have hlen := grow_len te25 hg1
          simp +contextual -dsimp -implicitDefEqProofs (maxSteps := 5000000) only [go_sem, reduceIte, reduceCtorEq, Nat.reduceEqDiff, Nat.reduceBEq, Nat.reduceAdd, Nat.reduceLeDiff, Nat.reduceMul, Nat.reduceLT, Int.reduceEq, Int.reduceLT, Int.reduceLE, t0, t3, t5, hlt, hlen]
          refine ⟨fun h24 => ?_, fun h24 => ?_⟩
          · obtain ⟨G', hg', le'⟩ := grow_drop hg1 hle
            refine retR_less (l := [x']) (H' := G'.set br _) ?_ (le_ch le') ⟨_, G', _, hg', le_none le' u1, rfl, rdk_mono hK5 (by omega), by first | omega | (simp; omega), by first | omega | (simp at h24 ⊢; omega)⟩
            simp only [resA, go_sem, reduceIte, reduceCtorEq, Nat.reduceEqDiff, Nat.reduceBEq, Nat.reduceAdd, Nat.reduceLeDiff, Nat.reduceMul, Nat.reduceLT, Int.reduceEq, Int.reduceLT, Int.reduceLE]
          · exact ⟨_, by omega, _, _, i + 1, rfl, by omega, AHeap.le_trans hle (grow_le hg1), u1, rdk_mono hK5 (by omega), rfl, I_wrap (by omega) (by omega) (by omega)⟩
      · skip
        refine k_pick 4 hK2 fr1 (by omega) rfl fun w K5 _ _ _ hK5 => ?_
        simp +contextual -dsimp -implicitDefEqProofs (maxSteps := 5000000) only [go_sem, reduceIte, reduceCtorEq, Nat.reduceEqDiff, Nat.reduceBEq, Nat.reduceAdd, Nat.reduceLeDiff, Nat.reduceMul, Nat.reduceLT, Int.reduceEq, Int.reduceLT, Int.reduceLE, t0, t3, t5, hlt]
        refine ⟨fun _ => ?_, fun _ => ?_⟩
        · refine (blk0 _ br _ _ t cl false hK5 fr1 (by omega)).mono ?_
          rintro x6 H' ⟨l6, G6, K6, hg6, fr6, rfl, hK6, h5, h6⟩
          simp +contextual -dsimp -implicitDefEqProofs (maxSteps := 5000000) only [go_sem, reduceIte, reduceCtorEq, Nat.reduceEqDiff, Nat.reduceBEq, Nat.reduceAdd, Nat.reduceLeDiff, Nat.reduceMul, Nat.reduceLT, Int.reduceEq, Int.reduceLT, Int.reduceLE, t0, t3, t5, hlt]
          have hlen := grow_len te25 hg6
          simp +contextual -dsimp -implicitDefEqProofs (maxSteps := 5000000) only [go_sem, reduceIte, reduceCtorEq, Nat.reduceEqDiff, Nat.reduceBEq, Nat.reduceAdd, Nat.reduceLeDiff, Nat.reduceMul, Nat.reduceLT, Int.reduceEq, Int.reduceLT, Int.reduceLE, t0, t3, t5, hlt, hlen]
          refine ⟨fun h24 => ?_, fun h24 => ?_⟩
          · obtain ⟨G', hg', le'⟩ := grow_drop hg6 (AHeap.le_trans hle (grow_le hg))
            refine retR_less (l := [x6]) (H' := G'.set br _) ?_ (le_ch le') ⟨_, G', _, hg', le_none le' fr6, rfl, rdk_mono hK6 (by omega), by first | omega | (simp; omega), by first | omega | (simp at h24 ⊢; omega)⟩
            simp only [resA, go_sem, reduceIte, reduceCtorEq, Nat.reduceEqDiff, Nat.reduceBEq, Nat.reduceAdd, Nat.reduceLeDiff, Nat.reduceMul, Nat.reduceLT, Int.reduceEq, Int.reduceLT, Int.reduceLE]
          · exact ⟨_, by omega, _, _, i + 1, rfl, by omega, AHeap.le_trans (AHeap.le_trans hle (grow_le hg)) (grow_le hg6), fr6, rdk_mono hK6 (by omega), rfl, I_wrap (by omega) (by omega) (by omega)⟩
        · skip
          have hlen := grow_len te25 hg
          simp +contextual -dsimp -implicitDefEqProofs (maxSteps := 5000000) only [go_sem, reduceIte, reduceCtorEq, Nat.reduceEqDiff, Nat.reduceBEq, Nat.reduceAdd, Nat.reduceLeDiff, Nat.reduceMul, Nat.reduceLT, Int.reduceEq, Int.reduceLT, Int.reduceLE, t0, t3, t5, hlt, hlen]
          refine ⟨fun h24 => ?_, fun h24 => ?_⟩
          · obtain ⟨G', hg', le'⟩ := grow_drop hg hle
            refine retR_less (l := [x]) (H' := G'.set br _) ?_ (le_ch le') ⟨_, G', _, hg', le_none le' fr1, rfl, rdk_mono hK5 (by omega), by first | omega | (simp; omega), by first | omega | (simp at h24 ⊢; omega)⟩
            simp only [resA, go_sem, reduceIte, reduceCtorEq, Nat.reduceEqDiff, Nat.reduceBEq, Nat.reduceAdd, Nat.reduceLeDiff, Nat.reduceMul, Nat.reduceLT, Int.reduceEq, Int.reduceLT, Int.reduceLE]
          · exact ⟨_, by omega, _, _, i + 1, rfl, by omega, AHeap.le_trans hle (grow_le hg), fr1, rdk_mono hK5 (by omega), rfl, I_wrap (by omega) (by omega) (by omega)⟩
    · simp +contextual -dsimp -implicitDefEqProofs (maxSteps := 5000000) only [go_sem, reduceIte, reduceCtorEq, Nat.reduceEqDiff, Nat.reduceBEq, Nat.reduceAdd, Nat.reduceLeDiff, Nat.reduceMul, Nat.reduceLT, Int.reduceEq, Int.reduceLT, Int.reduceLE, t0, t3, t5, hlt]
      rintro b36 ⟨w1, w2, hb36⟩
      rw [br_out w1]
      have hb : F b36 = none := le_none hle hb36
      refine retR_less (l := [.sl b36 4 0 4 true]) (H' := (F.set b36 ⟨4, 50, ([⟨0, 7, 0, 0⟩, ⟨1, 2, 0, 1⟩, ⟨0, 10, 0, 0⟩, ⟨1, 1, 1, 0⟩] : List Line).map rLine⟩).set br K) ?_ (le_ch (le_ch hle)) ⟨_, _, K, .inr ⟨b36, true, hb, rfl, rfl⟩, by rw [set_other w2]; exact hF, rfl, rdk_mono hK (by omega), by simp, by simp⟩
      simp only [resA, go_sem, reduceIte, reduceCtorEq, Nat.reduceEqDiff, Nat.reduceBEq, Nat.reduceAdd, Nat.reduceLeDiff, Nat.reduceMul, Nat.reduceLT, Int.reduceEq, Int.reduceLT, Int.reduceLE]
end
section
open Go Go.Sim
set_option maxRecDepth 100000
set_option maxHeartbeats 4000000

theorem c_someProgram0 (F : AHeap) (br n : Nat) (K : ABlk) (h : RdK n K) (hF : F br = none) (hn : n < 400000000) : ACalls Tryz.prog 51 [.ptr br 2 0 0] (F.set br K) fun r H' =>
    ∃ t cl x, ∃ l : List Line, ∃ cl' G K', r = .tup [aTree t cl, x] ∧ Fz (AHeap.set G br K') (F.set br K') x (.vsl (l.map rLine) cl') ∧ F.le G ∧ H' = G.set br K' ∧ RdK (n + 1000000) K' ∧ t.length ≤ 8 ∧ shortNames t ∧ l.length ≤ 24 := by
  refine acalls_of1 Tryz.func51 rfl (by kernel_rfl) rfl rfl (awp_sound (fz := fun r => if r = 13 then [5] else []) (im := fun s => s == 15 || s == 30 || s == 39 || s == 48) mixed _ _ _ _ (by kernel_rfl) ?_)
  simp +contextual -dsimp -implicitDefEqProofs (maxSteps := 5000000) only [go_sem, reduceIte, reduceCtorEq, Nat.reduceEqDiff, Nat.reduceBEq, Nat.reduceAdd, Nat.reduceLeDiff, Nat.reduceMul, Nat.reduceLT, Int.reduceEq, Int.reduceLT, Int.reduceLE]
  rintro b2 ⟨p1, p2, hb2⟩
  rw [br_out p1]
  have n2 : ∀ K4, (F.set b2 K4) br = none := fun K4 => by rw [set_other p2]; exact hF
  refine (c_someTreeF _ br n K h (n2 _) (by omega)).mono ?_
  rintro _ _ ⟨t, cl, K1, rfl, rfl, hK1, ht8, hs⟩
  simp +contextual -dsimp -implicitDefEqProofs (maxSteps := 5000000) only [go_sem, reduceIte, reduceCtorEq, Nat.reduceEqDiff, Nat.reduceBEq, Nat.reduceAdd, Nat.reduceLeDiff, Nat.reduceMul, Nat.reduceLT, Int.reduceEq, Int.reduceLT, Int.reduceLE, p1, p2]
  rintro b4 ⟨q1, q2, q3, q4, hb4⟩
  simp only [br_out q1]
  have n4 : ∀ K4 K5, ((F.set b2 K4).set b4 K5) br = none := fun K4 K5 => by rw [set_other q2]; exact n2 _
  refine ⟨fun h0 => ?_, fun h0 => ?_⟩
  · refine retR_less (l := [aTree t cl, .vsl [rLine ⟨0, 0, 0, 0⟩] true]) (H' := F.set br K1) ?_ (le_ch (le_s1 (le_s1 (AHeap.le_refl _) hb2) hb4)) ⟨t, cl, _, [⟨0, 0, 0, 0⟩], true, F, K1, rfl, .same _, AHeap.le_refl _, rfl, rdk_mono hK1 (by omega), ht8, hs, by simp⟩
    simp only [resA, go_sem, reduceIte, reduceCtorEq, Nat.reduceEqDiff, Nat.reduceBEq, Nat.reduceAdd, Nat.reduceLeDiff, Nat.reduceMul, Nat.reduceLT, Int.reduceEq, Int.reduceLT, Int.reduceLE, p1, p2, q1, q2, q3, q4]
  · refine (c_goodProgram _ br _ K1 t cl hK1 (n4 _ _) (by omega)).mono ?_
    rintro _ _ ⟨l, G0, K2, hg0, hr0, rfl, hK2, h1, h24⟩
    rcases hg0 with ⟨e, _, _⟩ | ⟨bx, clx, hbx, rfl, rfl⟩
    · rw [e] at h1; simp at h1
    have hbx' := hbx
    have hr' := hr0
    rw [set_none, set_none] at hbx'
    rw [set_none] at hr'
    obtain ⟨s1, s2, s3, s4, hbF⟩ := hbx'
    obtain ⟨s5, s6, _⟩ := hr'
    have n6 : ∀ (A C D : ABlk), (((F.set b2 A).set b4 C).set bx D) br = none := fun A C D => by rw [set_other s5]; exact n4 _ _
    have fin : ∀ (l' : List Line) (off len : Nat) (c' : Bool) (K3 : ABlk) (tm : Tm), off + len ≤ l'.length → len ≤ 24 → RdK (n + 1000000) K3 → tm 2 = .ptr b2 1 0 0 → tm 3 = .sl bx 4 off len c' → retR Tryz.prog [.cell 2 24, .tmp 3] (fun r H' => ∃ t cl x, ∃ l : List Line, ∃ cl' G K', r = .tup [aTree t cl, x] ∧ Fz (AHeap.set G br K') (F.set br K') x (.vsl (l.map rLine) cl') ∧ F.le G ∧ H' = G.set br K' ∧ RdK (n + 1000000) K' ∧ t.length ≤ 8 ∧ shortNames t ∧ l.length ≤ 24) tm
        ((((F.set b2 ⟨1, 24, [[.vsl (t.map rClass) cl]]⟩).set b4 ⟨1, 24, [[.vsl (t.map rClass) cl]]⟩).set bx ⟨4, 50, l'.map rLine⟩).set br K3) := by
      intro l' off len c' K3 tm hol hl24 hK3 h2 h3
      have hz := Fz.sl (H := (F.set bx ⟨4, 50, l'.map rLine⟩).set br K3) (K := F.set br K3) (b := bx) (sz := 4) (off := off) (len := len) (cl := c') (k := ⟨4, 50, l'.map rLine⟩) (by rw [set_other s6, AHeap.set_self]) rfl (by simpa using hol) (by rw [set_other s6]; exact hbF)
      have he : ((l'.map rLine).drop off).take len = ((l'.drop off).take len).map rLine := by rw [List.map_take, List.map_drop]
      simp only [he] at hz
      refine retR_less (l := [aTree t cl, .sl bx 4 off len c']) (H' := (F.set bx ⟨4, 50, l'.map rLine⟩).set br K3) ?_ (le_ch (le_ch (le_s1 (le_s1 (AHeap.le_refl _) hb2) hb4))) ⟨t, cl, _, (l'.drop off).take len, c', _, K3, rfl, hz, le_s1 (AHeap.le_refl _) hbF, rfl, hK3, ht8, hs, by simp; omega⟩
      simp only [resA, go_sem, reduceIte, reduceCtorEq, Nat.reduceEqDiff, Nat.reduceBEq, Nat.reduceAdd, Nat.reduceLeDiff, Nat.reduceMul, Nat.reduceLT, Int.reduceEq, Int.reduceLT, Int.reduceLE, p1, p2, q1, q2, q3, q4, s1, s2, s3, s4, s5, s6, h2, h3]
    have finV : ∀ (l' : List Line) (c' : Bool) (K3 : ABlk) (tm : Tm), l'.length ≤ 24 → RdK (n + 1000000) K3 → tm 2 = .ptr b2 1 0 0 → tm 3 = .vsl (l'.map rLine) c' → retR Tryz.prog [.cell 2 24, .tmp 3] (fun r H' => ∃ t cl x, ∃ l : List Line, ∃ cl' G K', r = .tup [aTree t cl, x] ∧ Fz (AHeap.set G br K') (F.set br K') x (.vsl (l.map rLine) cl') ∧ F.le G ∧ H' = G.set br K' ∧ RdK (n + 1000000) K' ∧ t.length ≤ 8 ∧ shortNames t ∧ l.length ≤ 24) tm
        (((F.set b2 ⟨1, 24, [[.vsl (t.map rClass) cl]]⟩).set b4 ⟨1, 24, [[.vsl (t.map rClass) cl]]⟩).set br K3) := by
      intro l' c' K3 tm hl24 hK3 h2 h3
      refine retR_less (l := [aTree t cl, .vsl (l'.map rLine) c']) (H' := F.set br K3) ?_ (le_ch (le_s1 (le_s1 (AHeap.le_refl _) hb2) hb4)) ⟨t, cl, _, l', c', F, K3, rfl, .same _, AHeap.le_refl _, rfl, hK3, ht8, hs, hl24⟩
      simp only [resA, go_sem, reduceIte, reduceCtorEq, Nat.reduceEqDiff, Nat.reduceBEq, Nat.reduceAdd, Nat.reduceLeDiff, Nat.reduceMul, Nat.reduceLT, Int.reduceEq, Int.reduceLT, Int.reduceLE, p1, p2, q1, q2, q3, q4, h2, h3]
    have htk : List.take l.length (l.map rLine) = l.map rLine := List.take_of_length_le (by simp)
    have delx : ∀ (G : AHeap) (L K : ABlk), G bx = none → ((G.set bx L).set br K).del bx = G.set br K := fun G L K hG => by rw [set_comm s6, set_del (by rw [set_other s6]; exact hG)]
    simp +contextual -dsimp -implicitDefEqProofs (maxSteps := 5000000) only [go_sem, reduceIte, reduceCtorEq, Nat.reduceEqDiff, Nat.reduceBEq, Nat.reduceAdd, Nat.reduceLeDiff, Nat.reduceMul, Nat.reduceLT, Int.reduceEq, Int.reduceLT, Int.reduceLE, p1, p2, q1, q2, q3, q4, s1, s2, s3, s4, s5, s6]
    refine k_pick l.length hK2 (n6 _ _ _) (by omega) rfl fun v K3 v0 v1 _ hK3 => ?_
    have vl := v1 (by omega)
    have vn : v.toNat < l.length := by omega
    simp +contextual -dsimp -implicitDefEqProofs (maxSteps := 5000000) only [go_sem, reduceIte, reduceCtorEq, Nat.reduceEqDiff, Nat.reduceBEq, Nat.reduceAdd, Nat.reduceLeDiff, Nat.reduceMul, Nat.reduceLT, Int.reduceEq, Int.reduceLT, Int.reduceLE, p1, p2, q1, q2, q3, q4, s1, s2, s3, s4, s5, s6]
    refine k_pick 24 hK3 (n6 _ _ _) (by omega) rfl fun z K4 _ _ _ hK4 => ?_
    by_cases c0 : z = 0
    · simp +contextual -dsimp -implicitDefEqProofs (maxSteps := 5000000) only [go_sem, reduceIte, reduceCtorEq, Nat.reduceEqDiff, Nat.reduceBEq, Nat.reduceAdd, Nat.reduceLeDiff, Nat.reduceMul, Nat.reduceLT, Int.reduceEq, Int.reduceLT, Int.reduceLE, c0, p1, p2, q1, q2, q3, q4, s1, s2, s3, s4, s5, s6]
      refine k_one [-1, 6, 0, 1] _ hK4 (n6 _ _ _) (by omega) (by simp) rfl rfl fun s K5 _ hK5 => ?_
      simp +contextual -dsimp -implicitDefEqProofs (maxSteps := 5000000) only [go_sem, reduceIte, reduceCtorEq, Nat.reduceEqDiff, Nat.reduceBEq, Nat.reduceAdd, Nat.reduceLeDiff, Nat.reduceMul, Nat.reduceLT, Int.reduceEq, Int.reduceLT, Int.reduceLE, c0, p1, p2, q1, q2, q3, q4, s1, s2, s3, s4, s5, s6, v0, vl, vn]
      rw [wrO_y (y := { l.getD v.toNat default with depth := s }) vn rfl]
      simp +contextual -dsimp -implicitDefEqProofs (maxSteps := 5000000) only [go_sem, reduceIte, reduceCtorEq, Nat.reduceEqDiff, Nat.reduceBEq, Nat.reduceAdd, Nat.reduceLeDiff, Nat.reduceMul, Nat.reduceLT, Int.reduceEq, Int.reduceLT, Int.reduceLE, c0, p1, p2, q1, q2, q3, q4, s1, s2, s3, s4, s5, s6, v0, vl, vn]
      refine fin (l.set v.toNat { l.getD v.toNat default with depth := s }) 0 l.length clx K5 _ (by simp) h24 (rdk_mono hK5 (by omega)) rfl rfl
    by_cases c1 : z = 1
    · simp +contextual -dsimp -implicitDefEqProofs (maxSteps := 5000000) only [go_sem, reduceIte, reduceCtorEq, Nat.reduceEqDiff, Nat.reduceBEq, Nat.reduceAdd, Nat.reduceLeDiff, Nat.reduceMul, Nat.reduceLT, Int.reduceEq, Int.reduceLT, Int.reduceLE, c0, c1, p1, p2, q1, q2, q3, q4, s1, s2, s3, s4, s5, s6]
      refine k_one [-1, 13, 5, 9, 0] _ hK4 (n6 _ _ _) (by omega) (by simp) rfl rfl fun s K5 _ hK5 => ?_
      simp +contextual -dsimp -implicitDefEqProofs (maxSteps := 5000000) only [go_sem, reduceIte, reduceCtorEq, Nat.reduceEqDiff, Nat.reduceBEq, Nat.reduceAdd, Nat.reduceLeDiff, Nat.reduceMul, Nat.reduceLT, Int.reduceEq, Int.reduceLT, Int.reduceLE, c0, c1, p1, p2, q1, q2, q3, q4, s1, s2, s3, s4, s5, s6, v0, vl, vn]
      rw [wrO_y (y := { l.getD v.toNat default with kind := s }) vn rfl]
      simp +contextual -dsimp -implicitDefEqProofs (maxSteps := 5000000) only [go_sem, reduceIte, reduceCtorEq, Nat.reduceEqDiff, Nat.reduceBEq, Nat.reduceAdd, Nat.reduceLeDiff, Nat.reduceMul, Nat.reduceLT, Int.reduceEq, Int.reduceLT, Int.reduceLE, c0, c1, p1, p2, q1, q2, q3, q4, s1, s2, s3, s4, s5, s6, v0, vl, vn]
      refine fin (l.set v.toNat { l.getD v.toNat default with kind := s }) 0 l.length clx K5 _ (by simp) h24 (rdk_mono hK5 (by omega)) rfl rfl
    by_cases c2 : z = 2
    · simp +contextual -dsimp -implicitDefEqProofs (maxSteps := 5000000) only [go_sem, reduceIte, reduceCtorEq, Nat.reduceEqDiff, Nat.reduceBEq, Nat.reduceAdd, Nat.reduceLeDiff, Nat.reduceMul, Nat.reduceLT, Int.reduceEq, Int.reduceLT, Int.reduceLE, c0, c1, c2, p1, p2, q1, q2, q3, q4, s1, s2, s3, s4, s5, s6]
      refine k_one [-1, 100, 8] _ hK4 (n6 _ _ _) (by omega) (by simp) rfl rfl fun s K5 _ hK5 => ?_
      simp +contextual -dsimp -implicitDefEqProofs (maxSteps := 5000000) only [go_sem, reduceIte, reduceCtorEq, Nat.reduceEqDiff, Nat.reduceBEq, Nat.reduceAdd, Nat.reduceLeDiff, Nat.reduceMul, Nat.reduceLT, Int.reduceEq, Int.reduceLT, Int.reduceLE, c0, c1, c2, p1, p2, q1, q2, q3, q4, s1, s2, s3, s4, s5, s6, v0, vl, vn]
      rw [wrO_y (y := { l.getD v.toNat default with a := s }) vn rfl]
      simp +contextual -dsimp -implicitDefEqProofs (maxSteps := 5000000) only [go_sem, reduceIte, reduceCtorEq, Nat.reduceEqDiff, Nat.reduceBEq, Nat.reduceAdd, Nat.reduceLeDiff, Nat.reduceMul, Nat.reduceLT, Int.reduceEq, Int.reduceLT, Int.reduceLE, c0, c1, c2, p1, p2, q1, q2, q3, q4, s1, s2, s3, s4, s5, s6, v0, vl, vn]
      refine fin (l.set v.toNat { l.getD v.toNat default with a := s }) 0 l.length clx K5 _ (by simp) h24 (rdk_mono hK5 (by omega)) rfl rfl
    by_cases c3 : z = 3
    · simp +contextual -dsimp -implicitDefEqProofs (maxSteps := 5000000) only [go_sem, reduceIte, reduceCtorEq, Nat.reduceEqDiff, Nat.reduceBEq, Nat.reduceAdd, Nat.reduceLeDiff, Nat.reduceMul, Nat.reduceLT, Int.reduceEq, Int.reduceLT, Int.reduceLE, c0, c1, c2, c3, p1, p2, q1, q2, q3, q4, s1, s2, s3, s4, s5, s6]
      refine ⟨Nat.le_refl _, ?_⟩
      have h1i : (1 : Int) ≤ l.length := by omega
      rw [delx _ _ _ hbx, htk]
      simp +contextual -dsimp -implicitDefEqProofs (maxSteps := 5000000) only [go_sem, reduceIte, reduceCtorEq, Nat.reduceEqDiff, Nat.reduceBEq, Nat.reduceAdd, Nat.reduceLeDiff, Nat.reduceMul, Nat.reduceLT, Int.reduceEq, Int.reduceLT, Int.reduceLE, h1i, c0, c1, c2, c3, p1, p2, q1, q2, q3, q4, s1, s2, s3, s4, s5, s6]
      refine finV (l.drop 1) clx K4 _ (by simp; omega) (rdk_mono hK4 (by omega)) rfl rfl
    · simp +contextual -dsimp -implicitDefEqProofs (maxSteps := 5000000) only [go_sem, reduceIte, reduceCtorEq, Nat.reduceEqDiff, Nat.reduceBEq, Nat.reduceAdd, Nat.reduceLeDiff, Nat.reduceMul, Nat.reduceLT, Int.reduceEq, Int.reduceLT, Int.reduceLE, c0, c1, c2, c3, p1, p2, q1, q2, q3, q4, s1, s2, s3, s4, s5, s6]
      refine ⟨Nat.le_refl _, ?_⟩
      rw [delx _ _ _ hbx]
      simp +contextual -dsimp -implicitDefEqProofs (maxSteps := 5000000) only [go_sem, reduceIte, reduceCtorEq, Nat.reduceEqDiff, Nat.reduceBEq, Nat.reduceAdd, Nat.reduceLeDiff, Nat.reduceMul, Nat.reduceLT, Int.reduceEq, Int.reduceLT, Int.reduceLE, htk, c0, c1, c2, c3, p1, p2, q1, q2, q3, q4, s1, s2, s3, s4, s5, s6]
      refine finV l clx K4 _ h24 (rdk_mono hK4 (by omega)) rfl rfl
theorem c_someProgram (F : AHeap) (br n : Nat) (K : ABlk) (h : RdK n K) (hF : F br = none) (hn : n < 400000000) : ACalls Tryz.prog 51 [.ptr br 2 0 0] (F.set br K) fun r H' =>
    ∃ t cl, ∃ l : List Line, ∃ cl' K', r = .tup [aTree t cl, .vsl (l.map rLine) cl'] ∧ H' = F.set br K' ∧ RdK (n + 1000000) K' ∧ t.length ≤ 8 ∧ shortNames t ∧ l.length ≤ 24 := by
  refine acalls_fz (c_someProgram0 F br n K h hF hn) ?_
  rintro _ _ ⟨t, cl, x, l, cl', G, K', rfl, hz, hle, rfl, hK, ht, hs, hl⟩
  exact ⟨_, F.set br K', le_ch hle, fz_tup (.cons (.same _) (.cons hz .nil)), t, cl, l, cl', K', rfl, rfl, hK, ht, hs, hl⟩
end
section
open Go Go.Sim
set_option maxRecDepth 100000
set_option maxHeartbeats 4000000

theorem c_ClipL (l : List Line) (cl : Bool) (H : AHeap) : ACalls Tryz.prog 98 [aProg l cl] H fun r H' => r = aProg l true ∧ H' = H := by
  refine acalls_len (by kernel_rfl) (List.mem_cons_self ..) fun hl => ?_
  rw [List.length_map] at hl
  refine acalls_of0 Tryz.func98 rfl (by kernel_rfl) rfl rfl (awp_sound (fz := fun _ => []) (im := fun _ => false) mixed _ _ _ _ (by kernel_rfl) ?_)
  simp +contextual -dsimp -implicitDefEqProofs (maxSteps := 5000000) only [go_sem, reduceIte, reduceCtorEq, Nat.reduceEqDiff, Nat.reduceBEq, Nat.reduceAdd, Nat.reduceLeDiff, Nat.reduceMul, Nat.reduceLT, Int.reduceEq, Int.reduceLT, Int.reduceLE, List.take_length]
  exact Nat.le_refl _
/-- A program, if it is valid. -/
noncomputable def madeF (t : List Class) (p : List Line) : List Line := if validB t p = true then p else []
theorem c_programMade (t : List Class) (cl : Bool) (p : List Line) (cl' : Bool) (H : AHeap) (hn : namesOk t) (hp : p.length ≤ 4398046511104) : ACalls Tryz.prog 59 [aTree t cl, aProg p cl'] H fun r H' => (∃ c, r = .tup [aProg (madeF t p) c, B (validB t p)]) ∧ H' = H := by
  refine acalls_of0 Tryz.func59 rfl (by kernel_rfl) rfl rfl (awp_sound (fz := fun _ => []) (im := fun s => s == 2) mixed _ _ _ _ (by kernel_rfl) ?_)
  simp +contextual -dsimp -implicitDefEqProofs (maxSteps := 5000000) only [go_sem, reduceIte, reduceCtorEq, Nat.reduceEqDiff, Nat.reduceBEq, Nat.reduceAdd, Nat.reduceLeDiff, Nat.reduceMul, Nat.reduceLT, Int.reduceEq, Int.reduceLT, Int.reduceLE]
  refine (c_ValidProgram t cl p cl' _ hn hp).det ?_
  unfold madeF
  cases hv : validB t p
  · simp +contextual -dsimp -implicitDefEqProofs (maxSteps := 5000000) only [go_sem, reduceIte, reduceCtorEq, Nat.reduceEqDiff, Nat.reduceBEq, Nat.reduceAdd, Nat.reduceLeDiff, Nat.reduceMul, Nat.reduceLT, Int.reduceEq, Int.reduceLT, Int.reduceLE]
    exact ⟨true, rfl⟩
  · simp +contextual -dsimp -implicitDefEqProofs (maxSteps := 5000000) only [go_sem, reduceIte, reduceCtorEq, Nat.reduceEqDiff, Nat.reduceBEq, Nat.reduceAdd, Nat.reduceLeDiff, Nat.reduceMul, Nat.reduceLT, Int.reduceEq, Int.reduceLT, Int.reduceLE]
    refine (c_ClipL p cl' _).det ?_
    simp +contextual -dsimp -implicitDefEqProofs (maxSteps := 5000000) only [go_sem, reduceIte, reduceCtorEq, Nat.reduceEqDiff, Nat.reduceBEq, Nat.reduceAdd, Nat.reduceLeDiff, Nat.reduceMul, Nat.reduceLT, Int.reduceEq, Int.reduceLT, Int.reduceLE]
    exact ⟨true, rfl⟩
theorem c_checkedProgram (t : List Class) (cl : Bool) (p : List Line) (cl' : Bool) (H : AHeap) (hn : namesOk t) (hp : p.length ≤ 4398046511104) : ACalls Tryz.prog 62 [aTree t cl, aProg p cl'] H fun r H' => (∃ c, r = .tup [aProg (madeF t p) c, B (validB t p)]) ∧ H' = H := by
  refine acalls_of0 Tryz.func62 rfl (by kernel_rfl) rfl rfl (awp_sound (fz := fun _ => []) (im := fun s => s == 2) mixed _ _ _ _ (by kernel_rfl) ?_)
  simp +contextual -dsimp -implicitDefEqProofs (maxSteps := 5000000) only [go_sem, reduceIte, reduceCtorEq, Nat.reduceEqDiff, Nat.reduceBEq, Nat.reduceAdd, Nat.reduceLeDiff, Nat.reduceMul, Nat.reduceLT, Int.reduceEq, Int.reduceLT, Int.reduceLE]
  refine (c_svalidProgram t cl p cl' _ hn hp).det ?_
  unfold madeF
  cases hv : validB t p
  · simp +contextual -dsimp -implicitDefEqProofs (maxSteps := 5000000) only [go_sem, reduceIte, reduceCtorEq, Nat.reduceEqDiff, Nat.reduceBEq, Nat.reduceAdd, Nat.reduceLeDiff, Nat.reduceMul, Nat.reduceLT, Int.reduceEq, Int.reduceLT, Int.reduceLE]
    exact ⟨true, rfl⟩
  · simp +contextual -dsimp -implicitDefEqProofs (maxSteps := 5000000) only [go_sem, reduceIte, reduceCtorEq, Nat.reduceEqDiff, Nat.reduceBEq, Nat.reduceAdd, Nat.reduceLeDiff, Nat.reduceMul, Nat.reduceLT, Int.reduceEq, Int.reduceLT, Int.reduceLE]
    exact ⟨cl', rfl⟩
end
section
open Go Go.Sim
set_option maxRecDepth 100000

/-- The first 'else' of a try. -/
def elseF : Fo → Nat → Option (Nat × Fo)
  | .nil, _ => none
  | .node k _ _ kids rest, i => if followsK k = true then (if k = 9 then some (i, kids) else elseF rest (i + 1 + kids.size)) else none
/-- The last line that goes on with a try. -/
def lastB : Fo → Nat → Option (Nat × Int × Fo)
  | .nil, _ => none
  | .node k _ _ kids rest, i => if followsK k = true then (match lastB rest (i + 1 + kids.size) with | some x => some x | none => some (i, k, kids)) else none
/-- The first line of a try that catches a class. -/
def catchF (t : List Class) (c : Int) : Fo → Nat → Option (Nat × Fo)
  | .nil, _ => none
  | .node k a _ kids rest, i => if followsK k = true then (if k = 8 ∧ isF t c a = true then some (i, kids) else catchF t c rest (i + 1 + kids.size)) else none
def finR (t : List Class) (f : Fo) (i : Nat) (e : En) (h : Int) (s : RS) : En × RS :=
  match lastB f i with
  | some (q, k, ks) => if k = 10 then (fun l : En × RS => (if l.1.ed = 0 then e else l.1, l.2)) (runF t ks (q + 1) none (if e.ed = 2 then e.val else h) s) else (e, s)
  | none => (e, s)
def midR (t : List Class) (f : Fo) (i : Nat) (e : En) (h : Int) (s : RS) : En × RS :=
  if e.ed = 0 then (match elseF f i with | some (q, ks) => runF t ks (q + 1) none h s | none => (e, s))
  else if e.ed = 2 then (match catchF t (clsOf s e.val) f i with | some (q, ks) => runF t ks (q + 1) none e.val s | none => (e, s))
  else (e, s)
theorem headsK_mem {k : Int} : ∀ {f : Fo}, k ∈ headsK f → followsK k = true
  | .nil, h => by cases h
  | .node k' a b kids rest, h => by
    simp only [headsK] at h
    split at h
    · rename_i hk
      rcases List.mem_cons.1 h with rfl | h
      · exact hk
      · exact headsK_mem h
    · cases h
theorem tryG_ten {ks : List Int} (hf : ∀ k ∈ ks, followsK k = true) (h : tryG 10 ks = true) : ks = [] := by
  cases ks with
  | nil => rfl
  | cons k ks =>
    simp only [tryG, Bool.and_eq_true, Bool.or_eq_true, decide_eq_true_eq] at h
    omega
theorem chain_empty {t : List Class} {f : Fo} (h : headsK f = []) {i : Nat} {st e : En} {g : Int} {s : RS} : chainR t f i st e g s = (e, s) ∧ lastB f i = none ∧ elseF f i = none ∧ ∀ c, catchF t c f i = none := by
  cases f with
  | nil => exact ⟨rfl, rfl, rfl, fun _ => rfl⟩
  | node k a b kids rest =>
    simp only [headsK] at h
    split at h
    · cases h
    · rename_i hk
      simp [chainR, lastB, elseF, catchF, hk]
/-- Behind what has been run of a try. -/
theorem chain_fin {t : List Class} : ∀ (f : Fo) (i : Nat) (st e : En) (h : Int) (s : RS) (last : Int), tryG last (headsK f) = true → (st.ed ≠ 2 ∨ 8 < last) → (st.ed ≠ 0 ∨ 9 ≤ last) → chainR t f i st e h s = finR t f i e h s
  | .nil, i, st, e, h, s, last, _, _, _ => rfl
  | .node k a b kids rest, i, st, e, h, s, last, hg, c1, c2 => by
    by_cases hk : followsK k = true
    · have hk' := hk
      simp only [followsK, inR, Bool.and_eq_true, decide_eq_true_eq] at hk'
      simp only [headsK, hk, if_true, tryG, Bool.and_eq_true, Bool.or_eq_true, decide_eq_true_eq] at hg
      obtain ⟨g1, g2⟩ := hg
      by_cases k10 : k = 10
      · subst k10
        have he := tryG_ten (fun k hk => headsK_mem hk) g2
        simp only [chainR, hk, if_true, show ¬ (10 : Int) = 8 by decide, show ¬ (10 : Int) = 9 by decide, if_false]
        rw [(chain_empty (t := t) he).1]
        have hl : lastB (.node 10 a b kids rest) i = some (i, 10, kids) := by
          simp only [lastB, hk, if_true]; rw [(chain_empty (t := t) (e := e) (st := st) (g := h) (s := s) he).2.1]
        unfold finR
        rw [hl]
        simp
      · have hrest : chainR t (.node k a b kids rest) i st e h s = chainR t rest (i + 1 + kids.size) st e h s := by
          simp only [chainR, hk, if_true]
          by_cases k8 : k = 8
          · rw [if_pos k8, if_neg (by omega)]
          · have k9 : k = 9 := by omega
            rw [if_neg k8, if_pos k9, if_neg (by omega)]
        rw [hrest]
        have hfin : finR t (.node k a b kids rest) i e h s = finR t rest (i + 1 + kids.size) e h s := by
          unfold finR
          simp only [lastB, hk, if_true]
          cases hl : lastB rest (i + 1 + kids.size) with
          | none => simp [k10]
          | some x => rfl
        rw [hfin]
        exact chain_fin rest _ st e h s k g2 (by omega) (by omega)
    · have he : headsK (.node k a b kids rest) = [] := by simp [headsK, hk]
      have := chain_empty (t := t) (i := i) (st := st) (e := e) (g := h) (s := s) he
      rw [this.1]
      unfold finR
      rw [this.2.1]
theorem finR_skip {t : List Class} {k a b : Int} {kids rest : Fo} {i : Nat} {e : En} {h : Int} {s : RS} (hk : followsK k = true) (k10 : k ≠ 10) : finR t (.node k a b kids rest) i e h s = finR t rest (i + 1 + kids.size) e h s := by
  unfold finR
  simp only [lastB, hk, if_true]
  cases hl : lastB rest (i + 1 + kids.size) with
  | none => simp [k10]
  | some x => rfl
/-- What goes on with a try, as the reference takes it. -/
theorem chain_spec {t : List Class} : ∀ (f : Fo) (i : Nat) (e : En) (h : Int) (s : RS) (last : Int), tryG last (headsK f) = true → chainR t f i e e h s = finR t f i (midR t f i e h s).1 h (midR t f i e h s).2
  | .nil, i, e, h, s, last, _ => by
    unfold midR; simp [elseF, catchF, chainR, finR, lastB]
  | .node k a b kids rest, i, e, h, s, last, hg => by
    by_cases hk : followsK k = true
    · have hk' := hk
      simp only [followsK, inR, Bool.and_eq_true, decide_eq_true_eq] at hk'
      simp only [headsK, hk, if_true, tryG, Bool.and_eq_true, Bool.or_eq_true, decide_eq_true_eq] at hg
      obtain ⟨g1, g2⟩ := hg
      by_cases k8 : k = 8
      · subst k8
        by_cases hc : e.ed = 2 ∧ isF t (clsOf s e.val) a = true
        · have hm : midR t (.node 8 a b kids rest) i e h s = runF t kids (i + 1) none e.val s := by
            unfold midR
            rw [if_neg (by omega), if_pos hc.1]
            simp only [catchF, hk, if_true, hc.2, and_self]
          rw [hm, finR_skip hk (by decide)]
          simp only [chainR, hk, if_true, hc, and_self]
          exact chain_fin rest _ ⟨-1, 0⟩ _ h _ 8 g2 (.inl (by show (-1 : Int) ≠ 2; decide)) (.inl (by show (-1 : Int) ≠ 0; decide))
        · have hm : midR t (.node 8 a b kids rest) i e h s = midR t rest (i + 1 + kids.size) e h s := by
            unfold midR
            by_cases e0 : e.ed = 0
            · rw [if_pos e0, if_pos e0]
              simp only [elseF, hk, if_true, show ¬ (8 : Int) = 9 by decide, if_false]
            · rw [if_neg e0, if_neg e0]
              by_cases e2 : e.ed = 2
              · rw [if_pos e2, if_pos e2]
                have hn : ¬ (isF t (clsOf s e.val) a = true) := fun q => hc ⟨e2, q⟩
                simp only [catchF, hk, if_true, hn, Bool.false_eq_true, and_false, if_false]
              · rw [if_neg e2, if_neg e2]
          rw [hm, finR_skip hk (by decide)]
          have hr : chainR t (.node 8 a b kids rest) i e e h s = chainR t rest (i + 1 + kids.size) e e h s := by
            simp only [chainR, hk, if_true]; rw [if_neg hc]
          rw [hr]
          exact chain_spec rest _ e h s 8 g2
      · by_cases k9 : k = 9
        · subst k9
          by_cases e0 : e.ed = 0
          · have hm : midR t (.node 9 a b kids rest) i e h s = runF t kids (i + 1) none h s := by
              unfold midR
              rw [if_pos e0]
              simp only [elseF, hk, if_true]
            rw [hm, finR_skip hk (by decide)]
            simp only [chainR, hk, if_true, show ¬ (9 : Int) = 8 by decide, if_false, e0]
            exact chain_fin rest _ e _ h _ 9 g2 (.inl (by omega)) (.inr (by omega))
          · have hr : chainR t (.node 9 a b kids rest) i e e h s = chainR t rest (i + 1 + kids.size) e e h s := by
              simp only [chainR, hk, if_true, show ¬ (9 : Int) = 8 by decide, if_false]; rw [if_neg e0]
            have hm : midR t (.node 9 a b kids rest) i e h s = midR t rest (i + 1 + kids.size) e h s := by
              unfold midR
              rw [if_neg e0, if_neg e0]
              split
              · simp only [catchF, hk, if_true, show ¬ (9 : Int) = 8 by decide, false_and, if_false]
              · rfl
            rw [hm, hr, finR_skip hk (by decide)]
            exact chain_spec rest _ e h s 9 g2
        · have k10 : k = 10 := by omega
          subst k10
          have he := tryG_ten (fun k hk => headsK_mem hk) g2
          have ce := chain_empty (t := t) (i := i + 1 + kids.size) (st := e) (e := e) (g := h) (s := s) he
          have hm : midR t (.node 10 a b kids rest) i e h s = (e, s) := by
            unfold midR
            simp only [elseF, catchF, hk, if_true, show ¬ (10 : Int) = 9 by decide, show ¬ (10 : Int) = 8 by decide, false_and, if_false, ce.2.2.1, ce.2.2.2]
            split
            · rfl
            · split <;> rfl
          rw [hm]
          exact chain_fin (.node 10 a b kids rest) i e e h s 9 (by simp [headsK, hk, tryG, g2]) (.inr (by omega)) (.inr (by omega))
    · have he : headsK (.node k a b kids rest) = [] := by simp [headsK, hk]
      have ce := chain_empty (t := t) (i := i) (st := e) (e := e) (g := h) (s := s) he
      have hm : midR t (.node k a b kids rest) i e h s = (e, s) := by
        unfold midR
        simp only [ce.2.2.1, ce.2.2.2]
        split
        · rfl
        · split <;> rfl
      rw [hm, ce.1]
      unfold finR
      rw [ce.2.1]
theorem lastB_pos : ∀ (f : Fo) (i : Nat) (j : Nat), (j :: chainN f i).getLastD 0 = match lastB f i with | some (q, _, _) => q | none => j
  | .nil, i, j => rfl
  | .node k a b kids rest, i, j => by
    simp only [chainN, lastB]
    split
    · have := lastB_pos rest (i + 1 + kids.size) i
      rw [List.getLastD_cons] at this
      rw [List.getLastD_cons, List.getLastD_cons, this]
      cases lastB rest (i + 1 + kids.size) <;> rfl
    · rfl
def headNo : Fo → Bool
  | .nil => true
  | .node k _ _ _ _ => !followsK k
theorem okF_head {f : Fo} {lp : Bool} (h : okF f lp false = true) : headNo f = true := by
  cases f with
  | nil => rfl
  | node k a b kids rest =>
    simp only [headNo, Bool.not_eq_true']
    cases hk : followsK k with
    | false => rfl
    | true => simp [okF, hk] at h
theorem chainR_no {t : List Class} {f : Fo} (hf : headNo f = true) {i : Nat} {st e : En} {h : Int} {s : RS} : chainR t f i st e h s = (e, s) ∧ skipF f = f ∧ skipN f i = i := by
  cases f with
  | nil => exact ⟨rfl, rfl, rfl⟩
  | node k a b kids rest =>
    have hk : followsK k = false := by simpa [headNo] using hf
    simp [chainR, skipF, skipN, hk]
/-- Behind a try, where nothing goes on with it. -/
theorem runF_no {t : List Class} {f : Fo} (hf : headNo f = true) {i : Nat} {st e : En} {h : Int} {s : RS} : runF t f i (some (st, e)) h s = if e.ed = 0 then runF t f i none h s else (e, s) := by
  have := chainR_no (t := t) (i := i) (st := st) (e := e) (h := h) (s := s) hf
  rw [runF_some, this.1, this.2.1, this.2.2]
/-- The lines of a block that is right. -/
theorem okF_node {k a b : Int} {kids rest : Fo} {lp m : Bool} (h : okF (.node k a b kids rest) lp m = true) :
    (followsK k = true ∧ m = true ∧ okF kids lp false = true ∧ okF rest lp true = true) ∨
    (followsK k = false ∧ ((k = 7 ∧ tryOkF (headsK rest) = true ∧ okF kids lp false = true ∧ okF rest lp true = true) ∨
      (k ≠ 7 ∧ okF rest lp false = true ∧ (k = 11 → okF kids lp false = true) ∧ (k = 12 → okF kids true false = true) ∧ (k = 5 ∨ k = 6 → lp = true)))) := by
  simp only [okF] at h
  by_cases hf : followsK k = true
  · rw [if_pos hf] at h
    simp only [Bool.and_eq_true] at h
    exact .inl ⟨hf, h.1, h.2.1, h.2.2⟩
  · right
    refine ⟨by simpa using hf, ?_⟩
    rw [if_neg hf] at h
    by_cases h56 : k = 5 ∨ k = 6
    · rw [if_pos h56, Bool.and_eq_true] at h
      exact .inr ⟨by omega, h.2, fun q => by omega, fun q => by omega, fun _ => h.1⟩
    · rw [if_neg h56] at h
      by_cases h7 : k = 7
      · rw [if_pos h7] at h
        simp only [Bool.and_eq_true] at h
        exact .inl ⟨h7, h.1, h.2.1, h.2.2⟩
      · rw [if_neg h7] at h
        by_cases h11 : k = 11
        · rw [if_pos h11, Bool.and_eq_true] at h
          exact .inr ⟨h7, h.2, fun _ => h.1, fun q => by omega, fun q => absurd q h56⟩
        · rw [if_neg h11] at h
          by_cases h12 : k = 12
          · rw [if_pos h12, Bool.and_eq_true] at h
            exact .inr ⟨h7, h.2, fun q => absurd q h11, fun _ => h.1, fun q => absurd q h56⟩
          · rw [if_neg h12] at h
            exact .inr ⟨h7, h, fun q => absurd q h11, fun q => absurd q h12, fun q => absurd q h56⟩
end
section
open Go Go.Sim
set_option maxRecDepth 100000

/-- Programs with other numbers that are told. -/
def mapA (g : Int → Int) : Fo → Fo
  | .nil => .nil
  | .node k a b kids rest => .node k (if k = 1 then g a else a) b (mapA g kids) (mapA g rest)
theorem mapA_id : ∀ f : Fo, mapA (fun a => a) f = f
  | .nil => rfl
  | .node k a b kids rest => by simp only [mapA, mapA_id kids, mapA_id rest, ite_self]
/-- Nothing is raised again. -/
def noAg : Fo → Bool
  | .nil => true
  | .node k _ _ kids rest => !decide (k = 3) && (noAg kids && noAg rest)
/-- A number of a fault, further on. -/
def shv (n : Nat) (v : Int) : Int := if 0 ≤ v then v + n else v
def shf (n : Nat) (x : Fault) : Fault := { x with cause := shv n x.cause, ctx := shv n x.ctx }
theorem shv_zero (v : Int) : shv 0 v = v := by unfold shv; split <;> simp
theorem shf_zero (x : Fault) : shf 0 x = x := by simp [shf, shv_zero]
/-- How two runs are alike: logs as 'LR' says, faults behind 'F'; 'wk': but for what was handled. -/
structure SimP where
  LR : List Int → List Int → Prop
  F : List Fault
  wk : Bool
structure SR (P : SimP) (s s' : RS) : Prop where
  log : P.LR s.log s'.log
  fs : ∃ X, s'.fs = P.F ++ X ∧ (P.wk = true → X.map (·.cls) = s.fs.map (·.cls)) ∧ (P.wk = false → X = s.fs.map (shf P.F.length))
def ER (P : SimP) (e e' : En) : Prop := e'.ed = e.ed ∧ (e.ed = 2 → 0 ≤ e.val ∧ e'.val = e.val + P.F.length) ∧ (e.ed ≠ 2 → e'.val = e.val)
def HR (P : SimP) (h h' : Int) : Prop := (0 ≤ h ∧ h' = h + P.F.length) ∨ (h < 0 ∧ (P.wk = true ∨ h' < 0))
def RR (P : SimP) (r r' : En × RS) : Prop := ER P r.1 r'.1 ∧ SR P r.2 r'.2
def PR (P : SimP) : Option (En × En) → Option (En × En) → Prop
  | none, none => True
  | some q, some q' => ER P q.1 q'.1 ∧ ER P q.2 q'.2
  | _, _ => False
section
variable {P : SimP}
theorem er_same {e : En} (h : e.ed ≠ 2) : ER P e e := ⟨rfl, fun q => absurd q h, fun _ => rfl⟩
theorem SR.len {s s' : RS} (h : SR P s s') : s'.fs.length = P.F.length + s.fs.length := by
  obtain ⟨X, e, h1, h2⟩ := h.fs
  have : X.length = s.fs.length := by
    cases hw : P.wk
    · rw [h2 hw, List.length_map]
    · have := congrArg List.length (h1 hw)
      simpa using this
  rw [e, List.length_append, this]
theorem SR.cls {s s' : RS} (h : SR P s s') {v : Int} (hv : 0 ≤ v) : clsOf s' (v + P.F.length) = clsOf s v := by
  obtain ⟨X, e, h1, h2⟩ := h.fs
  have hc : X.map (·.cls) = s.fs.map (·.cls) := by
    cases hw : P.wk
    · rw [h2 hw, List.map_map]; rfl
    · exact h1 hw
  have hg : ∀ (l : List Fault) (k : Nat), (l.getD k default).cls = (l.map (·.cls)).getD k (default : Fault).cls := fun l k => by
    simp only [List.getD_eq_getElem?_getD, List.getElem?_map]
    cases l[k]? <;> rfl
  unfold clsOf
  have e2 : (v + (P.F.length : Int)).toNat = P.F.length + v.toNat := by omega
  rw [e, e2]
  have e3 : (P.F ++ X).getD (P.F.length + v.toNat) default = X.getD v.toNat default := by
    simp only [List.getD_eq_getElem?_getD]
    rw [List.getElem?_append_right (by omega), Nat.add_sub_cancel_left]
  rw [e3, hg, hg, hc]
theorem SR.tell {s s' : RS} (h : SR P s s') {n n' : Int} (hl : P.LR s.log s'.log → P.LR (s.log ++ [n]) (s'.log ++ [n'])) : SR P (s.tell n) (s'.tell n') := ⟨hl h.log, h.fs⟩
theorem SR.jump {s s' : RS} (h : SR P s s') (k : Int) (i i' : Nat) : SR P (s.jump k i) (s'.jump k i') := by
  unfold RS.jump
  constructor
  · split <;> split <;> exact h.log
  · split <;> split <;> exact h.fs
theorem SR.raise {s s' : RS} (h : SR P s s') (c d : Int) {g g' : Int} (hg : HR P g g') : SR P (s.raise c d g) (s'.raise c d g') := by
  refine ⟨h.log, ?_⟩
  obtain ⟨X, e, h1, h2⟩ := h.fs
  refine ⟨X ++ [⟨c, d, -1, if 0 ≤ g' then g' else -1, false⟩], ?_, fun q => ?_, fun q => ?_⟩
  · show raiseF s'.fs c d g' = _
    unfold raiseF
    rw [e, List.append_assoc]
  · show _ = (raiseF s.fs c d g).map (·.cls)
    unfold raiseF
    rw [List.map_append, List.map_append, h1 q]; rfl
  · show _ = (raiseF s.fs c d g).map (shf P.F.length)
    unfold raiseF
    rw [List.map_append, ← h2 q]
    congr 1
    rcases hg with ⟨g0, rfl⟩ | ⟨g0, g1⟩
    · have h3 : 0 ≤ g + (P.F.length : Int) := by omega
      simp [shf, shv, g0, h3]
    · have g2 : g' < 0 := by
        rcases g1 with g1 | g1
        · rw [q] at g1; cases g1
        · exact g1
      have n1 : ¬ 0 ≤ g := by omega
      have n2 : ¬ 0 ≤ g' := by omega
      simp [shf, shv, n1, n2]
theorem SR.raised {s s' : RS} (h : SR P s s') : ER P ⟨2, s.fs.length⟩ ⟨2, s'.fs.length⟩ := by
  refine ⟨rfl, fun _ => ⟨by show (0 : Int) ≤ s.fs.length; omega, ?_⟩, fun q => absurd rfl q⟩
  show (s'.fs.length : Int) = s.fs.length + P.F.length
  rw [h.len]; omega
theorem SR.line {g : Int → Int} (hA : ∀ l l' a, P.LR l l' → P.LR (l ++ [a]) (l' ++ [g a])) {s s' : RS} (h : SR P s s') (k a b : Int) {h0 h1 : Int} (hh : HR P h0 h1) (hk : P.wk = true → k ≠ 3) : RR P (lineS k a b h0 s) (lineS k (if k = 1 then g a else a) b h1 s') := by
  unfold lineS
  by_cases k1 : k = 1
  · simp only [k1, if_true]
    exact ⟨er_same (by show (0 : Int) ≠ 2; decide), h.tell fun q => hA _ _ a q⟩
  simp only [k1, if_false]
  by_cases k2 : k = 2
  · simp only [k2, if_true]
    exact ⟨h.raised, h.raise a b hh⟩
  simp only [k2, if_false]
  by_cases k3 : k = 3
  · simp only [k3, if_true]
    have hw : P.wk = false := by
      cases q : P.wk
      · rfl
      · exact absurd k3 (hk q)
    rcases hh with ⟨g0, rfl⟩ | ⟨g0, g1⟩
    · rw [if_neg (by omega), if_neg (by omega)]
      exact ⟨⟨rfl, fun _ => ⟨g0, rfl⟩, fun q => absurd rfl q⟩, h⟩
    · have g2 : h1 < 0 := by
        rcases g1 with g1 | g1
        · rw [hw] at g1; cases g1
        · exact g1
      rw [if_pos g0, if_pos g2]
      exact ⟨h.raised, h.raise 0 0 (.inr ⟨by decide, .inr (by decide)⟩)⟩
  simp only [k3, if_false]
  by_cases k4 : k = 4
  · simp only [k4, if_true]; exact ⟨er_same (by show (1 : Int) ≠ 2; decide), h⟩
  simp only [k4, if_false]
  by_cases k5 : k = 5
  · simp only [k5, if_true]; exact ⟨er_same (by show (3 : Int) ≠ 2; decide), h⟩
  simp only [k5, if_false]
  by_cases k6 : k = 6
  · simp only [k6, if_true]; exact ⟨er_same (by show (4 : Int) ≠ 2; decide), h⟩
  simp only [k6, if_false]
  exact ⟨er_same (by show (0 : Int) ≠ 2; decide), h⟩
theorem rr_loop {b b' : RS → En × RS} (hb : ∀ s s', SR P s s' → RR P (b s) (b' s')) : ∀ (n : Nat) (s s' : RS), SR P s s' → RR P (loopS b n s) (loopS b' n s')
  | 0, s, s', h => ⟨er_same (by show (0 : Int) ≠ 2; decide), h⟩
  | n + 1, s, s', h => by
    have h1 := hb s s' h
    simp only [loopS]
    rw [h1.1.1]
    split
    · exact h1
    · split
      · exact ⟨er_same (by show (0 : Int) ≠ 2; decide), h1.2⟩
      · exact rr_loop hb n _ _ h1.2
theorem noAg_node {k a b : Int} {kids rest : Fo} (h : noAg (.node k a b kids rest) = true) : k ≠ 3 ∧ noAg kids = true ∧ noAg rest = true := by
  simpa [noAg] using h
end
/-- Runs go alike. -/
theorem sim_run {P : SimP} {g : Int → Int} (hA : ∀ l l' a, P.LR l l' → P.LR (l ++ [a]) (l' ++ [g a])) (hB : ∀ l l' a, P.LR l l' → P.LR (l ++ [a]) (l' ++ [a])) (t : List Class) :
    ∀ (f : Fo) (i i' : Nat) (pd pd' : Option (En × En)) (h h' : Int) (s s' : RS), (P.wk = true → noAg f = true) → PR P pd pd' → HR P h h' → SR P s s' → RR P (runF t f i pd h s) (runF t (mapA g f) i' pd' h' s') := by
  intro f
  induction f with
  | nil =>
    intro i i' pd pd' h h' s s' _ hp _ hs
    cases pd with
    | none =>
      cases pd' with
      | none => exact ⟨er_same (by show (0 : Int) ≠ 2; decide), hs⟩
      | some q' => exact absurd hp id
    | some q =>
      cases pd' with
      | none => exact absurd hp id
      | some q' =>
        simp only [runF, mapA]
        rw [hp.2.1]
        split
        · exact ⟨er_same (by show (0 : Int) ≠ 2; decide), hs⟩
        · exact ⟨hp.2, hs⟩
  | node k a b kids rest ihk ihr =>
    intro i i' pd pd' h h' s s' hn hp hh hs
    have nk : P.wk = true → k ≠ 3 := fun q => (noAg_node (hn q)).1
    have n1 : P.wk = true → noAg kids = true := fun q => (noAg_node (hn q)).2.1
    have n2 : P.wk = true → noAg rest = true := fun q => (noAg_node (hn q)).2.2
    have el : mapA g (.node k a b kids rest) = .node k (if k = 1 then g a else a) b (mapA g kids) (mapA g rest) := rfl
    have hline : k ≠ 7 → RR P ((fun r : En × RS => if r.1.ed = 0 then runF t rest (i + 1 + kids.size) none h r.2 else r) (lineR k a b i h (fun s => runF t kids (i + 1) none h s) s)) ((fun r : En × RS => if r.1.ed = 0 then runF t (mapA g rest) (i' + 1 + (mapA g kids).size) none h' r.2 else r) (lineR k (if k = 1 then g a else a) b i' h' (fun s => runF t (mapA g kids) (i' + 1) none h' s) s')) := by
      intro _
      have h1 : RR P (lineR k a b i h (fun s => runF t kids (i + 1) none h s) s) (lineR k (if k = 1 then g a else a) b i' h' (fun s => runF t (mapA g kids) (i' + 1) none h' s) s') := by
        unfold lineR
        by_cases k11 : k = 11
        · rw [if_pos k11, if_pos k11, if_neg (by omega)]
          have h2 := ihk (i + 1) (i' + 1) none none h h' (s.tell (100 + a)) (s'.tell (100 + a)) n1 trivial hh (hs.tell fun q => hB _ _ _ q)
          unfold withS
          rw [h2.1.1]
          refine ⟨?_, h2.2.tell fun q => hB _ _ _ q⟩
          show ER P (if _ then _ else _) (if _ then _ else _)
          split
          · exact er_same (by show (0 : Int) ≠ 2; decide)
          · exact h2.1
        · rw [if_neg k11, if_neg k11]
          by_cases k12 : k = 12
          · rw [if_pos k12, if_pos k12, if_neg (by omega)]
            exact rr_loop (fun s s' hs => ihk (i + 1) (i' + 1) none none h h' s s' n1 trivial hh hs) _ _ _ hs
          · rw [if_neg k12, if_neg k12]
            exact (hs.jump k i i').line hA k a b hh nk
      generalize lineR k a b i h (fun s => runF t kids (i + 1) none h s) s = r at h1 ⊢
      generalize lineR k (if k = 1 then g a else a) b i' h' (fun s => runF t (mapA g kids) (i' + 1) none h' s) s' = r' at h1 ⊢
      show RR P (if r.1.ed = 0 then _ else r) (if r'.1.ed = 0 then _ else r')
      rw [h1.1.1]
      split
      · exact ihr _ _ none none h h' _ _ n2 trivial hh h1.2
      · exact h1
    have go : ∀ (g0 g1 : Int) (st st' : En) (e e' : En → En), HR P g0 g1 → ER P st st' → (∀ x x', ER P x x' → ER P (e x) (e' x')) → RR P ((fun r : En × RS => runF t rest (i + 1 + kids.size) (some (st, e r.1)) h r.2) (runF t kids (i + 1) none g0 s)) ((fun r : En × RS => runF t (mapA g rest) (i' + 1 + (mapA g kids).size) (some (st', e' r.1)) h' r.2) (runF t (mapA g kids) (i' + 1) none g1 s')) := by
      intro g0 g1 st st' e e' hg hst he
      have h1 := ihk (i + 1) (i' + 1) none none g0 g1 s s' n1 trivial hg hs
      exact ihr _ _ (some _) (some _) h h' _ _ n2 ⟨hst, he _ _ h1.1⟩ hh h1.2
    have htry : RR P ((fun r : En × RS => runF t rest (i + 1 + kids.size) (some (r.1, r.1)) h r.2) (runF t kids (i + 1) none h s)) ((fun r : En × RS => runF t (mapA g rest) (i' + 1 + (mapA g kids).size) (some (r.1, r.1)) h' r.2) (runF t (mapA g kids) (i' + 1) none h' s')) := by
      have h1 := ihk (i + 1) (i' + 1) none none h h' s s' n1 trivial hh hs
      exact ihr _ _ (some _) (some _) h h' _ _ n2 ⟨h1.1, h1.1⟩ hh h1.2
    rw [el]
    cases pd with
    | none =>
      cases pd' with
      | some q' => exact absurd hp id
      | none =>
        simp only [runF]
        split
        · exact htry
        · exact hline ‹_›
    | some q =>
      cases pd' with
      | none => exact absurd hp id
      | some q' =>
        obtain ⟨p1, p2⟩ := hp
        simp only [runF]
        by_cases hk : followsK k = true
        · have hk' := hk
          simp only [followsK, inR, Bool.and_eq_true, decide_eq_true_eq] at hk'
          have k1 : ¬ k = 1 := by omega
          simp only [hk, if_true, k1, if_false]
          have pass : RR P (runF t rest (i + 1 + kids.size) (some q) h s) (runF t (mapA g rest) (i' + 1 + (mapA g kids).size) (some q') h' s') := ihr _ _ (some _) (some _) h h' _ _ n2 ⟨p1, p2⟩ hh hs
          split
          · by_cases hc : q.1.ed = 2
            · have v0 := p1.2.1 hc
              have ec : clsOf s' q'.1.val = clsOf s q.1.val := by rw [v0.2]; exact hs.cls v0.1
              rw [p1.1, ec]
              split
              · exact go _ _ ⟨-1, 0⟩ ⟨-1, 0⟩ (fun e => e) (fun e => e) (.inl v0) (er_same (by show (-1 : Int) ≠ 2; decide)) (fun _ _ h => h)
              · exact pass
            · rw [p1.1, if_neg (fun q => hc q.1), if_neg (fun q => hc q.1)]
              exact pass
          · split
            · rw [p1.1]
              split
              · exact go h h' q.1 q'.1 (fun e => e) (fun e => e) hh p1 (fun _ _ h => h)
              · exact pass
            · refine go _ _ q.1 q'.1 (fun e => if e.ed = 0 then q.2 else e) (fun e => if e.ed = 0 then q'.2 else e) ?_ p1 (fun x x' hx => ?_)
              · rw [p2.1]
                split
                · exact .inl (p2.2.1 ‹_›)
                · exact hh
              · show ER P (if _ then _ else _) (if _ then _ else _)
                rw [hx.1]
                split
                · exact p2
                · exact hx
        · rw [if_neg hk, if_neg hk, p2.1]
          split
          · split
            · exact htry
            · exact hline ‹_›
          · exact ⟨p2, hs⟩
end
section
open Go Go.Sim
set_option maxRecDepth 100000

/-- How lines may end, in a loop or not. -/
def EdOk (lp : Bool) (e : En) : Prop := (e.ed = 0 → e.val = 0) ∧ (e.ed = 0 ∨ e.ed = 1 ∨ e.ed = 2 ∨ (lp = true ∧ (e.ed = 3 ∨ e.ed = 4)))
theorem ed_next (lp : Bool) : EdOk lp .next := ⟨fun _ => rfl, .inl rfl⟩
theorem ed_of {lp : Bool} {e : En} (h : e.ed = 1 ∨ e.ed = 2) : EdOk lp e := ⟨fun q => by omega, by omega⟩
theorem EdOk.up {e : En} {lp : Bool} (h : EdOk false e) : EdOk lp e := ⟨h.1, by have := h.2; simp at this; omega⟩
theorem ed_loop {b : RS → En × RS} (hb : ∀ s, EdOk true (b s).1) {lp : Bool} : ∀ (n : Nat) (s : RS), EdOk lp (loopS b n s).1
  | 0, s => ed_next lp
  | n + 1, s => by
    simp only [loopS]
    split
    · exact ed_of ‹_›
    · split
      · exact ed_next lp
      · exact ed_loop hb n _
theorem ed_lineS {k a b h : Int} {s : RS} {lp : Bool} (hk : k = 5 ∨ k = 6 → lp = true) : EdOk lp (lineS k a b h s).1 := by
  unfold lineS
  split
  · exact ed_next lp
  · split
    · exact ed_of (.inr rfl)
    · split
      · split
        · exact ed_of (.inr rfl)
        · exact ed_of (.inr rfl)
      · split
        · exact ed_of (.inl rfl)
        · split
          · exact ⟨fun _ => rfl, .inr (.inr (.inr ⟨hk (by omega), .inl rfl⟩))⟩
          · split
            · exact ⟨fun _ => rfl, .inr (.inr (.inr ⟨hk (by omega), .inr rfl⟩))⟩
            · exact ed_next lp
theorem ed_run (t : List Class) : ∀ (f : Fo) (lp : Bool) (i : Nat) (pd : Option (En × En)) (h : Int) (s : RS), okF f lp pd.isSome = true → (∀ q, pd = some q → EdOk lp q.2) → EdOk lp (runF t f i pd h s).1 := by
  intro f
  induction f with
  | nil =>
    intro lp i pd h s _ hq
    cases pd with
    | none => exact ed_next lp
    | some q =>
      simp only [runF]
      split
      · exact ed_next lp
      · exact hq q rfl
  | node k a b kids rest ihk ihr =>
    intro lp i pd h s hok hq
    have none_case : ∀ (i : Nat) (s : RS), okF (.node k a b kids rest) lp false = true → EdOk lp (runF t (.node k a b kids rest) i none h s).1 := by
      intro i s hok
      rcases okF_node hok with ⟨_, q, _⟩ | ⟨hf, ⟨h7, _, o1, o2⟩ | ⟨h7, o1, o2, o3, o4⟩⟩
      · cases q
      · subst h7
        rw [runF_try]
        exact ihr lp _ (some _) h _ o2 (fun q hq => by cases hq; exact ihk lp _ none h s o1 (fun q hq => by cases hq))
      · rw [runF_line h7]
        have hl : EdOk lp (lineR k a b i h (fun s => runF t kids (i + 1) none h s) s).1 := by
          unfold lineR
          by_cases k11 : k = 11
          · rw [if_pos k11]
            have h1 := ihk lp (i + 1) none h (s.tell (100 + a)) (o2 k11) (fun q hq => by cases hq)
            show EdOk lp (if _ then _ else _)
            split
            · exact ed_next lp
            · exact h1
          · rw [if_neg k11]
            by_cases k12 : k = 12
            · rw [if_pos k12]
              exact ed_loop (fun s => ihk true (i + 1) none h s (o3 k12) (fun q hq => by cases hq)) _ _
            · rw [if_neg k12]
              exact ed_lineS o4
        generalize lineR k a b i h (fun s => runF t kids (i + 1) none h s) s = r at hl ⊢
        show EdOk lp (if r.1.ed = 0 then _ else r).1
        split
        · exact ihr lp _ none h _ o1 (fun q hq => by cases hq)
        · exact hl
    cases pd with
    | none => exact none_case i s hok
    | some q =>
      have hq2 := hq q rfl
      rcases okF_node hok with ⟨hf, _, o1, o2⟩ | ⟨hf, _⟩
      · simp only [runF, hf, if_true]
        have go : ∀ (g : Int) (st : En) (e : En → En), (∀ x, EdOk lp x → EdOk lp (e x)) → EdOk lp ((fun r : En × RS => runF t rest (i + 1 + kids.size) (some (st, e r.1)) h r.2) (runF t kids (i + 1) none g s)).1 := by
          intro g st e he
          exact ihr lp _ (some _) h _ o2 (fun q hq => by cases hq; exact he _ (ihk lp _ none g s o1 (fun q hq => by cases hq)))
        split
        · split
          · exact go q.1.val ⟨-1, 0⟩ (fun e => e) (fun _ h => h)
          · exact ihr lp _ (some _) h _ o2 (fun q' hq' => by cases hq'; exact hq2)
        · split
          · split
            · exact go h q.1 (fun e => e) (fun _ h => h)
            · exact ihr lp _ (some _) h _ o2 (fun q' hq' => by cases hq'; exact hq2)
          · refine go _ q.1 (fun e => if e.ed = 0 then q.2 else e) (fun x hx => ?_)
            show EdOk lp (if _ then _ else _)
            split
            · exact hq2
            · exact hx
      · have hno : headNo (.node k a b kids rest) = true := by simp [headNo, hf]
        rw [show q = (q.1, q.2) from rfl, runF_no hno]
        split
        · refine none_case i s ?_
          have : okF (.node k a b kids rest) lp true = okF (.node k a b kids rest) lp false := by simp only [okF, hf]; rfl
          rw [← this]; exact hok
        · exact hq2
theorem ed_top {t : List Class} {p : List Line} (h : ValidP t p) : ((runP t p).1.ed = 0 → (runP t p).1.val = 0) ∧ ((runP t p).1.ed = 0 ∨ (runP t p).1.ed = 1 ∨ (runP t p).1.ed = 2) := by
  obtain ⟨h1, h2, h3, h4, h5, h6⟩ := validP_forest h
  have := ed_run t (forestP p) false 0 none (-1) rs0 h4 (fun q hq => by cases hq)
  obtain ⟨a1, a2⟩ := this
  refine ⟨a1, ?_⟩
  have e : (runF t (forestP p) 0 none (-1) rs0).1.ed = (runP t p).1.ed := rfl
  simp at a2; omega

/-- Runs that are the same but for where the first jump is. -/
def REq (r r' : En × RS) : Prop := r'.1 = r.1 ∧ r'.2.log = r.2.log ∧ r'.2.fs = r.2.fs
theorem REq.refl (r : En × RS) : REq r r := ⟨rfl, rfl, rfl⟩
theorem REq.symm {r r' : En × RS} (h : REq r r') : REq r' r := ⟨h.1.symm, h.2.1.symm, h.2.2.symm⟩
theorem REq.trans {r r' r'' : En × RS} (h : REq r r') (g : REq r' r'') : REq r r'' := ⟨g.1.trans h.1, g.2.1.trans h.2.1, g.2.2.trans h.2.2⟩
theorem REq.res {r r' : En × RS} (h : REq r r') : resOf r' = resOf r := by
  unfold resOf
  rw [h.1, h.2.1, h.2.2]
/-- Logs and faults go on behind others. -/
abbrev behind (L : List Int) (F : List Fault) (wk : Bool) : SimP := ⟨fun l l' => l' = L ++ l, F, wk⟩
theorem sim_behind (L : List Int) (F : List Fault) (wk : Bool) (t : List Class) (f : Fo) (i i' : Nat) (h h' : Int) (s s' : RS) (hn : wk = true → noAg f = true) (hh : HR (behind L F wk) h h') (hs : SR (behind L F wk) s s') : RR (behind L F wk) (runF t f i none h s) (runF t f i' none h' s') := by
  have := sim_run (P := behind L F wk) (g := fun a => a) (fun l l' a q => by show _ = _; rw [show l' = L ++ l from q, List.append_assoc]) (fun l l' a q => by show _ = _; rw [show l' = L ++ l from q, List.append_assoc]) t f i i' none none h h' s s' hn trivial hh hs
  rwa [mapA_id] at this
theorem sr_zero {s s' : RS} (h1 : s'.log = s.log) (h2 : s'.fs = s.fs) : SR (behind [] [] false) s s' :=
  have e : shf (behind [] [] false).F.length = fun x => x := funext shf_zero
  ⟨h1, s'.fs, rfl, (fun q => by cases q), (fun _ => by rw [h2, e, List.map_id'])⟩
theorem rr_zero {r r' : En × RS} (h : RR (behind [] [] false) r r') : REq r r' := by
  obtain ⟨⟨a1, a2, a3⟩, b1, X, b2, b3, b4⟩ := h
  have e : shf (behind [] [] false).F.length = fun x => x := funext shf_zero
  have b5 := b4 rfl
  rw [e, List.map_id'] at b5
  refine ⟨?_, b1, by rw [b2, b5]; rfl⟩
  have hv : r'.1.val = r.1.val := by
    by_cases c : r.1.ed = 2
    · have := (a2 c).2; simpa using this
    · exact a3 c
  cases h1 : r.1; cases h2 : r'.1
  rw [h1, h2] at a1 hv
  simp only at a1 hv
  rw [a1, hv]
theorem run_eq (t : List Class) (f : Fo) (i i' : Nat) (h : Int) (s s' : RS) (h1 : s'.log = s.log) (h2 : s'.fs = s.fs) : REq (runF t f i none h s) (runF t f i' none h s') :=
  rr_zero (sim_behind [] [] false t f i i' h h s s' (fun q => by cases q) (by
    unfold HR
    show (0 ≤ h ∧ h = h + ((0 : Nat) : Int)) ∨ (h < 0 ∧ (false = true ∨ h < 0))
    omega) (sr_zero h1 h2))
/-- Lines behind others. -/
def appF : Fo → Fo → Fo
  | .nil, g => g
  | .node k a b kids rest, g => .node k a b kids (appF rest g)
theorem appF_flat : ∀ (f g : Fo) (d : Int), (appF f g).flat d = f.flat d ++ g.flat d
  | .nil, g, d => rfl
  | .node k a b kids rest, g, d => by simp only [appF, Fo.flat, appF_flat rest g d, List.cons_append, List.append_assoc]
theorem run_app {t : List Class} {g : Fo} (hg : headNo g = true) : ∀ (f : Fo) (i : Nat) (pd : Option (En × En)) (h : Int) (s : RS), runF t (appF f g) i pd h s = if (runF t f i pd h s).1.ed = 0 then runF t g (i + f.size) none h (runF t f i pd h s).2 else runF t f i pd h s
  | .nil, i, none, h, s => by simp [appF, runF, En.next, Fo.size]
  | .nil, i, some q, h, s => by
    rw [show q = (q.1, q.2) from rfl]
    simp only [appF, runF_no hg, runF, Fo.size, Nat.add_zero]
    by_cases c : q.2.ed = 0
    · simp [c, En.next]
    · simp [c]
  | .node k a b kids rest, i, pd, h, s => by
    have ih := fun i pd s => run_app (t := t) hg rest i pd h s
    have e : i + (Fo.node k a b kids rest).size = i + 1 + kids.size + rest.size := by simp only [Fo.size]; omega
    rw [e]
    cases pd with
    | none =>
      simp only [appF, runF]
      split
      · rw [ih]
      · split
        · rw [ih]
        · rfl
    | some q =>
      simp only [appF, runF]
      split
      · split
        · split <;> rw [ih]
        · split
          · split <;> rw [ih]
          · rw [ih]
      · split
        · split
          · rw [ih]
          · split
            · rw [ih]
            · rfl
        · rfl
/-- A program as a block. -/
def innF (f : Fo) : Fo := if f.isNil = true then .node 0 0 0 .nil .nil else f
def deepL (l : Line) : Line := { l with depth := l.depth + 1 }
def innP (p : List Line) : List Line := if p = [] then [⟨1, 0, 0, 0⟩] else p.map deepL
theorem flat_deepL : ∀ (f : Fo) (d : Int), f.flat (d + 1) = (f.flat d).map deepL
  | .nil, d => rfl
  | .node k a b kids rest, d => by simp only [Fo.flat, flat_deepL kids, flat_deepL rest, List.map_cons, List.map_append]; rfl
theorem isNil_flat (f : Fo) (d : Int) : f.isNil = true ↔ f.flat d = [] := by
  cases f <;> simp [Fo.isNil, Fo.flat]
theorem innF_flat (f : Fo) : (innF f).flat 1 = innP (f.flat 0) := by
  unfold innF innP
  by_cases c : f.isNil = true
  · rw [if_pos c, if_pos ((isNil_flat f 0).1 c)]; rfl
  · rw [if_neg c, if_neg (fun q => c ((isNil_flat f 0).2 q))]
    exact flat_deepL f 0
theorem run_inn (t : List Class) (f : Fo) (i : Nat) (h : Int) (s : RS) : runF t (innF f) i none h s = runF t f i none h s := by
  unfold innF
  by_cases c : f.isNil = true
  · rw [if_pos c]
    cases f with
    | nil => simp [runF, lineR, lineS, RS.jump, jumpsK, inR, En.next]
    | node => simp [Fo.isNil] at c
  · rw [if_neg c]
end
section
open Go Go.Sim
set_option maxRecDepth 100000

theorem idx_map {c c' n : Int} : ∀ {S : List Int}, (∀ x ∈ S, (c' = x + n ↔ c = x)) → idxF (fun x => decide (c' = x)) (S.map (· + n)) = idxF (fun x => decide (c = x)) S
  | [], _ => rfl
  | x :: S, h => by
    have h1 := idx_map (S := S) (c := c) (c' := c') (n := n) (fun y hy => h y (List.mem_cons_of_mem _ hy))
    have h2 := h x (List.mem_cons_self ..)
    simp only [List.map_cons, idxF]
    rw [h1]
    by_cases q : c = x
    · have q' := h2.2 q
      simp [q, ← q']
    · have q' : ¬ c' = x + n := fun e => q (h2.1 e)
      simp [q, q']
theorem dchG_pos {h : List Fault} : ∀ (m : Nat) (f a : Int), a ∈ dchG h m f → 0 ≤ a
  | 0, f, a, q => by cases q
  | m + 1, f, a, q => by
    simp only [dchG] at q
    split at q
    · rcases List.mem_cons.1 q with e | e
      · omega
      · exact dchG_pos m _ a e
    · cases q
theorem dchG_lt {h : List Fault} (ho : heapOk h) {m : Nat} {f a : Int} (hf : f < h.length) (q : a ∈ dchG h m f) : a < h.length := by
  have := (dchG_dec ho m f hf).2 a q
  omega
/-- A fault isolated: its number, and the faults. -/
def isoR (fs : List Fault) (v : Int) : Int × List Fault := (idxF (fun x => decide (v = x)) (sortI (bfsF fs v)), isoL fs (sortI (bfsF fs v)))
theorem sort_dch {h : List Fault} (ho : heapOk h) {f : Int} (h0 : 0 ≤ f) (h1 : f < h.length) : sortI (bfsF h f) = (dchF h f).reverse := by
  rw [bfsF_dch ho h0 h1]
  exact sortI_dec (dchG_dec ho (f + 1).toNat f h1).1
section
variable {F h : List Fault}
theorem getD_shift {a : Int} (h0 : 0 ≤ a) (h1 : a < h.length) : (F ++ h.map (shf F.length)).getD (a + F.length).toNat default = shf F.length (h.getD a.toNat default) := by
  have e : (a + (F.length : Int)).toNat = F.length + a.toNat := by omega
  have hl : a.toNat < h.length := by omega
  rw [e]
  simp only [List.getD_eq_getElem?_getD]
  rw [List.getElem?_append_right (by omega), Nat.add_sub_cancel_left, List.getElem?_map, List.getElem?_eq_getElem hl]
  rfl
theorem dch_shift (ho : heapOk h) : ∀ (m m' : Nat) (v : Int), v < h.length → v < m → v + F.length < m' → 0 ≤ v → dchG (F ++ h.map (shf F.length)) m' (v + F.length) = (dchG h m v).map (· + (F.length : Int))
  | 0, m', v, _, h1, _, h0 => by omega
  | m + 1, 0, v, _, _, h2, h0 => by omega
  | m + 1, m' + 1, v, hv, h1, h2, h0 => by
    obtain ⟨o1, o2, o3⟩ := ho v.toNat (by omega)
    simp only [dchG]
    rw [if_pos h0, if_pos (by omega), List.map_cons]
    have e : ctxOf (F ++ h.map (shf F.length)) (v + F.length) = shv F.length (ctxOf h v) := by
      unfold ctxOf
      rw [getD_shift h0 hv]; rfl
    rw [e]
    congr 1
    have e3 : ctxOf h v < v := by
      have : ctxOf h v < v.toNat := o3
      omega
    unfold shv
    by_cases c : 0 ≤ ctxOf h v
    · rw [if_pos c]
      exact dch_shift ho m m' _ (by omega) (by omega) (by omega) c
    · rw [if_neg c, dchG_neg (by omega), dchG_neg (by omega)]; rfl
theorem iso_shift (ho : heapOk h) (ho' : heapOk (F ++ h.map (shf F.length))) {v : Int} (h0 : 0 ≤ v) (h1 : v < h.length) : isoR (F ++ h.map (shf F.length)) (v + F.length) = isoR h v := by
  have hl : (F ++ h.map (shf F.length)).length = F.length + h.length := by simp
  have e1 : dchF (F ++ h.map (shf F.length)) (v + F.length) = (dchF h v).map (· + (F.length : Int)) := dch_shift ho _ _ v h1 (by omega) (by omega) h0
  unfold isoR
  rw [sort_dch ho h0 h1, sort_dch ho' (by omega) (by omega), e1, ← List.map_reverse]
  have hm : ∀ a ∈ (dchF h v).reverse, 0 ≤ a ∧ a < h.length := fun a ha => by
    rw [List.mem_reverse] at ha
    exact ⟨dchG_pos _ _ a ha, dchG_lt ho h1 ha⟩
  generalize (dchF h v).reverse = S at hm ⊢
  have hs : ∀ c : Int, idxF (fun x => decide (shv F.length c = x)) (S.map (· + (F.length : Int))) = idxF (fun x => decide (c = x)) S := fun c => idx_map fun x hx => by
    have := (hm x hx).1
    unfold shv
    split <;> omega
  rw [Prod.mk.injEq]
  refine ⟨idx_map fun x hx => by omega, ?_⟩
  unfold isoL
  rw [List.map_map]
  refine List.map_congr_left fun a ha => ?_
  obtain ⟨a0, a1⟩ := hm a ha
  simp only [Function.comp, isoAt]
  rw [getD_shift a0 a1]
  simp only [shf]
  congr 1
  · exact hs _
  · exact hs _
end
theorem runP_def (t : List Class) (p : List Line) : runP t p = runF t (forestP p) 0 none (-1) rs0 := rfl
theorem res_two {r : En × RS} (h : r.1.ed = 2) : resOf r = ⟨r.2.log, 2, (isoR r.2.fs r.1.val).1, (isoR r.2.fs r.1.val).2⟩ := by unfold resOf isoR; rw [if_pos h]
theorem res_else {r : En × RS} (h : r.1.ed ≠ 2) : resOf r = ⟨r.2.log, r.1.ed, r.1.val, []⟩ := by unfold resOf; rw [if_neg h]
theorem res_log (r : En × RS) : (resOf r).log = r.2.log := by unfold resOf; split <;> rfl
theorem res_ed (r : En × RS) : (resOf r).ed = r.1.ed := by
  unfold resOf
  split
  · rename_i h; rw [h]
  · rfl
/-- A run behind another one has the same result, but for what was told ahead. -/
theorem res_behind {L : List Int} {F : List Fault} {r r' : En × RS} (h : RR (behind L F false) r r') (ho : heapOk r.2.fs) (ho' : heapOk r'.2.fs) (hv : r.1.ed = 2 → 0 ≤ r.1.val ∧ r.1.val < r.2.fs.length) : resOf r' = { resOf r with log := L ++ r.2.log } := by
  obtain ⟨⟨a1, a2, a3⟩, b1, X, b2, b3, b4⟩ := h
  have b5 := b4 rfl
  have b1' : r'.2.log = L ++ r.2.log := b1
  have e : r'.2.fs = F ++ r.2.fs.map (shf F.length) := by rw [b2, b5]
  by_cases c : r.1.ed = 2
  · rw [res_two c, res_two (a1.trans c), e, (a2 c).2]
    rw [e] at ho'
    have := iso_shift ho ho' (hv c).1 (hv c).2
    rw [show (behind L F false).F.length = F.length from rfl, this, b1']
  · rw [res_else c, res_else (by rw [a1]; exact c), a1, a3 c, b1']
end
section
open Go Go.Sim
set_option maxRecDepth 100000

theorem sr_start (s : RS) (wk : Bool) : SR (behind s.log s.fs wk) rs0 s := ⟨by show _ = _ ++ []; rw [List.append_nil], [], by show _ = _ ++ []; rw [List.append_nil], fun _ => rfl, fun _ => rfl⟩
theorem hr_none (F : List Fault) (L : List Int) (wk : Bool) : HR (behind L F wk) (-1) (-1) := .inr ⟨by decide, .inr (by decide)⟩
theorem forest_app {t : List Class} {p q : List Line} (hp : ValidP t p) (hq : ValidP t q) : forestP (p ++ q) = appF (forestP p) (forestP q) := by
  obtain ⟨_, e1, _⟩ := validP_forest hp
  obtain ⟨_, e2, _⟩ := validP_forest hq
  have : p ++ q = (appF (forestP p) (forestP q)).flat 0 := by rw [appF_flat, ← e1, ← e2]
  rw [this, forestP_flat]
/-- Programs one after the other. -/
theorem then_law {t : List Class} {p q : List Line} (hp : ValidP t p) (hq : ValidP t q) (hpq : ValidP t (p ++ q)) :
    ((resOf (runP t p)).ed ≠ 0 → resOf (runP t (p ++ q)) = resOf (runP t p)) ∧
    ((resOf (runP t p)).ed = 0 → resOf (runP t (p ++ q)) = { resOf (runP t q) with log := (resOf (runP t p)).log ++ (resOf (runP t q)).log }) := by
  obtain ⟨_, _, _, oq, _⟩ := validP_forest hq
  have hg := (runP_goes hpq).ok.ho
  have hgq := runP_goes hq
  have e : runP t (p ++ q) = if (runP t p).1.ed = 0 then runF t (forestP q) (0 + (forestP p).size) none (-1) (runP t p).2 else runP t p := by
    rw [runP_def t (p ++ q), forest_app hp hq, run_app (okF_head oq)]; rfl
  rw [res_ed]
  refine ⟨fun h => by rw [e, if_neg h], fun h => ?_⟩
  rw [if_pos h] at e
  have hr := sim_behind (runP t p).2.log (runP t p).2.fs false t (forestP q) 0 (0 + (forestP p).size) (-1) (-1) rs0 (runP t p).2 (fun q => by cases q) (hr_none _ _ _) (sr_start _ _)
  rw [← e, ← runP_def] at hr
  rw [res_behind hr hgq.ok.ho hg hgq.val, res_log, res_log]
def loopP (p : List Line) (n : Int) : List Line := ⟨0, 12, n, 0⟩ :: innP p
theorem forest_loop {t : List Class} {p : List Line} (hp : ValidP t p) (n : Int) : forestP (loopP p n) = .node 12 n 0 (innF (forestP p)) .nil := by
  obtain ⟨_, e1, _⟩ := validP_forest hp
  have : loopP p n = (Fo.node 12 n 0 (innF (forestP p)) .nil).flat 0 := by
    simp only [Fo.flat, List.append_nil]
    rw [show (0 : Int) + 1 = 1 from rfl, innF_flat, ← e1]; rfl
  rw [this, forestP_flat]
def timesL (l : List Int) : Nat → List Int
  | 0 => []
  | n + 1 => timesL l n ++ l
theorem timesL_comm (l : List Int) : ∀ n, l ++ timesL l n = timesL l n ++ l
  | 0 => by simp [timesL]
  | n + 1 => by simp only [timesL]; rw [← List.append_assoc, timesL_comm l n]
/-- The program of a loop's block, from where it is. -/
def bodyP (t : List Class) (f : Fo) (s : RS) : En × RS := runF t f 1 none (-1) s
theorem ed_body {t : List Class} {p : List Line} (hp : ValidP t p) (s : RS) : EdOk false (bodyP t (forestP p) s).1 := ed_run t (forestP p) false 1 none (-1) s (validP_forest hp).2.2.2.1 (fun q hq => by cases hq)
theorem en_same {e : En} {s : RS} (h : e.ed = 0 → e.val = 0) : (if e.ed = 0 then (En.next, s) else (e, s)) = (e, s) := by
  split
  · rename_i c
    obtain ⟨a, b⟩ := e
    simp only at c h
    rw [c, h c]; rfl
  · rfl
theorem loop_run {t : List Class} {p : List Line} (hp : ValidP t p) (n : Int) : runP t (loopP p n) = loopS (bodyP t (forestP p)) n.toNat rs0 := by
  have e0 : ∀ s, runF t (innF (forestP p)) (0 + 1) none (-1) s = bodyP t (forestP p) s := fun s => run_inn t (forestP p) _ _ _
  have e1 : lineR 12 n 0 0 (-1) (fun s => runF t (innF (forestP p)) (0 + 1) none (-1) s) rs0 = loopS (bodyP t (forestP p)) n.toNat rs0 := by
    unfold lineR
    rw [if_neg (by decide), if_pos rfl]
    congr 1
    exact funext e0
  have he : EdOk false (loopS (bodyP t (forestP p)) n.toNat rs0).1 := ed_loop (fun s => (ed_body hp s).up) _ _
  rw [runP_def, forest_loop hp, runF_line (by decide), e1]
  generalize loopS (bodyP t (forestP p)) n.toNat rs0 = r at he ⊢
  have := en_same (s := r.2) he.1
  show (if r.1.ed = 0 then (En.next, r.2) else r) = r
  exact this
theorem body_eq {t : List Class} {p : List Line} : REq (runP t p) (bodyP t (forestP p) rs0) := run_eq t (forestP p) 0 1 (-1) rs0 rs0 rfl rfl
theorem body_on {t : List Class} {p : List Line} (s : RS) : RR (behind s.log s.fs false) (runP t p) (bodyP t (forestP p) s) :=
  sim_behind s.log s.fs false t (forestP p) 0 1 (-1) (-1) rs0 s (fun q => by cases q) (hr_none _ _ _) (sr_start _ _)
theorem loop_next {t : List Class} {p : List Line} (h0 : (runP t p).1.ed = 0) : ∀ (n : Nat) (s : RS), (loopS (bodyP t (forestP p)) n s).1.ed = 0 ∧ (loopS (bodyP t (forestP p)) n s).2.log = s.log ++ timesL (runP t p).2.log n
  | 0, s => ⟨rfl, by simp [loopS, timesL]⟩
  | n + 1, s => by
    have hb := body_on (t := t) (p := p) s
    have e0 : (bodyP t (forestP p) s).1.ed = 0 := by rw [hb.1.1]; exact h0
    have el : (bodyP t (forestP p) s).2.log = s.log ++ (runP t p).2.log := hb.2.log
    have ih := loop_next h0 n (bodyP t (forestP p) s).2
    simp only [loopS]
    rw [if_neg (by omega), if_neg (by omega)]
    refine ⟨ih.1, ?_⟩
    rw [ih.2, el, timesL, ← timesL_comm, List.append_assoc]
/-- Loops do it again. -/
theorem loop_law {t : List Class} {p : List Line} (hp : ValidP t p) (n : Int) :
    (n = 0 → (resOf (runP t (loopP p n))).log = [] ∧ (resOf (runP t (loopP p n))).ed = 0) ∧
    (0 < n → (resOf (runP t p)).ed ≠ 0 → resOf (runP t (loopP p n)) = resOf (runP t p)) ∧
    ((resOf (runP t p)).ed = 0 → (resOf (runP t (loopP p n))).log = timesL (resOf (runP t p)).log n.toNat ∧ (resOf (runP t (loopP p n))).ed = 0) := by
  rw [loop_run hp, res_log, res_ed, res_ed]
  refine ⟨fun h => by subst h; exact ⟨rfl, rfl⟩, fun h0 h => ?_, fun h => ?_⟩
  · obtain ⟨m, hm⟩ : ∃ m, n.toNat = m + 1 := ⟨n.toNat - 1, by omega⟩
    have hb := body_eq (t := t) (p := p)
    have hed := (ed_top hp).2
    rw [hm, loopS, if_pos (by rw [hb.1]; omega)]
    exact hb.res
  · have := loop_next h n.toNat rs0
    rw [res_log]
    refine ⟨?_, this.1⟩
    rw [this.2]; rfl
/-- Twice is one and once more. -/
theorem twice_law {t : List Class} {p : List Line} (hp : ValidP t p) : resOf (runP t (loopP p 2)) = resOf (runP t (p ++ p)) := by
  obtain ⟨_, _, _, op, _⟩ := validP_forest hp
  have e : runP t (p ++ p) = if (runP t p).1.ed = 0 then runF t (forestP p) (0 + (forestP p).size) none (-1) (runP t p).2 else runP t p := by
    rw [runP_def t (p ++ p), forest_app hp hp, run_app (okF_head op)]; rfl
  have hb := body_eq (t := t) (p := p)
  have hed := (ed_top hp).2
  rw [loop_run hp, e]
  show resOf (loopS _ 2 rs0) = _
  by_cases c : (runP t p).1.ed = 0
  · rw [if_pos c, loopS, if_neg (by rw [hb.1]; omega), if_neg (by rw [hb.1]; omega)]
    have h2 : REq (bodyP t (forestP p) (bodyP t (forestP p) rs0).2) (runF t (forestP p) (0 + (forestP p).size) none (-1) (runP t p).2) := run_eq t (forestP p) 1 _ (-1) _ _ hb.2.1.symm hb.2.2.symm
    rw [h2.res, loopS]
    have h3 := ed_body hp (bodyP t (forestP p) rs0).2
    generalize bodyP t (forestP p) (bodyP t (forestP p) rs0).2 = r at h3
    have h4 : r.1.ed = 0 ∨ r.1.ed = 1 ∨ r.1.ed = 2 := by have := h3.2; simp at this; omega
    by_cases d : r.1.ed = 0
    · rw [if_neg (by omega), if_neg (by omega)]
      have hv := h3.1 d
      show resOf (En.next, r.2) = resOf r
      have : r.1 = .next := by
        obtain ⟨⟨a, b⟩, s⟩ := r
        simp only at d hv
        rw [d, hv]; rfl
      rw [← this]
    · rw [if_pos (by omega)]
  · rw [if_neg c, loopS, if_pos (by rw [hb.1]; omega)]
    exact hb.res
end
section
open Go Go.Sim
set_option maxRecDepth 100000
set_option maxHeartbeats 4000000

theorem c_GrowL (n : Nat) (H : AHeap) (hn : n ≤ 1000000) : ACalls Tryz.prog 103 [.vsl [] true, I n] H fun r H' => Grow rLine 4 50 H H' r [] := by
  rcases Nat.eq_zero_or_pos n with h0 | h0
  · subst h0
    refine (acalls_grow0 (by kernel_rfl) fun base w => ?_).mono ?_
    · exact Tryz.growRoomLine base 0 0 0 w (by omega) (by omega) (by omega) (by omega)
    · rintro _ _ ⟨rfl, rfl⟩
      exact grow_nil
  · obtain ⟨i, d, z, hi, hd, hz, hsz, hby, hag, hzl, hzs, hz1⟩ := tinfo_spec ti50
    have hz4 : z.cells.size = 4 := by rw [hzs]
    refine acalls_growN (bytes := i.bytes) (by kernel_rfl) (fun base m w hm hb h63 => ?_) h0 (by rw [hby]; show n * 32 ≤ _; omega) (by omega)
    refine (Any8.slices_Grow_grow Tryz.laysGrowLine i z hi hz (by rw [hsz]; decide) base 0 0 m [] w (by omega) (by omega) (by simpa using hb) (by simpa using h63) (by simp) (fun _ => rfl) (fun a _ j v hj => by simp at hj)).mono ?_
    rintro e w' ⟨rfl, rfl⟩
    refine ⟨by rw [Nat.zero_add]; rfl, _, rfl, ?_⟩
    have hge := grownCap_ge w (0 + m) 0 (Tryz.laysGrowLine_ren.t 25)
    simp only [Array.size_append, size_zeroCells, hz4, List.size_toArray, List.length_nil, Nat.zero_add, ← Nat.add_mul] at hge ⊢
    refine Nat.mul_le_mul_right _ ?_
    show grownCap w m 0 (Tryz.laysGrowLine_ren.t 25) ≤ _
    omega
def rSeg (q : List Line × Bool) : List AV := [.vsl (q.1.map rLine) q.2]
theorem rSeg_len (q : List Line × Bool) : (rSeg q).length = 1 := rfl
def segs (ps : List (List Line × Bool)) : List Line := (ps.map (·.1)).flatten
theorem segs_next {ps : List (List Line × Bool)} {k : Nat} (h : k < ps.length) : segs (ps.take (k + 1)) = segs (ps.take k) ++ (ps.getD k default).1 := by
  unfold segs
  rw [List.take_succ_eq_append_getElem h, List.map_append, List.flatten_append, List.getD_eq_getElem?_getD, List.getElem?_eq_getElem h]
  simp
theorem segs_le (ps : List (List Line × Bool)) (k : Nat) : (segs (ps.take k)).length ≤ (segs ps).length := by
  have : segs ps = segs (ps.take k) ++ segs (ps.drop k) := by
    unfold segs
    rw [← List.flatten_append, ← List.map_append, List.take_append_drop]
  rw [this, List.length_append]; omega
theorem c_ConcatL (ps : List (List Line × Bool)) (cl : Bool) (H : AHeap) (hb : (segs ps).length ≤ 1000000) : ACalls Tryz.prog 60 [.vsl (ps.map rSeg) cl] H fun r H' => Grow rLine 4 50 H H' r (segs ps) := by
  refine acalls_len (by kernel_rfl) (List.mem_cons_self ..) fun hl => ?_
  rw [List.length_map] at hl
  refine acalls_of0 Tryz.func60 rfl (by kernel_rfl) rfl rfl (awp_sound (fz := fun _ => []) (im := fun _ => false) mixed _ _ _ _ (by kernel_rfl) ?_)
  simp +contextual -dsimp -implicitDefEqProofs (maxSteps := 5000000) only [go_sem, reduceIte, reduceCtorEq, Nat.reduceEqDiff, Nat.reduceBEq, Nat.reduceAdd, Nat.reduceLeDiff, Nat.reduceMul, Nat.reduceLT, Int.reduceEq, Int.reduceLT, Int.reduceLE]
  refine aloop mixed (fz := fun _ => []) (im := fun _ => false) (by kernel_rfl) (fun m tm H' => ∃ k : Nat, m = ps.length - k ∧ k ≤ ps.length ∧ H' = H ∧ tm 0 = .vsl (ps.map rSeg) cl ∧ tm 3 = I (segs (ps.take k)).length ∧ tm 9 = .vsl (ps.map rSeg) cl ∧ tm 10 = I ps.length ∧ tm 11 = I k) ps.length ⟨0, by omega, by omega, rfl, ?_⟩ ?_
  · simp +contextual -dsimp -implicitDefEqProofs (maxSteps := 5000000) only [go_sem, reduceIte, reduceCtorEq, Nat.reduceEqDiff, Nat.reduceBEq, Nat.reduceAdd, Nat.reduceLeDiff, Nat.reduceMul, Nat.reduceLT, Int.reduceEq, Int.reduceLT, Int.reduceLE]
    rfl
  · rintro m tm H ⟨k, rfl, hk, rfl, t0, t3, t9, t10, t11⟩
    by_cases hlt : k < ps.length
    · have h1 := segs_next hlt
      have h2 := segs_le ps (k + 1)
      rw [h1, List.length_append] at h2
      have hw : IntKind.i64.wrap (((segs (ps.take k)).length : Int) + ((ps.getD k default).1.length : Int)) = (((segs (ps.take (k + 1))).length : Nat) : Int) := by rw [h1, List.length_append, w64 (by omega) (by omega)]; omega
      have hnn : ¬ ((segs (ps.take (k + 1))).length : Int) < 0 := by omega
      simp +contextual -dsimp -implicitDefEqProofs (maxSteps := 5000000) only [go_sem, reduceIte, reduceCtorEq, Nat.reduceEqDiff, Nat.reduceBEq, Nat.reduceAdd, Nat.reduceLeDiff, Nat.reduceMul, Nat.reduceLT, Int.reduceEq, Int.reduceLT, Int.reduceLE, ixv te118 ti25 rSeg_len (show 0 < 1 by decide), rSeg, Nat.lt_irrefl, t0, t3, t9, t10, t11, hlt, hw, hnn]
      exact ⟨_, by omega, k + 1, rfl, hlt, rfl, I_wrap (by omega) (by omega) (by omega)⟩
    · have hke : k = ps.length := by omega
      subst hke
      rw [List.take_length] at t3
      simp +contextual -dsimp -implicitDefEqProofs (maxSteps := 5000000) only [go_sem, reduceIte, reduceCtorEq, Nat.reduceEqDiff, Nat.reduceBEq, Nat.reduceAdd, Nat.reduceLeDiff, Nat.reduceMul, Nat.reduceLT, Int.reduceEq, Int.reduceLT, Int.reduceLE, ixv te118 ti25 rSeg_len (show 0 < 1 by decide), rSeg, Nat.lt_irrefl, t0, t3, t9, t10, t11]
      refine (c_GrowL _ _ hb).mono ?_
      intro x H1 hg
      simp +contextual -dsimp -implicitDefEqProofs (maxSteps := 5000000) only [go_sem, reduceIte, reduceCtorEq, Nat.reduceEqDiff, Nat.reduceBEq, Nat.reduceAdd, Nat.reduceLeDiff, Nat.reduceMul, Nat.reduceLT, Int.reduceEq, Int.reduceLT, Int.reduceLE, ixv te118 ti25 rSeg_len (show 0 < 1 by decide), rSeg, Nat.lt_irrefl, t0, t3, t9, t10, t11]
      refine aloop mixed (fz := fun _ => []) (im := fun _ => false) (by kernel_rfl) (fun m tm H' => ∃ (k : Nat) (x : AV), m = ps.length - k ∧ k ≤ ps.length ∧ Grow rLine 4 50 H H' x (segs (ps.take k)) ∧ tm 6 = x ∧ tm 25 = .vsl (ps.map rSeg) cl ∧ tm 26 = I ps.length ∧ tm 27 = I k) ps.length ⟨0, x, by omega, by omega, by simpa [segs] using hg, ?_⟩ ?_
      · simp +contextual -dsimp -implicitDefEqProofs (maxSteps := 5000000) only [go_sem, reduceIte, reduceCtorEq, Nat.reduceEqDiff, Nat.reduceBEq, Nat.reduceAdd, Nat.reduceLeDiff, Nat.reduceMul, Nat.reduceLT, Int.reduceEq, Int.reduceLT, Int.reduceLE, ixv te118 ti25 rSeg_len (show 0 < 1 by decide), rSeg, Nat.lt_irrefl, t0]
      · rintro m tm H' ⟨k, x, rfl, hk, hg, t6, t25, t26, t27⟩
        by_cases hlt : k < ps.length
        · have h1 := segs_next hlt
          have h2 := segs_le ps (k + 1)
          rw [h1, List.length_append] at h2
          simp +contextual -dsimp -implicitDefEqProofs (maxSteps := 5000000) only [go_sem, reduceIte, reduceCtorEq, Nat.reduceEqDiff, Nat.reduceBEq, Nat.reduceAdd, Nat.reduceLeDiff, Nat.reduceMul, Nat.reduceLT, Int.reduceEq, Int.reduceLT, Int.reduceLE, ixv te118 ti25 rSeg_len (show 0 < 1 by decide), rSeg, Nat.lt_irrefl, t6, t25, t26, t27, hlt]
          refine app_lines (m := (ps.getD k default).1) hg (by omega) rfl fun x' H'' hg' => ?_
          simp +contextual -dsimp -implicitDefEqProofs (maxSteps := 5000000) only [go_sem, reduceIte, reduceCtorEq, Nat.reduceEqDiff, Nat.reduceBEq, Nat.reduceAdd, Nat.reduceLeDiff, Nat.reduceMul, Nat.reduceLT, Int.reduceEq, Int.reduceLT, Int.reduceLE, ixv te118 ti25 rSeg_len (show 0 < 1 by decide), rSeg, Nat.lt_irrefl, t6, t25, t26, t27, hlt]
          exact ⟨_, by omega, k + 1, x', rfl, hlt, by rw [h1]; exact hg', rfl, I_wrap (by omega) (by omega) (by omega)⟩
        · simp +contextual -dsimp -implicitDefEqProofs (maxSteps := 5000000) only [go_sem, reduceIte, reduceCtorEq, Nat.reduceEqDiff, Nat.reduceBEq, Nat.reduceAdd, Nat.reduceLeDiff, Nat.reduceMul, Nat.reduceLT, Int.reduceEq, Int.reduceLT, Int.reduceLE, ixv te118 ti25 rSeg_len (show 0 < 1 by decide), rSeg, Nat.lt_irrefl, t6, t25, t26, t27, hlt]
          rw [show k = ps.length by omega, List.take_length] at hg
          exact hg
end
section
open Go Go.Sim
set_option maxRecDepth 100000
set_option maxHeartbeats 4000000

theorem valid_depth {t : List Class} {p : List Line} (h : ValidP t p) : ∀ x ∈ p, 0 ≤ x.depth ∧ x.depth ≤ 5 := by
  obtain ⟨_, e, h3, _⟩ := validP_forest h
  have key : ∀ (f : Fo) (d : Int), numsF t f d = true → ∀ x ∈ f.flat d, 0 ≤ x.depth ∧ x.depth ≤ 5 := by
    intro f
    induction f with
    | nil => intro d _ x hx; cases hx
    | node k a b kids rest ihk ihr =>
      intro d hn x hx
      obtain ⟨n1, n2, n3, n4, n5⟩ := numsF_node hn
      simp only [Fo.flat, List.mem_cons, List.mem_append] at hx
      rcases hx with rfl | hx | hx
      · simp only [inR, Bool.and_eq_true, decide_eq_true_eq] at n2; exact n2
      · exact ihk _ n4 x hx
      · exact ihr _ n5 x hx
  rw [e]; exact key _ 0 h3
theorem getD_mem {l : List Line} {k : Nat} (h : k < l.length) : l.getD k default ∈ l := by
  rw [List.getD_eq_getElem?_getD, List.getElem?_eq_getElem h]; exact List.getElem_mem h
theorem take_nextL {l : List Line} {k : Nat} (h : k < l.length) : l.take (k + 1) = l.take k ++ [l.getD k default] := by
  rw [List.take_succ_eq_append_getElem h, List.getD_eq_getElem?_getD, List.getElem?_eq_getElem h]; rfl
theorem c_inner (p : List Line) (cl : Bool) (H : AHeap) (hp : p.length ≤ 1000) (hd : ∀ x ∈ p, 0 ≤ x.depth ∧ x.depth ≤ 5) : ACalls Tryz.prog 64 [aProg p cl] H fun r H' => (∃ c, r = aProg (innP p) c) ∧ H' = H := by
  refine acalls_of1 Tryz.func64 rfl (by kernel_rfl) rfl rfl (awp_sound (fz := fun r => if r = 7 then [5] else []) (im := fun s => s == 10 || s == 26) mixed _ _ _ _ (by kernel_rfl) ?_)
  simp +contextual -dsimp -implicitDefEqProofs (maxSteps := 5000000) only [go_sem, reduceIte, reduceCtorEq, Nat.reduceEqDiff, Nat.reduceBEq, Nat.reduceAdd, Nat.reduceLeDiff, Nat.reduceMul, Nat.reduceLT, Int.reduceEq, Int.reduceLT, Int.reduceLE]
  refine ⟨fun h0 => ?_, fun h0 => ?_⟩
  · have hp0 : p = [] := List.eq_nil_of_length_eq_zero (by omega)
    subst hp0
    refine retR_less (l := [aProg (innP []) true]) (H' := H) ?_ (AHeap.le_refl _) ⟨⟨true, rfl⟩, rfl⟩
    simp only [resA, go_sem, reduceIte, reduceCtorEq, Nat.reduceEqDiff, Nat.reduceBEq, Nat.reduceAdd, Nat.reduceLeDiff, Nat.reduceMul, Nat.reduceLT, Int.reduceEq, Int.reduceLT, Int.reduceLE]
    try rfl
  · have hip : innP p = p.map deepL := by unfold innP; rw [if_neg (fun e => h0 (by rw [e]; rfl))]
    rw [hip]
    refine ⟨by omega, by omega, fun b3 hb3 => ?_⟩
    refine aloop mixed (fz := fun r => if r = 7 then [5] else []) (im := fun s => s == 10 || s == 26) (by kernel_rfl) (fun m tm H' => ∃ (k : Nat) (x : AV), m = p.length - k ∧ k ≤ p.length ∧ Grow rLine 4 50 H H' x ((p.take k).map deepL) ∧ tm 3 = x ∧ tm 14 = aProg p cl ∧ tm 15 = I p.length ∧ tm 16 = I k) p.length ⟨0, .sl b3 4 0 0 false, by omega, by omega, grow_new hb3, ?_⟩ ?_
    · simp +contextual -dsimp -implicitDefEqProofs (maxSteps := 5000000) only [go_sem, reduceIte, reduceCtorEq, Nat.reduceEqDiff, Nat.reduceBEq, Nat.reduceAdd, Nat.reduceLeDiff, Nat.reduceMul, Nat.reduceLT, Int.reduceEq, Int.reduceLT, Int.reduceLE]
    · rintro m tm H' ⟨k, x, rfl, hk, hg, t3, t14, t15, t16⟩
      by_cases hlt : k < p.length
      · have hdk := hd _ (getD_mem hlt)
        have hw : IntKind.i64.wrap ((p.getD k default).depth + 1) = (p.getD k default).depth + 1 := w64 (by omega) (by omega)
        simp +contextual -dsimp -implicitDefEqProofs (maxSteps := 5000000) only [go_sem, reduceIte, reduceCtorEq, Nat.reduceEqDiff, Nat.reduceBEq, Nat.reduceAdd, Nat.reduceLeDiff, Nat.reduceMul, Nat.reduceLT, Int.reduceEq, Int.reduceLT, Int.reduceLE, t3, t14, t15, t16, hlt]
        intro b5 hb5
        rw [hw]
        refine app_lines (m := [deepL (p.getD k default)]) hg (by simp; omega) rfl fun x' H'' hg' => ?_
        simp +contextual -dsimp -implicitDefEqProofs (maxSteps := 5000000) only [go_sem, reduceIte, reduceCtorEq, Nat.reduceEqDiff, Nat.reduceBEq, Nat.reduceAdd, Nat.reduceLeDiff, Nat.reduceMul, Nat.reduceLT, Int.reduceEq, Int.reduceLT, Int.reduceLE, t3, t14, t15, t16, hlt]
        exact ⟨_, by omega, k + 1, x', rfl, hlt, by rw [take_nextL hlt, List.map_append]; exact hg', rfl, I_wrap (by omega) (by omega) (by omega)⟩
      · rw [show k = p.length by omega, List.take_length] at hg
        simp +contextual -dsimp -implicitDefEqProofs (maxSteps := 5000000) only [go_sem, reduceIte, reduceCtorEq, Nat.reduceEqDiff, Nat.reduceBEq, Nat.reduceAdd, Nat.reduceLeDiff, Nat.reduceMul, Nat.reduceLT, Int.reduceEq, Int.reduceLT, Int.reduceLE, t3, t14, t15, t16, hlt]
        refine grow_frz (t := 2) (by simpa only [upd_same] using hg) fun c => ?_
        refine retR_less (l := [aProg (p.map deepL) c]) (H' := H) ?_ (AHeap.le_refl _) ⟨⟨c, rfl⟩, rfl⟩
        simp only [resA, go_sem, reduceIte, reduceCtorEq, Nat.reduceEqDiff, Nat.reduceBEq, Nat.reduceAdd, Nat.reduceLeDiff, Nat.reduceMul, Nat.reduceLT, Int.reduceEq, Int.reduceLT, Int.reduceLE]
/-- Lines that are half made deeper. -/
def halfL (p : List Line) (k : Nat) : List Line := (p.take k).map deepL ++ p.drop k
theorem halfL_len {p : List Line} {k : Nat} (h : k ≤ p.length) : (halfL p k).length = p.length := by simp [halfL]; omega
theorem halfL_at {p : List Line} {k : Nat} (h : k < p.length) : (halfL p k).getD k default = p.getD k default := by
  unfold halfL
  simp only [List.getD_eq_getElem?_getD]
  rw [List.getElem?_append_right (by simp; omega)]
  simp [Nat.min_eq_left (Nat.le_of_lt h)]
theorem halfL_set {p : List Line} {k : Nat} (h : k < p.length) : (halfL p k).set k (deepL (p.getD k default)) = halfL p (k + 1) := by
  unfold halfL
  rw [List.set_append_right _ _ (by simp; omega), take_nextL h, List.map_append, List.append_assoc]
  congr 1
  have e : k - ((p.take k).map deepL).length = 0 := by simp; omega
  rw [e]
  have e2 : p.getD k default = p[k] := by simp [List.getD_eq_getElem?_getD, h]
  rw [e2, List.drop_eq_getElem_cons h]; rfl
theorem c_indent (p : List Line) (cl : Bool) (H : AHeap) (hp : p.length ≤ 1000) (h0 : p ≠ []) (hd : ∀ x ∈ p, 0 ≤ x.depth ∧ x.depth ≤ 5) : ACalls Tryz.prog 104 [aProg p cl] H fun r H' => Grow rLine 4 50 H H' r (p.map deepL) := by
  refine acalls_of0 Tryz.func104 rfl (by kernel_rfl) rfl rfl (awp_sound (fz := fun _ => []) (im := fun s => s == 5) mixed _ _ _ _ (by kernel_rfl) ?_)
  simp +contextual -dsimp -implicitDefEqProofs (maxSteps := 5000000) only [go_sem, reduceIte, reduceCtorEq, Nat.reduceEqDiff, Nat.reduceBEq, Nat.reduceAdd, Nat.reduceLeDiff, Nat.reduceMul, Nat.reduceLT, Int.reduceEq, Int.reduceLT, Int.reduceLE]
  refine app_lines (m := p) grow_nil (by simp; omega) rfl fun x' H' hg => ?_
  rcases hg with ⟨e, _, _⟩ | ⟨bx, c, hbx, rfl, rfl⟩
  · exact absurd (by simpa using e) h0
  simp +contextual -dsimp -implicitDefEqProofs (maxSteps := 5000000) only [go_sem, reduceIte, reduceCtorEq, Nat.reduceEqDiff, Nat.reduceBEq, Nat.reduceAdd, Nat.reduceLeDiff, Nat.reduceMul, Nat.reduceLT, Int.reduceEq, Int.reduceLT, Int.reduceLE]
  refine aloop mixed (fz := fun _ => []) (im := fun s => s == 5) (by kernel_rfl) (fun m tm H' => ∃ (k : Nat), m = p.length - k ∧ k ≤ p.length ∧ H' = H.set bx ⟨4, 50, (halfL p k).map rLine⟩ ∧ tm 3 = .sl bx 4 0 p.length c ∧ tm 4 = I k) p.length ⟨0, by omega, by omega, by simp [halfL], ?_⟩ ?_
  · simp +contextual -dsimp -implicitDefEqProofs (maxSteps := 5000000) only [go_sem, reduceIte, reduceCtorEq, Nat.reduceEqDiff, Nat.reduceBEq, Nat.reduceAdd, Nat.reduceLeDiff, Nat.reduceMul, Nat.reduceLT, Int.reduceEq, Int.reduceLT, Int.reduceLE]
  · rintro m tm H' ⟨k, rfl, hk, rfl, t3, t4⟩
    by_cases hlt : k < p.length
    · have hdk := hd _ (getD_mem hlt)
      have hw : IntKind.i64.wrap ((p.getD k default).depth + 1) = (p.getD k default).depth + 1 := w64 (by omega) (by omega)
      have hl2 : k < (halfL p k).length := by rw [halfL_len hk]; exact hlt
      simp +contextual -dsimp -implicitDefEqProofs (maxSteps := 5000000) only [go_sem, reduceIte, reduceCtorEq, Nat.reduceEqDiff, Nat.reduceBEq, Nat.reduceAdd, Nat.reduceLeDiff, Nat.reduceMul, Nat.reduceLT, Int.reduceEq, Int.reduceLT, Int.reduceLE, t3, t4, hlt, hl2, halfL_at hlt, hw]
      rw [wrO_y (y := deepL (p.getD k default)) hl2 (by rw [halfL_at hlt]; rfl), halfL_set hlt]
      simp +contextual -dsimp -implicitDefEqProofs (maxSteps := 5000000) only [go_sem, reduceIte, reduceCtorEq, Nat.reduceEqDiff, Nat.reduceBEq, Nat.reduceAdd, Nat.reduceLeDiff, Nat.reduceMul, Nat.reduceLT, Int.reduceEq, Int.reduceLT, Int.reduceLE, t3, t4, hlt]
      exact ⟨_, by omega, k + 1, rfl, hlt, rfl, I_wrap (by omega) (by omega) (by omega)⟩
    · simp +contextual -dsimp -implicitDefEqProofs (maxSteps := 5000000) only [go_sem, reduceIte, reduceCtorEq, Nat.reduceEqDiff, Nat.reduceBEq, Nat.reduceAdd, Nat.reduceLeDiff, Nat.reduceMul, Nat.reduceLT, Int.reduceEq, Int.reduceLT, Int.reduceLE, t3, t4, hlt]
      have hke : k = p.length := by omega
      subst hke
      refine .inr ⟨bx, c, hbx, by simp, ?_⟩
      simp [halfL]
end
section
open Go Go.Sim
set_option maxRecDepth 100000
set_option maxHeartbeats 4000000

theorem c_under (y : Line) (p : List Line) (cl : Bool) (H : AHeap) (hp : p.length ≤ 1000) (hd : ∀ x ∈ p, 0 ≤ x.depth ∧ x.depth ≤ 5) : ACalls Tryz.prog 65 [.agg (rLine y), aProg p cl] H fun r H' => Grow rLine 4 50 H H' r (y :: innP p) := by
  refine acalls_of1 Tryz.func65 rfl (by kernel_rfl) rfl rfl (awp_sound (fz := fun _ => []) (im := fun s => s == 2 || s == 9) mixed _ _ _ _ (by kernel_rfl) ?_)
  simp +contextual -dsimp -implicitDefEqProofs (maxSteps := 5000000) only [go_sem, reduceIte, reduceCtorEq, Nat.reduceEqDiff, Nat.reduceBEq, Nat.reduceAdd, Nat.reduceLeDiff, Nat.reduceMul, Nat.reduceLT, Int.reduceEq, Int.reduceLT, Int.reduceLE]
  refine ⟨fun h0 => ?_, fun h0 => ?_⟩
  · have hp0 : p = [] := List.eq_nil_of_length_eq_zero h0
    subst hp0
    refine draw_intro [1, 0, 0, 3, 2, 0] AHeap.none (by kernel_rfl) none_le ?_
    simp +contextual -dsimp -implicitDefEqProofs (maxSteps := 5000000) only [go_sem, reduceIte, reduceCtorEq, Nat.reduceEqDiff, Nat.reduceBEq, Nat.reduceAdd, Nat.reduceLeDiff, Nat.reduceMul, Nat.reduceLT, Int.reduceEq, Int.reduceLT, Int.reduceLE]
    refine acalls_frz (c_indent [⟨0, 0, 0, 0⟩] true _ (by simp) (by simp) (by simp)) fun c => ?_
    simp +contextual -dsimp -implicitDefEqProofs (maxSteps := 5000000) only [go_sem, reduceIte, reduceCtorEq, Nat.reduceEqDiff, Nat.reduceBEq, Nat.reduceAdd, Nat.reduceLeDiff, Nat.reduceMul, Nat.reduceLT, Int.reduceEq, Int.reduceLT, Int.reduceLE]
    refine app_lit (y := y) (l := [deepL ⟨0, 0, 0, 0⟩]) rfl (by simp) (by simp) fun x' H' hg => ?_
    simp +contextual -dsimp -implicitDefEqProofs (maxSteps := 5000000) only [go_sem, reduceIte, reduceCtorEq, Nat.reduceEqDiff, Nat.reduceBEq, Nat.reduceAdd, Nat.reduceLeDiff, Nat.reduceMul, Nat.reduceLT, Int.reduceEq, Int.reduceLT, Int.reduceLE]
    refine retR_less (l := [x']) (H' := H') ?_ (AHeap.le_refl _) hg
    simp only [resA, go_sem, reduceIte, reduceCtorEq, Nat.reduceEqDiff, Nat.reduceBEq, Nat.reduceAdd, Nat.reduceLeDiff, Nat.reduceMul, Nat.reduceLT, Int.reduceEq, Int.reduceLT, Int.reduceLE]
  · have hp0 : p ≠ [] := fun e => h0 (by rw [e]; rfl)
    have hip : innP p = p.map deepL := by unfold innP; rw [if_neg hp0]
    rw [hip]
    refine draw_intro [1, 0, 0, 3, 2, 0] AHeap.none (by kernel_rfl) none_le ?_
    simp +contextual -dsimp -implicitDefEqProofs (maxSteps := 5000000) only [go_sem, reduceIte, reduceCtorEq, Nat.reduceEqDiff, Nat.reduceBEq, Nat.reduceAdd, Nat.reduceLeDiff, Nat.reduceMul, Nat.reduceLT, Int.reduceEq, Int.reduceLT, Int.reduceLE]
    refine acalls_frz (c_indent p cl _ hp hp0 hd) fun c => ?_
    simp +contextual -dsimp -implicitDefEqProofs (maxSteps := 5000000) only [go_sem, reduceIte, reduceCtorEq, Nat.reduceEqDiff, Nat.reduceBEq, Nat.reduceAdd, Nat.reduceLeDiff, Nat.reduceMul, Nat.reduceLT, Int.reduceEq, Int.reduceLT, Int.reduceLE]
    refine app_lit (y := y) (l := p.map deepL) rfl (by simp; omega) (by simp; omega) fun x' H' hg => ?_
    simp +contextual -dsimp -implicitDefEqProofs (maxSteps := 5000000) only [go_sem, reduceIte, reduceCtorEq, Nat.reduceEqDiff, Nat.reduceBEq, Nat.reduceAdd, Nat.reduceLeDiff, Nat.reduceMul, Nat.reduceLT, Int.reduceEq, Int.reduceLT, Int.reduceLE]
    refine retR_less (l := [x']) (H' := H') ?_ (AHeap.le_refl _) hg
    simp only [resA, go_sem, reduceIte, reduceCtorEq, Nat.reduceEqDiff, Nat.reduceBEq, Nat.reduceAdd, Nat.reduceLeDiff, Nat.reduceMul, Nat.reduceLT, Int.reduceEq, Int.reduceLT, Int.reduceLE]
theorem c_bothValid (t : List Class) (cl : Bool) (p q : List Line) (c1 c2 : Bool) (H : AHeap) (hn : namesOk t) (hp : p.length ≤ 4398046511104) (hq : q.length ≤ 4398046511104) : ACalls Tryz.prog 58 [aTree t cl, aProg p c1, aProg q c2] H fun r H' => r = B (validB t p && validB t q) ∧ H' = H := by
  refine acalls_of0 Tryz.func58 rfl (by kernel_rfl) rfl rfl (awp_sound (fz := fun _ => []) (im := fun s => s == 3) mixed _ _ _ _ (by kernel_rfl) ?_)
  simp +contextual -dsimp -implicitDefEqProofs (maxSteps := 5000000) only [go_sem, reduceIte, reduceCtorEq, Nat.reduceEqDiff, Nat.reduceBEq, Nat.reduceAdd, Nat.reduceLeDiff, Nat.reduceMul, Nat.reduceLT, Int.reduceEq, Int.reduceLT, Int.reduceLE]
  refine (c_ValidProgram t cl p c1 _ hn hp).det ?_
  cases hv : validB t p
  · simp +contextual -dsimp -implicitDefEqProofs (maxSteps := 5000000) only [go_sem, reduceIte, reduceCtorEq, Nat.reduceEqDiff, Nat.reduceBEq, Nat.reduceAdd, Nat.reduceLeDiff, Nat.reduceMul, Nat.reduceLT, Int.reduceEq, Int.reduceLT, Int.reduceLE]
  · simp +contextual -dsimp -implicitDefEqProofs (maxSteps := 5000000) only [go_sem, reduceIte, reduceCtorEq, Nat.reduceEqDiff, Nat.reduceBEq, Nat.reduceAdd, Nat.reduceLeDiff, Nat.reduceMul, Nat.reduceLT, Int.reduceEq, Int.reduceLT, Int.reduceLE]
    refine (c_ValidProgram t cl q c2 _ hn hq).det ?_
    simp +contextual -dsimp -implicitDefEqProofs (maxSteps := 5000000) only [go_sem, reduceIte, reduceCtorEq, Nat.reduceEqDiff, Nat.reduceBEq, Nat.reduceAdd, Nat.reduceLeDiff, Nat.reduceMul, Nat.reduceLT, Int.reduceEq, Int.reduceLT, Int.reduceLE]
theorem c_both (t : List Class) (cl : Bool) (p q : List Line) (c1 c2 : Bool) (H : AHeap) (hn : namesOk t) (hp : p.length ≤ 4398046511104) (hq : q.length ≤ 4398046511104) : ACalls Tryz.prog 61 [aTree t cl, aProg p c1, aProg q c2] H fun r H' => r = B (validB t p && validB t q) ∧ H' = H := by
  refine acalls_of0 Tryz.func61 rfl (by kernel_rfl) rfl rfl (awp_sound (fz := fun _ => []) (im := fun s => s == 3) mixed _ _ _ _ (by kernel_rfl) ?_)
  simp +contextual -dsimp -implicitDefEqProofs (maxSteps := 5000000) only [go_sem, reduceIte, reduceCtorEq, Nat.reduceEqDiff, Nat.reduceBEq, Nat.reduceAdd, Nat.reduceLeDiff, Nat.reduceMul, Nat.reduceLT, Int.reduceEq, Int.reduceLT, Int.reduceLE]
  refine (c_svalidProgram t cl p c1 _ hn hp).det ?_
  cases hv : validB t p
  · simp +contextual -dsimp -implicitDefEqProofs (maxSteps := 5000000) only [go_sem, reduceIte, reduceCtorEq, Nat.reduceEqDiff, Nat.reduceBEq, Nat.reduceAdd, Nat.reduceLeDiff, Nat.reduceMul, Nat.reduceLT, Int.reduceEq, Int.reduceLT, Int.reduceLE]
  · simp +contextual -dsimp -implicitDefEqProofs (maxSteps := 5000000) only [go_sem, reduceIte, reduceCtorEq, Nat.reduceEqDiff, Nat.reduceBEq, Nat.reduceAdd, Nat.reduceLeDiff, Nat.reduceMul, Nat.reduceLT, Int.reduceEq, Int.reduceLT, Int.reduceLE]
    refine (c_svalidProgram t cl q c2 _ hn hq).det ?_
    simp +contextual -dsimp -implicitDefEqProofs (maxSteps := 5000000) only [go_sem, reduceIte, reduceCtorEq, Nat.reduceEqDiff, Nat.reduceBEq, Nat.reduceAdd, Nat.reduceLeDiff, Nat.reduceMul, Nat.reduceLT, Int.reduceEq, Int.reduceLT, Int.reduceLE]
/-- What is made, if it may be and is valid. -/
noncomputable def mkR (b : Bool) (t : List Class) (l : List Line) : List Line := if b = true then madeF t l else []
noncomputable def mkB (b : Bool) (t : List Class) (l : List Line) : Bool := b && validB t l
theorem c_mThenProgram (t : List Class) (cl : Bool) (p q : List Line) (c1 c2 : Bool) (H : AHeap) (hn : namesOk t) (hp : p.length ≤ 1000) (hq : q.length ≤ 1000) : ACalls Tryz.prog 21 [aTree t cl, aProg p c1, aProg q c2] H fun r H' => (∃ c, r = .tup [aProg (mkR (validB t p && validB t q) t (p ++ q)) c, B (mkB (validB t p && validB t q) t (p ++ q))]) ∧ H' = H := by
  refine acalls_of0 Tryz.func21 rfl (by kernel_rfl) rfl rfl (awp_sound (fz := fun _ => []) (im := fun s => s == 3) mixed _ _ _ _ (by kernel_rfl) ?_)
  simp +contextual -dsimp -implicitDefEqProofs (maxSteps := 5000000) only [go_sem, reduceIte, reduceCtorEq, Nat.reduceEqDiff, Nat.reduceBEq, Nat.reduceAdd, Nat.reduceLeDiff, Nat.reduceMul, Nat.reduceLT, Int.reduceEq, Int.reduceLT, Int.reduceLE]
  refine (c_bothValid t cl p q c1 c2 _ hn (by omega) (by omega)).det ?_
  unfold mkR mkB
  cases hv : (validB t p && validB t q)
  · simp +contextual -dsimp -implicitDefEqProofs (maxSteps := 5000000) only [go_sem, reduceIte, reduceCtorEq, Nat.reduceEqDiff, Nat.reduceBEq, Nat.reduceAdd, Nat.reduceLeDiff, Nat.reduceMul, Nat.reduceLT, Int.reduceEq, Int.reduceLT, Int.reduceLE]
    exact ⟨true, rfl⟩
  · simp +contextual -dsimp -implicitDefEqProofs (maxSteps := 5000000) only [go_sem, reduceIte, reduceCtorEq, Nat.reduceEqDiff, Nat.reduceBEq, Nat.reduceAdd, Nat.reduceLeDiff, Nat.reduceMul, Nat.reduceLT, Int.reduceEq, Int.reduceLT, Int.reduceLE]
    refine draw_intro [1, 0, 0, 0, 3, 2, 0, 0, 0, 0] AHeap.none (by kernel_rfl) none_le ?_
    simp +contextual -dsimp -implicitDefEqProofs (maxSteps := 5000000) only [go_sem, reduceIte, reduceCtorEq, Nat.reduceEqDiff, Nat.reduceBEq, Nat.reduceAdd, Nat.reduceLeDiff, Nat.reduceMul, Nat.reduceLT, Int.reduceEq, Int.reduceLT, Int.reduceLE]
    refine acalls_frz (c_ConcatL [(p, c1), (q, c2)] true _ (by simp [segs]; omega)) fun c3 => ?_
    simp +contextual -dsimp -implicitDefEqProofs (maxSteps := 5000000) only [go_sem, reduceIte, reduceCtorEq, Nat.reduceEqDiff, Nat.reduceBEq, Nat.reduceAdd, Nat.reduceLeDiff, Nat.reduceMul, Nat.reduceLT, Int.reduceEq, Int.reduceLT, Int.reduceLE]
    refine (c_programMade t cl (segs [(p, c1), (q, c2)]) c3 _ hn (by simp [segs]; omega)).mono ?_
    rintro _ _ ⟨⟨c, rfl⟩, rfl⟩
    have e : segs [(p, c1), (q, c2)] = p ++ q := by simp [segs]
    simp +contextual -dsimp -implicitDefEqProofs (maxSteps := 5000000) only [go_sem, reduceIte, reduceCtorEq, Nat.reduceEqDiff, Nat.reduceBEq, Nat.reduceAdd, Nat.reduceLeDiff, Nat.reduceMul, Nat.reduceLT, Int.reduceEq, Int.reduceLT, Int.reduceLE, e]
    exact ⟨c, rfl⟩
theorem c_sThenProgram (t : List Class) (cl : Bool) (p q : List Line) (c1 c2 : Bool) (H : AHeap) (hn : namesOk t) (hp : p.length ≤ 1000) (hq : q.length ≤ 1000) : ACalls Tryz.prog 22 [aTree t cl, aProg p c1, aProg q c2] H fun r H' => (∃ c, r = .tup [aProg (mkR (validB t p && validB t q) t (p ++ q)) c, B (mkB (validB t p && validB t q) t (p ++ q))]) ∧ H' = H := by
  refine acalls_of1 Tryz.func22 rfl (by kernel_rfl) rfl rfl (awp_sound (fz := fun _ => []) (im := fun s => s == 3) mixed _ _ _ _ (by kernel_rfl) ?_)
  simp +contextual -dsimp -implicitDefEqProofs (maxSteps := 5000000) only [go_sem, reduceIte, reduceCtorEq, Nat.reduceEqDiff, Nat.reduceBEq, Nat.reduceAdd, Nat.reduceLeDiff, Nat.reduceMul, Nat.reduceLT, Int.reduceEq, Int.reduceLT, Int.reduceLE]
  refine (c_both t cl p q c1 c2 _ hn (by omega) (by omega)).det ?_
  unfold mkR mkB
  cases hv : (validB t p && validB t q)
  · simp +contextual -dsimp -implicitDefEqProofs (maxSteps := 5000000) only [go_sem, reduceIte, reduceCtorEq, Nat.reduceEqDiff, Nat.reduceBEq, Nat.reduceAdd, Nat.reduceLeDiff, Nat.reduceMul, Nat.reduceLT, Int.reduceEq, Int.reduceLT, Int.reduceLE]
    refine retR_less (l := [aProg [] true, B false]) (H' := H) ?_ (AHeap.le_refl _) ⟨⟨true, rfl⟩, rfl⟩
    simp only [resA, go_sem, reduceIte, reduceCtorEq, Nat.reduceEqDiff, Nat.reduceBEq, Nat.reduceAdd, Nat.reduceLeDiff, Nat.reduceMul, Nat.reduceLT, Int.reduceEq, Int.reduceLT, Int.reduceLE]
    try rfl
  · simp +contextual -dsimp -implicitDefEqProofs (maxSteps := 5000000) only [go_sem, reduceIte, reduceCtorEq, Nat.reduceEqDiff, Nat.reduceBEq, Nat.reduceAdd, Nat.reduceLeDiff, Nat.reduceMul, Nat.reduceLT, Int.reduceEq, Int.reduceLT, Int.reduceLE]
    refine draw_intro [1, 0, 0, 3, 0, 3, 2, 0, 0, 0, 0] AHeap.none (by kernel_rfl) none_le ?_
    simp +contextual -dsimp -implicitDefEqProofs (maxSteps := 5000000) only [go_sem, reduceIte, reduceCtorEq, Nat.reduceEqDiff, Nat.reduceBEq, Nat.reduceAdd, Nat.reduceLeDiff, Nat.reduceMul, Nat.reduceLT, Int.reduceEq, Int.reduceLT, Int.reduceLE]
    refine app_lines (m := p) grow_nil (by simp; omega) rfl fun x1 H1 hg1 => ?_
    simp +contextual -dsimp -implicitDefEqProofs (maxSteps := 5000000) only [go_sem, reduceIte, reduceCtorEq, Nat.reduceEqDiff, Nat.reduceBEq, Nat.reduceAdd, Nat.reduceLeDiff, Nat.reduceMul, Nat.reduceLT, Int.reduceEq, Int.reduceLT, Int.reduceLE]
    refine app_lines (m := q) hg1 (by simp; omega) rfl fun x2 H2 hg2 => ?_
    rw [List.nil_append] at hg2
    obtain ⟨c3, hz⟩ := grow_fz hg2
    simp +contextual -dsimp -implicitDefEqProofs (maxSteps := 5000000) only [go_sem, reduceIte, reduceCtorEq, Nat.reduceEqDiff, Nat.reduceBEq, Nat.reduceAdd, Nat.reduceLeDiff, Nat.reduceMul, Nat.reduceLT, Int.reduceEq, Int.reduceLT, Int.reduceLE]
    refine acalls_drop [aTree t cl, aProg (p ++ q) c3] (grow_le hg2) (.cons (.same _) (.cons hz .nil)) ?_
    refine (c_checkedProgram t cl (p ++ q) c3 _ hn (by simp; omega)).mono ?_
    rintro _ H ⟨⟨c, rfl⟩, rfl⟩
    simp +contextual -dsimp -implicitDefEqProofs (maxSteps := 5000000) only [go_sem, reduceIte, reduceCtorEq, Nat.reduceEqDiff, Nat.reduceBEq, Nat.reduceAdd, Nat.reduceLeDiff, Nat.reduceMul, Nat.reduceLT, Int.reduceEq, Int.reduceLT, Int.reduceLE]
    refine retR_less (l := [aProg (madeF t (p ++ q)) c, B (validB t (p ++ q))]) (H' := H) ?_ (AHeap.le_refl _) ⟨⟨c, rfl⟩, rfl⟩
    simp only [resA, go_sem, reduceIte, reduceCtorEq, Nat.reduceEqDiff, Nat.reduceBEq, Nat.reduceAdd, Nat.reduceLeDiff, Nat.reduceMul, Nat.reduceLT, Int.reduceEq, Int.reduceLT, Int.reduceLE]
theorem innP_len (p : List Line) : (innP p).length ≤ p.length + 1 := by
  unfold innP; split <;> simp
theorem c_mInLoop (t : List Class) (cl : Bool) (p : List Line) (c1 : Bool) (n : Int) (H : AHeap) (hn : namesOk t) (hp : p.length ≤ 1000) : ACalls Tryz.prog 24 [aTree t cl, aProg p c1, I n] H fun r H' => (∃ c, r = .tup [aProg (mkR (validB t p) t (loopP p n)) c, B (mkB (validB t p) t (loopP p n))]) ∧ H' = H := by
  have hil := innP_len p
  refine acalls_of0 Tryz.func24 rfl (by kernel_rfl) rfl rfl (awp_sound (fz := fun _ => []) (im := fun s => s == 3) mixed _ _ _ _ (by kernel_rfl) ?_)
  simp +contextual -dsimp -implicitDefEqProofs (maxSteps := 5000000) only [go_sem, reduceIte, reduceCtorEq, Nat.reduceEqDiff, Nat.reduceBEq, Nat.reduceAdd, Nat.reduceLeDiff, Nat.reduceMul, Nat.reduceLT, Int.reduceEq, Int.reduceLT, Int.reduceLE]
  refine (c_ValidProgram t cl p c1 _ hn (by omega)).det ?_
  unfold mkR mkB
  cases hv : validB t p
  · simp +contextual -dsimp -implicitDefEqProofs (maxSteps := 5000000) only [go_sem, reduceIte, reduceCtorEq, Nat.reduceEqDiff, Nat.reduceBEq, Nat.reduceAdd, Nat.reduceLeDiff, Nat.reduceMul, Nat.reduceLT, Int.reduceEq, Int.reduceLT, Int.reduceLE]
    exact ⟨true, rfl⟩
  · simp +contextual -dsimp -implicitDefEqProofs (maxSteps := 5000000) only [go_sem, reduceIte, reduceCtorEq, Nat.reduceEqDiff, Nat.reduceBEq, Nat.reduceAdd, Nat.reduceLeDiff, Nat.reduceMul, Nat.reduceLT, Int.reduceEq, Int.reduceLT, Int.reduceLE]
    refine draw_intro [1, 0, 0, 0, 0, 3, 0, 3, 2, 0, 0, 0, 0] AHeap.none (by kernel_rfl) none_le ?_
    simp +contextual -dsimp -implicitDefEqProofs (maxSteps := 5000000) only [go_sem, reduceIte, reduceCtorEq, Nat.reduceEqDiff, Nat.reduceBEq, Nat.reduceAdd, Nat.reduceLeDiff, Nat.reduceMul, Nat.reduceLT, Int.reduceEq, Int.reduceLT, Int.reduceLE]
    refine (c_inner p c1 _ hp (valid_depth (validB_true.1 hv))).mono ?_
    rintro _ H ⟨⟨c2, rfl⟩, rfl⟩
    simp +contextual -dsimp -implicitDefEqProofs (maxSteps := 5000000) only [go_sem, reduceIte, reduceCtorEq, Nat.reduceEqDiff, Nat.reduceBEq, Nat.reduceAdd, Nat.reduceLeDiff, Nat.reduceMul, Nat.reduceLT, Int.reduceEq, Int.reduceLT, Int.reduceLE]
    refine acalls_frz (c_ConcatL [([⟨0, 12, n, 0⟩], true), (innP p, c2)] true _ (by simp [segs]; omega)) fun c3 => ?_
    have e : segs [([⟨0, 12, n, 0⟩], true), (innP p, c2)] = loopP p n := by simp [segs, loopP]
    have hll : (loopP p n).length ≤ 4398046511104 := by simp [loopP]; omega
    rw [e]
    simp +contextual -dsimp -implicitDefEqProofs (maxSteps := 5000000) only [go_sem, reduceIte, reduceCtorEq, Nat.reduceEqDiff, Nat.reduceBEq, Nat.reduceAdd, Nat.reduceLeDiff, Nat.reduceMul, Nat.reduceLT, Int.reduceEq, Int.reduceLT, Int.reduceLE]
    refine (c_programMade t cl (loopP p n) c3 _ hn hll).mono ?_
    rintro _ _ ⟨⟨c, rfl⟩, rfl⟩
    simp +contextual -dsimp -implicitDefEqProofs (maxSteps := 5000000) only [go_sem, reduceIte, reduceCtorEq, Nat.reduceEqDiff, Nat.reduceBEq, Nat.reduceAdd, Nat.reduceLeDiff, Nat.reduceMul, Nat.reduceLT, Int.reduceEq, Int.reduceLT, Int.reduceLE]
    exact ⟨c, rfl⟩
theorem c_sInLoop (t : List Class) (cl : Bool) (p : List Line) (c1 : Bool) (n : Int) (H : AHeap) (hn : namesOk t) (hp : p.length ≤ 1000) : ACalls Tryz.prog 25 [aTree t cl, aProg p c1, I n] H fun r H' => (∃ c, r = .tup [aProg (mkR (validB t p) t (loopP p n)) c, B (mkB (validB t p) t (loopP p n))]) ∧ H' = H := by
  have hil := innP_len p
  refine acalls_of0 Tryz.func25 rfl (by kernel_rfl) rfl rfl (awp_sound (fz := fun _ => []) (im := fun s => s == 3) mixed _ _ _ _ (by kernel_rfl) ?_)
  simp +contextual -dsimp -implicitDefEqProofs (maxSteps := 5000000) only [go_sem, reduceIte, reduceCtorEq, Nat.reduceEqDiff, Nat.reduceBEq, Nat.reduceAdd, Nat.reduceLeDiff, Nat.reduceMul, Nat.reduceLT, Int.reduceEq, Int.reduceLT, Int.reduceLE]
  refine (c_svalidProgram t cl p c1 _ hn (by omega)).det ?_
  unfold mkR mkB
  cases hv : validB t p
  · simp +contextual -dsimp -implicitDefEqProofs (maxSteps := 5000000) only [go_sem, reduceIte, reduceCtorEq, Nat.reduceEqDiff, Nat.reduceBEq, Nat.reduceAdd, Nat.reduceLeDiff, Nat.reduceMul, Nat.reduceLT, Int.reduceEq, Int.reduceLT, Int.reduceLE]
    exact ⟨true, rfl⟩
  · simp +contextual -dsimp -implicitDefEqProofs (maxSteps := 5000000) only [go_sem, reduceIte, reduceCtorEq, Nat.reduceEqDiff, Nat.reduceBEq, Nat.reduceAdd, Nat.reduceLeDiff, Nat.reduceMul, Nat.reduceLT, Int.reduceEq, Int.reduceLT, Int.reduceLE]
    refine draw_intro [1, 0, 0, 0, 3, 2, 0, 0, 0, 0] AHeap.none (by kernel_rfl) none_le ?_
    simp +contextual -dsimp -implicitDefEqProofs (maxSteps := 5000000) only [go_sem, reduceIte, reduceCtorEq, Nat.reduceEqDiff, Nat.reduceBEq, Nat.reduceAdd, Nat.reduceLeDiff, Nat.reduceMul, Nat.reduceLT, Int.reduceEq, Int.reduceLT, Int.reduceLE]
    refine acalls_frz (c_under ⟨0, 12, n, 0⟩ p c1 _ hp (valid_depth (validB_true.1 hv))) fun c3 => ?_
    have hll : (loopP p n).length ≤ 4398046511104 := by simp [loopP]; omega
    rw [show (⟨0, 12, n, 0⟩ :: innP p : List Line) = loopP p n from rfl]
    simp +contextual -dsimp -implicitDefEqProofs (maxSteps := 5000000) only [go_sem, reduceIte, reduceCtorEq, Nat.reduceEqDiff, Nat.reduceBEq, Nat.reduceAdd, Nat.reduceLeDiff, Nat.reduceMul, Nat.reduceLT, Int.reduceEq, Int.reduceLT, Int.reduceLE]
    refine (c_checkedProgram t cl (loopP p n) c3 _ hn hll).mono ?_
    rintro _ _ ⟨⟨c, rfl⟩, rfl⟩
    simp +contextual -dsimp -implicitDefEqProofs (maxSteps := 5000000) only [go_sem, reduceIte, reduceCtorEq, Nat.reduceEqDiff, Nat.reduceBEq, Nat.reduceAdd, Nat.reduceLeDiff, Nat.reduceMul, Nat.reduceLT, Int.reduceEq, Int.reduceLT, Int.reduceLE]
    exact ⟨c, rfl⟩
end
section
open Go Go.Sim
set_option maxRecDepth 100000
set_option maxHeartbeats 4000000

theorem c_shortProgram (F : AHeap) (br n : Nat) (K : ABlk) (t : List Class) (cl : Bool) (hK : RdK n K) (hF : F br = none) (hn : n < 400000000) : ACalls Tryz.prog 102 [.ptr br 2 0 0, aTree t cl] (F.set br K) fun r H' =>
    ∃ (l : List Line) (cl' : Bool) (K' : ABlk), r = aProg l cl' ∧ H' = F.set br K' ∧ RdK (n + 80000) K' ∧ l.length ≤ 8 := by
  refine acalls_of1 Tryz.func102 rfl (by kernel_rfl) rfl rfl (awp_sound (fz := fun _ => []) (im := fun s => s == 3 || s == 15 || s == 28) mixed _ _ _ _ (by kernel_rfl) ?_)
  by_cases ht : t.length = 0
  · simp +contextual -dsimp -implicitDefEqProofs (maxSteps := 5000000) only [go_sem, reduceIte, reduceCtorEq, Nat.reduceEqDiff, Nat.reduceBEq, Nat.reduceAdd, Nat.reduceLeDiff, Nat.reduceMul, Nat.reduceLT, Int.reduceEq, Int.reduceLT, Int.reduceLE, ht]
    refine retR_less (l := [aProg [] true]) (H' := F.set br K) ?_ (AHeap.le_refl _) ⟨[], true, K, rfl, rfl, rdk_mono hK (by omega), by simp⟩
    simp only [resA, go_sem, reduceIte, reduceCtorEq, Nat.reduceEqDiff, Nat.reduceBEq, Nat.reduceAdd, Nat.reduceLeDiff, Nat.reduceMul, Nat.reduceLT, Int.reduceEq, Int.reduceLT, Int.reduceLE]
    try rfl
  · simp +contextual -dsimp -implicitDefEqProofs (maxSteps := 5000000) only [go_sem, reduceIte, reduceCtorEq, Nat.reduceEqDiff, Nat.reduceBEq, Nat.reduceAdd, Nat.reduceLeDiff, Nat.reduceMul, Nat.reduceLT, Int.reduceEq, Int.reduceLT, Int.reduceLE, ht]
    refine k_pick 8 hK hF (by omega) rfl fun v K1 _ _ _ hK1 => ?_
    simp +contextual -dsimp -implicitDefEqProofs (maxSteps := 5000000) only [go_sem, reduceIte, reduceCtorEq, Nat.reduceEqDiff, Nat.reduceBEq, Nat.reduceAdd, Nat.reduceLeDiff, Nat.reduceMul, Nat.reduceLT, Int.reduceEq, Int.reduceLT, Int.reduceLE, ht]
    refine ⟨fun _ => ?_, fun _ => ?_⟩
    · refine retR_less (l := [aProg [] true]) (H' := F.set br K1) ?_ (AHeap.le_refl _) ⟨[], true, K1, rfl, rfl, rdk_mono hK1 (by omega), by simp⟩
      simp only [resA, go_sem, reduceIte, reduceCtorEq, Nat.reduceEqDiff, Nat.reduceBEq, Nat.reduceAdd, Nat.reduceLeDiff, Nat.reduceMul, Nat.reduceLT, Int.reduceEq, Int.reduceLT, Int.reduceLE]
      try rfl
    · refine (blk0.frz F br _ K1 t cl false hK1 hF (by omega)).mono ?_
      rintro _ _ ⟨l, cl', K2, rfl, rfl, hK2, h1, h2⟩
      simp +contextual -dsimp -implicitDefEqProofs (maxSteps := 5000000) only [go_sem, reduceIte, reduceCtorEq, Nat.reduceEqDiff, Nat.reduceBEq, Nat.reduceAdd, Nat.reduceLeDiff, Nat.reduceMul, Nat.reduceLT, Int.reduceEq, Int.reduceLT, Int.reduceLE, ht]
      refine ⟨fun h8 => ?_, fun h8 => ?_⟩
      · refine k_pick t.length hK2 hF (by omega) rfl fun v K3 _ _ _ hK3 => ?_
        simp +contextual -dsimp -implicitDefEqProofs (maxSteps := 5000000) only [go_sem, reduceIte, reduceCtorEq, Nat.reduceEqDiff, Nat.reduceBEq, Nat.reduceAdd, Nat.reduceLeDiff, Nat.reduceMul, Nat.reduceLT, Int.reduceEq, Int.reduceLT, Int.reduceLE, ht]
        refine retR_less (l := [aProg [⟨0, 2, v, 4⟩] true]) (H' := F.set br K3) ?_ (AHeap.le_refl _) ⟨[⟨0, 2, v, 4⟩], true, K3, rfl, rfl, rdk_mono hK3 (by omega), by simp⟩
        simp only [resA, go_sem, reduceIte, reduceCtorEq, Nat.reduceEqDiff, Nat.reduceBEq, Nat.reduceAdd, Nat.reduceLeDiff, Nat.reduceMul, Nat.reduceLT, Int.reduceEq, Int.reduceLT, Int.reduceLE]
        try rfl
      · refine retR_less (l := [aProg l cl']) (H' := F.set br K2) ?_ (AHeap.le_refl _) ⟨l, cl', K2, rfl, rfl, rdk_mono hK2 (by omega), by omega⟩
        simp only [resA, go_sem, reduceIte, reduceCtorEq, Nat.reduceEqDiff, Nat.reduceBEq, Nat.reduceAdd, Nat.reduceLeDiff, Nat.reduceMul, Nat.reduceLT, Int.reduceEq, Int.reduceLT, Int.reduceLE]
theorem c_twoPrograms (F : AHeap) (br n : Nat) (K : ABlk) (h : RdK n K) (hF : F br = none) (hn : n < 300000000) : ACalls Tryz.prog 57 [.ptr br 2 0 0] (F.set br K) fun r H' =>
    ∃ t cl, ∃ (p q : List Line) (c1 c2 : Bool) (K' : ABlk), r = .tup [aTree t cl, aProg p c1, aProg q c2] ∧ H' = F.set br K' ∧ RdK (n + 2000000) K' ∧ t.length ≤ 8 ∧ shortNames t ∧ p.length ≤ 24 ∧ q.length ≤ 24 := by
  refine acalls_of1 Tryz.func57 rfl (by kernel_rfl) rfl rfl (awp_sound (fz := fun _ => []) (im := fun _ => false) mixed _ _ _ _ (by kernel_rfl) ?_)
  simp +contextual -dsimp -implicitDefEqProofs (maxSteps := 5000000) only [go_sem, reduceIte, reduceCtorEq, Nat.reduceEqDiff, Nat.reduceBEq, Nat.reduceAdd, Nat.reduceLeDiff, Nat.reduceMul, Nat.reduceLT, Int.reduceEq, Int.reduceLT, Int.reduceLE]
  rintro b2 ⟨p1, p2, hb2⟩
  rw [br_out p1]
  have n2 : ∀ K4, (F.set b2 K4) br = none := fun K4 => by rw [set_other p2]; exact hF
  refine (c_someProgram _ br n K h (n2 _) (by omega)).mono ?_
  rintro _ _ ⟨t, cl, p, c1, K1, rfl, rfl, hK1, ht8, hs, hp⟩
  simp +contextual -dsimp -implicitDefEqProofs (maxSteps := 5000000) only [go_sem, reduceIte, reduceCtorEq, Nat.reduceEqDiff, Nat.reduceBEq, Nat.reduceAdd, Nat.reduceLeDiff, Nat.reduceMul, Nat.reduceLT, Int.reduceEq, Int.reduceLT, Int.reduceLE, p1, p2]
  rintro b4 ⟨q1, q2, q3, q4, hb4⟩
  simp only [br_out q1]
  have n4 : ∀ K4 K5, ((F.set b2 K4).set b4 K5) br = none := fun K4 K5 => by rw [set_other q2]; exact n2 _
  refine k_pick 2 hK1 (n4 _ _) (by omega) rfl fun v K2 _ _ _ hK2 => ?_
  simp +contextual -dsimp -implicitDefEqProofs (maxSteps := 5000000) only [go_sem, reduceIte, reduceCtorEq, Nat.reduceEqDiff, Nat.reduceBEq, Nat.reduceAdd, Nat.reduceLeDiff, Nat.reduceMul, Nat.reduceLT, Int.reduceEq, Int.reduceLT, Int.reduceLE, p1, p2, q1, q2, q3, q4]
  refine ⟨fun _ => ?_, fun _ => ?_⟩
  · refine (c_shortProgram _ br _ K2 t cl hK2 (n4 _ _) (by omega)).mono ?_
    rintro _ _ ⟨p', c1', K3, rfl, rfl, hK3, hp'⟩
    simp +contextual -dsimp -implicitDefEqProofs (maxSteps := 5000000) only [go_sem, reduceIte, reduceCtorEq, Nat.reduceEqDiff, Nat.reduceBEq, Nat.reduceAdd, Nat.reduceLeDiff, Nat.reduceMul, Nat.reduceLT, Int.reduceEq, Int.reduceLT, Int.reduceLE, p1, p2, q1, q2, q3, q4]
    · refine draw_intro [1, 0, 0, 0, 3, 2, 0, 0] _ (by kernel_rfl) (le_set (n4 _ _)) ?_
      simp +contextual -dsimp -implicitDefEqProofs (maxSteps := 5000000) only [go_sem, reduceIte, reduceCtorEq, Nat.reduceEqDiff, Nat.reduceBEq, Nat.reduceAdd, Nat.reduceLeDiff, Nat.reduceMul, Nat.reduceLT, Int.reduceEq, Int.reduceLT, Int.reduceLE, p1, p2, q1, q2, q3, q4]
      refine (c_shortProgram _ br _ K3 t cl hK3 (n4 _ _) (by omega)).mono ?_
      rintro _ _ ⟨q, c2, K5, rfl, rfl, hK5, hq⟩
      refine ⟨le_set (n4 _ _), ?_⟩
      simp +contextual -dsimp -implicitDefEqProofs (maxSteps := 5000000) only [go_sem, reduceIte, reduceCtorEq, Nat.reduceEqDiff, Nat.reduceBEq, Nat.reduceAdd, Nat.reduceLeDiff, Nat.reduceMul, Nat.reduceLT, Int.reduceEq, Int.reduceLT, Int.reduceLE, p1, p2, q1, q2, q3, q4]
      refine retR_less (l := [aTree t cl, aProg p' c1', aProg q c2]) (H' := F.set br K5) ?_ (le_ch (le_s1 (le_s1 (AHeap.le_refl _) hb2) hb4)) ⟨t, cl, p', q, c1', c2, K5, rfl, rfl, rdk_mono hK5 (by omega), ht8, hs, by omega, by omega⟩
      simp only [resA, go_sem, reduceIte, reduceCtorEq, Nat.reduceEqDiff, Nat.reduceBEq, Nat.reduceAdd, Nat.reduceLeDiff, Nat.reduceMul, Nat.reduceLT, Int.reduceEq, Int.reduceLT, Int.reduceLE, p1, p2, q1, q2, q3, q4]
  · refine draw_intro [1, 0, 0, 0, 3, 2, 0, 0] _ (by kernel_rfl) (le_set (n4 _ _)) ?_
    simp +contextual -dsimp -implicitDefEqProofs (maxSteps := 5000000) only [go_sem, reduceIte, reduceCtorEq, Nat.reduceEqDiff, Nat.reduceBEq, Nat.reduceAdd, Nat.reduceLeDiff, Nat.reduceMul, Nat.reduceLT, Int.reduceEq, Int.reduceLT, Int.reduceLE, p1, p2, q1, q2, q3, q4]
    refine (c_shortProgram _ br _ K2 t cl hK2 (n4 _ _) (by omega)).mono ?_
    rintro _ _ ⟨q, c2, K5, rfl, rfl, hK5, hq⟩
    refine ⟨le_set (n4 _ _), ?_⟩
    simp +contextual -dsimp -implicitDefEqProofs (maxSteps := 5000000) only [go_sem, reduceIte, reduceCtorEq, Nat.reduceEqDiff, Nat.reduceBEq, Nat.reduceAdd, Nat.reduceLeDiff, Nat.reduceMul, Nat.reduceLT, Int.reduceEq, Int.reduceLT, Int.reduceLE, p1, p2, q1, q2, q3, q4]
    refine retR_less (l := [aTree t cl, aProg p c1, aProg q c2]) (H' := F.set br K5) ?_ (le_ch (le_s1 (le_s1 (AHeap.le_refl _) hb2) hb4)) ⟨t, cl, p, q, c1, c2, K5, rfl, rfl, rdk_mono hK5 (by omega), ht8, hs, by omega, by omega⟩
    simp only [resA, go_sem, reduceIte, reduceCtorEq, Nat.reduceEqDiff, Nat.reduceBEq, Nat.reduceAdd, Nat.reduceLeDiff, Nat.reduceMul, Nat.reduceLT, Int.reduceEq, Int.reduceLT, Int.reduceLE, p1, p2, q1, q2, q3, q4]
theorem c_DrawThenProgram (F : AHeap) (bs : List UInt8) (cb : Bool) : ACalls Tryz.prog 20 [.vsl (bs.map rU) cb] F fun r H' =>
    ∃ t cl, ∃ (p q : List Line) (c1 c2 : Bool), r = .tup [aTree t cl, aProg p c1, aProg q c2] ∧ H' = F ∧ shortNames t ∧ t.length ≤ 8 ∧ p.length ≤ 24 ∧ q.length ≤ 24 := by
  refine acalls_of1 Tryz.func20 rfl (by kernel_rfl) rfl rfl (awp_sound (fz := fun _ => []) (im := fun _ => false) mixed _ _ _ _ (by kernel_rfl) ?_)
  simp +contextual -dsimp -implicitDefEqProofs (maxSteps := 5000000) only [go_sem, reduceIte, reduceCtorEq, Nat.reduceEqDiff, Nat.reduceBEq, Nat.reduceAdd, Nat.reduceLeDiff, Nat.reduceMul, Nat.reduceLT, Int.reduceEq, Int.reduceLT, Int.reduceLE]
  rintro b2 h2
  refine (c_newReader bs cb _).mono ?_
  rintro _ H' ⟨br, rfl, hR⟩
  obtain ⟨K1, hK1, rfl⟩ := rd_to hR
  have f4 : ∀ K2, (F.set b2 K2) br = none := by
    have q := hR; obtain ⟨_, _, _, _, _, q, _⟩ := q
    rw [set_none] at q
    intro K2; rw [set_none]; exact q
  have q1 := f4 ⟨1, 0, []⟩
  rw [set_none] at q1
  obtain ⟨u1, u2, hr⟩ := q1
  simp +contextual -dsimp -implicitDefEqProofs (maxSteps := 5000000) only [go_sem, reduceIte, reduceCtorEq, Nat.reduceEqDiff, Nat.reduceBEq, Nat.reduceAdd, Nat.reduceLeDiff, Nat.reduceMul, Nat.reduceLT, Int.reduceEq, Int.reduceLT, Int.reduceLE]
  refine (c_twoPrograms _ br 0 K1 hK1 (f4 _) (by omega)).mono ?_
  rintro _ _ ⟨t, cl, p, q, c1, c2, K2, rfl, rfl, hK2, ht8, hs, hp, hq⟩
  simp +contextual -dsimp -implicitDefEqProofs (maxSteps := 5000000) only [go_sem, reduceIte, reduceCtorEq, Nat.reduceEqDiff, Nat.reduceBEq, Nat.reduceAdd, Nat.reduceLeDiff, Nat.reduceMul, Nat.reduceLT, Int.reduceEq, Int.reduceLT, Int.reduceLE, u1, u2]
  refine retR_less (l := [aTree t cl, aProg p c1, aProg q c2]) (H' := F) ?_ (le_s1 (le_s1 (AHeap.le_refl _) h2) hr) ⟨t, cl, p, q, c1, c2, rfl, rfl, hs, ht8, hp, hq⟩
  simp only [resA, go_sem, reduceIte, reduceCtorEq, Nat.reduceEqDiff, Nat.reduceBEq, Nat.reduceAdd, Nat.reduceLeDiff, Nat.reduceMul, Nat.reduceLT, Int.reduceEq, Int.reduceLT, Int.reduceLE, u1, u2]
theorem c_DrawRunLog (F : AHeap) (bs : List UInt8) (cb : Bool) : ACalls Tryz.prog 35 [.vsl (bs.map rU) cb] F fun r H' =>
    ∃ t cl, ∃ l : List Line, ∃ cl', r = .tup [aTree t cl, .vsl (l.map rLine) cl'] ∧ H' = F ∧ shortNames t ∧ t.length ≤ 8 ∧ l.length ≤ 24 := by
  refine acalls_of1 Tryz.func35 rfl (by kernel_rfl) rfl rfl (awp_sound (fz := fun _ => []) (im := fun _ => false) mixed _ _ _ _ (by kernel_rfl) ?_)
  simp +contextual -dsimp -implicitDefEqProofs (maxSteps := 5000000) only [go_sem, reduceIte, reduceCtorEq, Nat.reduceEqDiff, Nat.reduceBEq, Nat.reduceAdd, Nat.reduceLeDiff, Nat.reduceMul, Nat.reduceLT, Int.reduceEq, Int.reduceLT, Int.reduceLE]
  rintro b2 h2
  refine (c_newReader bs cb _).mono ?_
  rintro _ H' ⟨br, rfl, hR⟩
  obtain ⟨K1, hK1, rfl⟩ := rd_to hR
  have f4 : ∀ K2, (F.set b2 K2) br = none := by
    have q := hR; obtain ⟨_, _, _, _, _, q, _⟩ := q
    rw [set_none] at q
    intro K2; rw [set_none]; exact q
  have q1 := f4 ⟨1, 0, []⟩
  rw [set_none] at q1
  obtain ⟨u1, u2, hr⟩ := q1
  simp +contextual -dsimp -implicitDefEqProofs (maxSteps := 5000000) only [go_sem, reduceIte, reduceCtorEq, Nat.reduceEqDiff, Nat.reduceBEq, Nat.reduceAdd, Nat.reduceLeDiff, Nat.reduceMul, Nat.reduceLT, Int.reduceEq, Int.reduceLT, Int.reduceLE]
  refine (c_someProgram _ br 0 K1 hK1 (f4 _) (by omega)).mono ?_
  rintro _ _ ⟨t, cl, l, cl', K2, rfl, rfl, hK2, ht8, hs, hl⟩
  simp +contextual -dsimp -implicitDefEqProofs (maxSteps := 5000000) only [go_sem, reduceIte, reduceCtorEq, Nat.reduceEqDiff, Nat.reduceBEq, Nat.reduceAdd, Nat.reduceLeDiff, Nat.reduceMul, Nat.reduceLT, Int.reduceEq, Int.reduceLT, Int.reduceLE, u1, u2]
  refine retR_less (l := [aTree t cl, .vsl (l.map rLine) cl']) (H' := F) ?_ (le_s1 (le_s1 (AHeap.le_refl _) h2) hr) ⟨t, cl, l, cl', rfl, rfl, hs, ht8, hl⟩
  simp only [resA, go_sem, reduceIte, reduceCtorEq, Nat.reduceEqDiff, Nat.reduceBEq, Nat.reduceAdd, Nat.reduceLeDiff, Nat.reduceMul, Nat.reduceLT, Int.reduceEq, Int.reduceLT, Int.reduceLE, u1, u2]
theorem c_DrawInLoop (F : AHeap) (bs : List UInt8) (cb : Bool) : ACalls Tryz.prog 23 [.vsl (bs.map rU) cb] F fun r H' =>
    ∃ t cl, ∃ (p : List Line) (c1 : Bool) (n : Int), r = .tup [aTree t cl, aProg p c1, I n] ∧ H' = F ∧ shortNames t ∧ t.length ≤ 8 ∧ p.length ≤ 24 ∧ n ∈ [1, 2, 0, 3, 4, -1] := by
  refine acalls_of1 Tryz.func23 rfl (by kernel_rfl) rfl rfl (awp_sound (fz := fun _ => []) (im := fun _ => false) mixed _ _ _ _ (by kernel_rfl) ?_)
  simp +contextual -dsimp -implicitDefEqProofs (maxSteps := 5000000) only [go_sem, reduceIte, reduceCtorEq, Nat.reduceEqDiff, Nat.reduceBEq, Nat.reduceAdd, Nat.reduceLeDiff, Nat.reduceMul, Nat.reduceLT, Int.reduceEq, Int.reduceLT, Int.reduceLE]
  rintro b2 h2
  refine (c_newReader bs cb _).mono ?_
  rintro _ H' ⟨br, rfl, hR⟩
  obtain ⟨K1, hK1, rfl⟩ := rd_to hR
  have f4 : ∀ K2, (F.set b2 K2) br = none := by
    have q := hR; obtain ⟨_, _, _, _, _, q, _⟩ := q
    rw [set_none] at q
    intro K2; rw [set_none]; exact q
  have q1 := f4 ⟨1, 0, []⟩
  rw [set_none] at q1
  obtain ⟨u1, u2, hr⟩ := q1
  simp +contextual -dsimp -implicitDefEqProofs (maxSteps := 5000000) only [go_sem, reduceIte, reduceCtorEq, Nat.reduceEqDiff, Nat.reduceBEq, Nat.reduceAdd, Nat.reduceLeDiff, Nat.reduceMul, Nat.reduceLT, Int.reduceEq, Int.reduceLT, Int.reduceLE]
  refine (c_twoPrograms _ br 0 K1 hK1 (f4 _) (by omega)).mono ?_
  rintro _ _ ⟨t, cl, p, q, c1, c2, K2, rfl, rfl, hK2, ht8, hs, hp, hq⟩
  simp +contextual -dsimp -implicitDefEqProofs (maxSteps := 5000000) only [go_sem, reduceIte, reduceCtorEq, Nat.reduceEqDiff, Nat.reduceBEq, Nat.reduceAdd, Nat.reduceLeDiff, Nat.reduceMul, Nat.reduceLT, Int.reduceEq, Int.reduceLT, Int.reduceLE, u1, u2]
  rintro b6 ⟨s1, s2, s3, s4, hb6⟩
  rw [br_out s1]
  have n6 : ∀ A C, ((F.set b2 A).set b6 C) br = none := fun A C => by rw [set_other s2]; exact f4 _
  refine draw_intro [1, 0, 0, 0, 3, 2, 0, 0] _ (by kernel_rfl) (le_set (n6 _ _)) ?_
  simp +contextual -dsimp -implicitDefEqProofs (maxSteps := 5000000) only [go_sem, reduceIte, reduceCtorEq, Nat.reduceEqDiff, Nat.reduceBEq, Nat.reduceAdd, Nat.reduceLeDiff, Nat.reduceMul, Nat.reduceLT, Int.reduceEq, Int.reduceLT, Int.reduceLE, u1, u2, s1, s2, s3, s4]
  refine k_one [1, 2, 0, 3, 4, -1] _ hK2 (n6 _ _) (by omega) (by simp) rfl rfl fun n K3 hn hK3 => ?_
  refine ⟨le_set (n6 _ _), ?_⟩
  simp +contextual -dsimp -implicitDefEqProofs (maxSteps := 5000000) only [go_sem, reduceIte, reduceCtorEq, Nat.reduceEqDiff, Nat.reduceBEq, Nat.reduceAdd, Nat.reduceLeDiff, Nat.reduceMul, Nat.reduceLT, Int.reduceEq, Int.reduceLT, Int.reduceLE, u1, u2, s1, s2, s3, s4]
  refine retR_less (l := [aTree t cl, aProg p c1, I n]) (H' := F) ?_ (le_s1 (le_s1 (le_s1 (AHeap.le_refl _) h2) hb6) hr) ⟨t, cl, p, c1, n, rfl, rfl, hs, ht8, hp, hn⟩
  simp only [resA, go_sem, reduceIte, reduceCtorEq, Nat.reduceEqDiff, Nat.reduceBEq, Nat.reduceAdd, Nat.reduceLeDiff, Nat.reduceMul, Nat.reduceLT, Int.reduceEq, Int.reduceLT, Int.reduceLE, u1, u2, s1, s2, s3, s4]
end
section
open Go Go.Sim
set_option maxRecDepth 100000
set_option maxHeartbeats 4000000

theorem res_len3 {t : List Class} {p : List Line} (h : ValidP t p) : (resOf (runP t p)).log.length ≤ 34992 := by
  have := (runP_goes h).len
  rw [res_log]
  have : (rs0 : RS).log.length = 0 := rfl
  omega
theorem mk_true {t : List Class} {b : Bool} {l : List Line} (h : mkB b t l = true) : b = true ∧ ValidP t l ∧ validB t l = true ∧ mkR b t l = l := by
  unfold mkB at h
  rw [Bool.and_eq_true] at h
  refine ⟨h.1, validB_true.1 h.2, h.2, ?_⟩
  unfold mkR madeF
  rw [if_pos h.1, if_pos h.2]
theorem timesL_len (l : List Int) : ∀ n, (timesL l n).length = n * l.length
  | 0 => by simp [timesL]
  | n + 1 => by simp only [timesL, List.length_append, timesL_len l n, Nat.succ_mul]
theorem c_mRun (t : List Class) (cl : Bool) (p : List Line) (c1 : Bool) (H : AHeap) (hn : namesOk t) (hp : p.length ≤ 1000) (hv : validB t p = true) : ACalls Tryz.prog 12 [aTree t cl, aProg p c1] H fun r H' => (∃ c2 c3, r = aRes (resOf (runP t p)) c2 c3) ∧ H' = H := by
  have k := own_frz (c_mRunProgram t cl p c1 H hn (by omega))
  rw [if_pos hv] at k
  exact k
theorem loopP_len (p : List Line) (n : Int) : (loopP p n).length ≤ p.length + 2 := by have := innP_len p; simp [loopP]; omega
theorem loop_n {t : List Class} {p : List Line} {n : Int} (h : ValidP t p) (hl : ValidP t (loopP p n)) : 0 ≤ n ∧ n ≤ 3 := by
  obtain ⟨_, _, h3, _⟩ := validP_forest hl
  rw [forest_loop h] at h3
  obtain ⟨n1, _⟩ := numsF_node h3
  unfold numOk at n1
  rw [if_neg (by omega), if_neg (by omega), if_neg (by omega), if_neg (by omega), if_pos rfl, Bool.and_eq_true] at n1
  simp only [inR, Bool.and_eq_true, decide_eq_true_eq] at n1
  exact n1.1
theorem c_LawInLoop (bs : List UInt8) (cb : Bool) (H : AHeap) : ACalls Tryz.prog 6 [.vsl (bs.map rU) cb] H fun r H' => r = B true ∧ H' = H := by
  have eqv : ∀ l : List Line, decide (l = l) = true := fun l => by simp
  have ers : ∀ R : Res, resEq R R = true := fun R => by simp [resEq]
  refine acalls_of1 Tryz.func6 rfl (by kernel_rfl) rfl rfl (awp_sound (fz := fun r => if r = 3 then [3] else if r = 8 then [10] else if r = 9 then [11] else []) (im := fun s => s == 81) mixed _ _ _ _ (by kernel_rfl) ?_)
  simp +contextual -dsimp -implicitDefEqProofs (maxSteps := 5000000) only [go_sem, reduceIte, reduceCtorEq, Nat.reduceEqDiff, Nat.reduceBEq, Nat.reduceAdd, Nat.reduceLeDiff, Nat.reduceMul, Nat.reduceLT, Int.reduceEq, Int.reduceLT, Int.reduceLE]
  refine ⟨fun hbig => ?_, fun hsmall => ?_⟩
  · refine retR_less (l := [B true]) (H' := H) ?_ (AHeap.le_refl _) ⟨rfl, rfl⟩
    simp only [resA, go_sem, reduceIte, reduceCtorEq, Nat.reduceEqDiff, Nat.reduceBEq, Nat.reduceAdd, Nat.reduceLeDiff, Nat.reduceMul, Nat.reduceLT, Int.reduceEq, Int.reduceLT, Int.reduceLE]
  refine (c_DrawInLoop H bs cb).mono ?_
  rintro _ H1 ⟨t, cl, p, c1, n, rfl, hH, hs, ht8, hp, hn6⟩
  rw [hH]
  have hn := short_ok hs
  have hll := loopP_len p n
  simp +contextual -dsimp -implicitDefEqProofs (maxSteps := 5000000) only [go_sem, reduceIte, reduceCtorEq, Nat.reduceEqDiff, Nat.reduceBEq, Nat.reduceAdd, Nat.reduceLeDiff, Nat.reduceMul, Nat.reduceLT, Int.reduceEq, Int.reduceLT, Int.reduceLE]
  intro b3 hb3
  refine (c_mInLoop t cl p c1 n _ hn (by omega)).mono ?_
  rintro _ H ⟨⟨d1, rfl⟩, rfl⟩
  simp +contextual -dsimp -implicitDefEqProofs (maxSteps := 5000000) only [go_sem, reduceIte, reduceCtorEq, Nat.reduceEqDiff, Nat.reduceBEq, Nat.reduceAdd, Nat.reduceLeDiff, Nat.reduceMul, Nat.reduceLT, Int.reduceEq, Int.reduceLT, Int.reduceLE]
  refine (c_sInLoop t cl p c1 n _ hn (by omega)).mono ?_
  rintro _ H ⟨⟨d2, rfl⟩, rfl⟩
  simp +contextual -dsimp -implicitDefEqProofs (maxSteps := 5000000) only [go_sem, reduceIte, reduceCtorEq, Nat.reduceEqDiff, Nat.reduceBEq, Nat.reduceAdd, Nat.reduceLeDiff, Nat.reduceMul, Nat.reduceLT, Int.reduceEq, Int.reduceLT, Int.reduceLE]
  refine (c_equalLines _ _ _ _ _).det ?_
  rw [eqv]
  cases hb : mkB (validB t p) t (loopP p n)
  · simp +contextual -dsimp -implicitDefEqProofs (maxSteps := 5000000) only [go_sem, reduceIte, reduceCtorEq, Nat.reduceEqDiff, Nat.reduceBEq, Nat.reduceAdd, Nat.reduceLeDiff, Nat.reduceMul, Nat.reduceLT, Int.reduceEq, Int.reduceLT, Int.reduceLE]
    refine (c_equalLines _ _ _ _ _).det ?_
    rw [eqv]
    simp +contextual -dsimp -implicitDefEqProofs (maxSteps := 5000000) only [go_sem, reduceIte, reduceCtorEq, Nat.reduceEqDiff, Nat.reduceBEq, Nat.reduceAdd, Nat.reduceLeDiff, Nat.reduceMul, Nat.reduceLT, Int.reduceEq, Int.reduceLT, Int.reduceLE]
    refine retR_less (l := [B true]) (H' := H) ?_ (AHeap.le_refl _) ⟨rfl, rfl⟩
    simp only [resA, go_sem, reduceIte, reduceCtorEq, Nat.reduceEqDiff, Nat.reduceBEq, Nat.reduceAdd, Nat.reduceLeDiff, Nat.reduceMul, Nat.reduceLT, Int.reduceEq, Int.reduceLT, Int.reduceLE]
  obtain ⟨hvb, hv2, hvb2, emk⟩ := mk_true hb
  have hv := validB_true.1 hvb
  rw [emk]
  obtain ⟨g1, g2, g3⟩ := loop_law hv n
  have k1 := c_mRun t cl p c1 H hn (by omega) hvb
  have k2 := c_mRun t cl (loopP p n) d1 H hn (by omega) hvb2
  have hl1 := res_len3 hv
  generalize resOf (runP t p) = R1 at hl1 k1 g1 g2 g3
  generalize resOf (runP t (loopP p n)) = R2 at k2 g1 g2 g3
  simp +contextual -dsimp -implicitDefEqProofs (maxSteps := 5000000) only [go_sem, reduceIte, reduceCtorEq, Nat.reduceEqDiff, Nat.reduceBEq, Nat.reduceAdd, Nat.reduceLeDiff, Nat.reduceMul, Nat.reduceLT, Int.reduceEq, Int.reduceLT, Int.reduceLE]
  refine k1.mono ?_
  rintro _ H ⟨⟨c3, c4, rfl⟩, rfl⟩
  simp +contextual -dsimp -implicitDefEqProofs (maxSteps := 5000000) only [go_sem, reduceIte, reduceCtorEq, Nat.reduceEqDiff, Nat.reduceBEq, Nat.reduceAdd, Nat.reduceLeDiff, Nat.reduceMul, Nat.reduceLT, Int.reduceEq, Int.reduceLT, Int.reduceLE]
  intro b9 hb9
  refine k2.mono ?_
  rintro _ H ⟨⟨c5, c6, rfl⟩, rfl⟩
  simp +contextual -dsimp -implicitDefEqProofs (maxSteps := 5000000) only [go_sem, reduceIte, reduceCtorEq, Nat.reduceEqDiff, Nat.reduceBEq, Nat.reduceAdd, Nat.reduceLeDiff, Nat.reduceMul, Nat.reduceLT, Int.reduceEq, Int.reduceLT, Int.reduceLE]
  intro b10 hb10
  refine ⟨fun n0 => ?_, fun n0 => ?_⟩
  · obtain ⟨g4, g5⟩ := g1 n0
    simp +contextual -dsimp -implicitDefEqProofs (maxSteps := 5000000) only [go_sem, reduceIte, reduceCtorEq, Nat.reduceEqDiff, Nat.reduceBEq, Nat.reduceAdd, Nat.reduceLeDiff, Nat.reduceMul, Nat.reduceLT, Int.reduceEq, Int.reduceLT, Int.reduceLE, g4, g5]
    refine retR_less (l := [B true]) (H' := H) ?_ (AHeap.le_refl _) ⟨rfl, rfl⟩
    simp only [resA, go_sem, reduceIte, reduceCtorEq, Nat.reduceEqDiff, Nat.reduceBEq, Nat.reduceAdd, Nat.reduceLeDiff, Nat.reduceMul, Nat.reduceLT, Int.reduceEq, Int.reduceLT, Int.reduceLE]
  obtain ⟨l0, l3⟩ := loop_n hv hv2
  refine ⟨fun he => ?_, fun he => ?_⟩
  · rw [g2 (by omega) he]
    refine (c_equalResult _ _ _ _ _ _ _).det ?_
    rw [ers]
    simp +contextual -dsimp -implicitDefEqProofs (maxSteps := 5000000) only [go_sem, reduceIte, reduceCtorEq, Nat.reduceEqDiff, Nat.reduceBEq, Nat.reduceAdd, Nat.reduceLeDiff, Nat.reduceMul, Nat.reduceLT, Int.reduceEq, Int.reduceLT, Int.reduceLE]
    refine retR_less (l := [B true]) (H' := H) ?_ (AHeap.le_refl _) ⟨rfl, rfl⟩
    simp only [resA, go_sem, reduceIte, reduceCtorEq, Nat.reduceEqDiff, Nat.reduceBEq, Nat.reduceAdd, Nat.reduceLeDiff, Nat.reduceMul, Nat.reduceLT, Int.reduceEq, Int.reduceLT, Int.reduceLE]
  obtain ⟨g4, g5⟩ := g3 he
  have htl := timesL_len R1.log
  refine aloop mixed (fz := fun r => if r = 3 then [3] else if r = 8 then [10] else if r = 9 then [11] else []) (im := fun s => s == 81) (by kernel_rfl) (fun m tm H' => ∃ (k : Nat) (x : AV), m = n.toNat - k ∧ k ≤ n.toNat ∧ Grow rI 1 3 H H' x (timesL R1.log k) ∧ tm 5 = I n ∧ tm 12 = x ∧ tm 10 = .vptr [[.vsl (R1.log.map rI) c3, I R1.ed, I R1.val, .vsl (R1.heap.map rFault) c4]] 0 0 ∧ tm 11 = .vptr [[.vsl (R2.log.map rI) c5, I R2.ed, I R2.val, .vsl (R2.heap.map rFault) c6]] 0 0 ∧ tm 13 = I k) n.toNat ⟨0, .vsl [] true, by omega, by omega, grow_nil, ?_⟩ ?_
  · simp +contextual -dsimp -implicitDefEqProofs (maxSteps := 5000000) only [go_sem, reduceIte, reduceCtorEq, Nat.reduceEqDiff, Nat.reduceBEq, Nat.reduceAdd, Nat.reduceLeDiff, Nat.reduceMul, Nat.reduceLT, Int.reduceEq, Int.reduceLT, Int.reduceLE, he]
  · rintro m tm H' ⟨k, x, rfl, hk, hg, t5, t12, t10, t11, t13⟩
    by_cases hlt : (k : Int) < n
    · have hk3 := htl k
      have hk4 : k * R1.log.length ≤ 3 * R1.log.length := Nat.mul_le_mul_right _ (by omega)
      simp +contextual -dsimp -implicitDefEqProofs (maxSteps := 5000000) only [go_sem, reduceIte, reduceCtorEq, Nat.reduceEqDiff, Nat.reduceBEq, Nat.reduceAdd, Nat.reduceLeDiff, Nat.reduceMul, Nat.reduceLT, Int.reduceEq, Int.reduceLT, Int.reduceLE, t5, t10, t11, t12, t13, hlt]
      refine grow_append (m := R1.log) te26 ti3 rI_len (by decide) hg (by show ((timesL R1.log k).length + R1.log.length) * 8 ≤ _; omega) (by show (timesL R1.log k).length + R1.log.length ≤ _; omega) rfl fun x' H'' hg' => ?_
      simp +contextual -dsimp -implicitDefEqProofs (maxSteps := 5000000) only [go_sem, reduceIte, reduceCtorEq, Nat.reduceEqDiff, Nat.reduceBEq, Nat.reduceAdd, Nat.reduceLeDiff, Nat.reduceMul, Nat.reduceLT, Int.reduceEq, Int.reduceLT, Int.reduceLE, t5, t10, t11, t12, t13, hlt]
      exact ⟨_, by omega, k + 1, x', rfl, by omega, hg', rfl, I_wrap (by omega) (by omega) (by omega)⟩
    · have hkn : k = n.toNat := by omega
      subst hkn
      simp +contextual -dsimp -implicitDefEqProofs (maxSteps := 5000000) only [go_sem, reduceIte, reduceCtorEq, Nat.reduceEqDiff, Nat.reduceBEq, Nat.reduceAdd, Nat.reduceLeDiff, Nat.reduceMul, Nat.reduceLT, Int.reduceEq, Int.reduceLT, Int.reduceLE, t5, t10, t11, t12, t13, hlt]
      obtain ⟨c7, hz⟩ := grow_fz hg
      refine acalls_drop [.vsl (R2.log.map rI) c5, .vsl ((timesL R1.log n.toNat).map rI) c7] (grow_le hg) (.cons (.same _) (.cons hz .nil)) ?_
      refine (c_equalInts _ _ _ _ _).det ?_
      rw [g4, decide_eq_true (rfl : timesL R1.log n.toNat = _)]
      simp +contextual -dsimp -implicitDefEqProofs (maxSteps := 5000000) only [go_sem, reduceIte, reduceCtorEq, Nat.reduceEqDiff, Nat.reduceBEq, Nat.reduceAdd, Nat.reduceLeDiff, Nat.reduceMul, Nat.reduceLT, Int.reduceEq, Int.reduceLT, Int.reduceLE, t5, t10, t11, t12, t13, hlt, g5]
      refine retR_less (l := [B true]) (H' := H) ?_ (AHeap.le_refl _) ⟨rfl, rfl⟩
      simp only [resA, go_sem, reduceIte, reduceCtorEq, Nat.reduceEqDiff, Nat.reduceBEq, Nat.reduceAdd, Nat.reduceLeDiff, Nat.reduceMul, Nat.reduceLT, Int.reduceEq, Int.reduceLT, Int.reduceLE]
theorem c_LawInLoopTwice (bs : List UInt8) (cb : Bool) (H : AHeap) : ACalls Tryz.prog 7 [.vsl (bs.map rU) cb] H fun r H' => r = B true ∧ H' = H := by
  have eqv : ∀ l : List Line, decide (l = l) = true := fun l => by simp
  have ers : ∀ R : Res, resEq R R = true := fun R => by simp [resEq]
  refine acalls_of1 Tryz.func7 rfl (by kernel_rfl) rfl rfl (awp_sound (fz := fun r => if r = 3 then [3] else []) (im := fun _ => false) mixed _ _ _ _ (by kernel_rfl) ?_)
  simp +contextual -dsimp -implicitDefEqProofs (maxSteps := 5000000) only [go_sem, reduceIte, reduceCtorEq, Nat.reduceEqDiff, Nat.reduceBEq, Nat.reduceAdd, Nat.reduceLeDiff, Nat.reduceMul, Nat.reduceLT, Int.reduceEq, Int.reduceLT, Int.reduceLE]
  refine ⟨fun hbig => ?_, fun hsmall => ?_⟩
  · refine retR_less (l := [B true]) (H' := H) ?_ (AHeap.le_refl _) ⟨rfl, rfl⟩
    simp only [resA, go_sem, reduceIte, reduceCtorEq, Nat.reduceEqDiff, Nat.reduceBEq, Nat.reduceAdd, Nat.reduceLeDiff, Nat.reduceMul, Nat.reduceLT, Int.reduceEq, Int.reduceLT, Int.reduceLE]
  refine (c_DrawInLoop H bs cb).mono ?_
  rintro _ H1 ⟨t, cl, p, c1, n, rfl, hH, hs, ht8, hp, hn6⟩
  rw [hH]
  have hn := short_ok hs
  have hll := loopP_len p n
  simp +contextual -dsimp -implicitDefEqProofs (maxSteps := 5000000) only [go_sem, reduceIte, reduceCtorEq, Nat.reduceEqDiff, Nat.reduceBEq, Nat.reduceAdd, Nat.reduceLeDiff, Nat.reduceMul, Nat.reduceLT, Int.reduceEq, Int.reduceLT, Int.reduceLE]
  intro b3 hb3
  refine (c_mInLoop t cl p c1 n _ hn (by omega)).mono ?_
  rintro _ H ⟨⟨d1, rfl⟩, rfl⟩
  simp +contextual -dsimp -implicitDefEqProofs (maxSteps := 5000000) only [go_sem, reduceIte, reduceCtorEq, Nat.reduceEqDiff, Nat.reduceBEq, Nat.reduceAdd, Nat.reduceLeDiff, Nat.reduceMul, Nat.reduceLT, Int.reduceEq, Int.reduceLT, Int.reduceLE]
  refine (c_sInLoop t cl p c1 n _ hn (by omega)).mono ?_
  rintro _ H ⟨⟨d2, rfl⟩, rfl⟩
  simp +contextual -dsimp -implicitDefEqProofs (maxSteps := 5000000) only [go_sem, reduceIte, reduceCtorEq, Nat.reduceEqDiff, Nat.reduceBEq, Nat.reduceAdd, Nat.reduceLeDiff, Nat.reduceMul, Nat.reduceLT, Int.reduceEq, Int.reduceLT, Int.reduceLE]
  refine (c_equalLines _ _ _ _ _).det ?_
  rw [eqv]
  cases hb : mkB (validB t p) t (loopP p n)
  · simp +contextual -dsimp -implicitDefEqProofs (maxSteps := 5000000) only [go_sem, reduceIte, reduceCtorEq, Nat.reduceEqDiff, Nat.reduceBEq, Nat.reduceAdd, Nat.reduceLeDiff, Nat.reduceMul, Nat.reduceLT, Int.reduceEq, Int.reduceLT, Int.reduceLE]
    refine (c_equalLines _ _ _ _ _).det ?_
    rw [eqv]
    simp +contextual -dsimp -implicitDefEqProofs (maxSteps := 5000000) only [go_sem, reduceIte, reduceCtorEq, Nat.reduceEqDiff, Nat.reduceBEq, Nat.reduceAdd, Nat.reduceLeDiff, Nat.reduceMul, Nat.reduceLT, Int.reduceEq, Int.reduceLT, Int.reduceLE]
    refine retR_less (l := [B true]) (H' := H) ?_ (AHeap.le_refl _) ⟨rfl, rfl⟩
    simp only [resA, go_sem, reduceIte, reduceCtorEq, Nat.reduceEqDiff, Nat.reduceBEq, Nat.reduceAdd, Nat.reduceLeDiff, Nat.reduceMul, Nat.reduceLT, Int.reduceEq, Int.reduceLT, Int.reduceLE]
  obtain ⟨hvb, hv2, hvb2, emk⟩ := mk_true hb
  have hv := validB_true.1 hvb
  rw [emk]
  have hl2 := loopP_len p 2
  simp +contextual -dsimp -implicitDefEqProofs (maxSteps := 5000000) only [go_sem, reduceIte, reduceCtorEq, Nat.reduceEqDiff, Nat.reduceBEq, Nat.reduceAdd, Nat.reduceLeDiff, Nat.reduceMul, Nat.reduceLT, Int.reduceEq, Int.reduceLT, Int.reduceLE]
  refine (c_mInLoop t cl p c1 2 _ hn (by omega)).mono ?_
  rintro _ H ⟨⟨d3, rfl⟩, rfl⟩
  simp +contextual -dsimp -implicitDefEqProofs (maxSteps := 5000000) only [go_sem, reduceIte, reduceCtorEq, Nat.reduceEqDiff, Nat.reduceBEq, Nat.reduceAdd, Nat.reduceLeDiff, Nat.reduceMul, Nat.reduceLT, Int.reduceEq, Int.reduceLT, Int.reduceLE]
  refine (c_mThenProgram t cl p p c1 c1 _ hn (by omega) (by omega)).mono ?_
  rintro _ H ⟨⟨d4, rfl⟩, rfl⟩
  simp +contextual -dsimp -implicitDefEqProofs (maxSteps := 5000000) only [go_sem, reduceIte, reduceCtorEq, Nat.reduceEqDiff, Nat.reduceBEq, Nat.reduceAdd, Nat.reduceLeDiff, Nat.reduceMul, Nat.reduceLT, Int.reduceEq, Int.reduceLT, Int.reduceLE]
  refine draw_intro [0, 0, 0, 0, 0, 0, 0, 0, 0, 3, 1, 0, 2, 2, 0, 0] AHeap.none (by kernel_rfl) none_le ?_
  cases hb3 : mkB (validB t p) t (loopP p 2)
  · simp +contextual -dsimp -implicitDefEqProofs (maxSteps := 5000000) only [go_sem, reduceIte, reduceCtorEq, Nat.reduceEqDiff, Nat.reduceBEq, Nat.reduceAdd, Nat.reduceLeDiff, Nat.reduceMul, Nat.reduceLT, Int.reduceEq, Int.reduceLT, Int.reduceLE]
    refine retR_less (l := [B true]) (H' := H) ?_ (AHeap.le_refl _) ⟨rfl, rfl⟩
    simp only [resA, go_sem, reduceIte, reduceCtorEq, Nat.reduceEqDiff, Nat.reduceBEq, Nat.reduceAdd, Nat.reduceLeDiff, Nat.reduceMul, Nat.reduceLT, Int.reduceEq, Int.reduceLT, Int.reduceLE]
  cases hb4 : mkB (validB t p && validB t p) t (p ++ p)
  · simp +contextual -dsimp -implicitDefEqProofs (maxSteps := 5000000) only [go_sem, reduceIte, reduceCtorEq, Nat.reduceEqDiff, Nat.reduceBEq, Nat.reduceAdd, Nat.reduceLeDiff, Nat.reduceMul, Nat.reduceLT, Int.reduceEq, Int.reduceLT, Int.reduceLE]
    refine retR_less (l := [B true]) (H' := H) ?_ (AHeap.le_refl _) ⟨rfl, rfl⟩
    simp only [resA, go_sem, reduceIte, reduceCtorEq, Nat.reduceEqDiff, Nat.reduceBEq, Nat.reduceAdd, Nat.reduceLeDiff, Nat.reduceMul, Nat.reduceLT, Int.reduceEq, Int.reduceLT, Int.reduceLE]
  obtain ⟨_, w1, w2, w3⟩ := mk_true hb3
  obtain ⟨_, w4, w5, w6⟩ := mk_true hb4
  rw [w3, w6]
  have k1 := fun H => c_mRun t cl (loopP p 2) d3 H hn (by omega) w2
  have k2 := fun H => c_mRun t cl (p ++ p) d4 H hn (by simp; omega) w5
  rw [twice_law hv] at k1
  simp +contextual -dsimp -implicitDefEqProofs (maxSteps := 5000000) only [go_sem, reduceIte, reduceCtorEq, Nat.reduceEqDiff, Nat.reduceBEq, Nat.reduceAdd, Nat.reduceLeDiff, Nat.reduceMul, Nat.reduceLT, Int.reduceEq, Int.reduceLT, Int.reduceLE]
  refine (k1 _).mono ?_
  rintro _ H ⟨⟨c3, c4, rfl⟩, rfl⟩
  simp +contextual -dsimp -implicitDefEqProofs (maxSteps := 5000000) only [go_sem, reduceIte, reduceCtorEq, Nat.reduceEqDiff, Nat.reduceBEq, Nat.reduceAdd, Nat.reduceLeDiff, Nat.reduceMul, Nat.reduceLT, Int.reduceEq, Int.reduceLT, Int.reduceLE]
  refine (k2 _).mono ?_
  rintro _ H ⟨⟨c5, c6, rfl⟩, rfl⟩
  simp +contextual -dsimp -implicitDefEqProofs (maxSteps := 5000000) only [go_sem, reduceIte, reduceCtorEq, Nat.reduceEqDiff, Nat.reduceBEq, Nat.reduceAdd, Nat.reduceLeDiff, Nat.reduceMul, Nat.reduceLT, Int.reduceEq, Int.reduceLT, Int.reduceLE]
  refine (c_equalResult _ _ _ _ _ _ _).det ?_
  rw [ers]
  simp +contextual -dsimp -implicitDefEqProofs (maxSteps := 5000000) only [go_sem, reduceIte, reduceCtorEq, Nat.reduceEqDiff, Nat.reduceBEq, Nat.reduceAdd, Nat.reduceLeDiff, Nat.reduceMul, Nat.reduceLT, Int.reduceEq, Int.reduceLT, Int.reduceLE]
  refine retR_less (l := [B true]) (H' := H) ?_ (AHeap.le_refl _) ⟨rfl, rfl⟩
  simp only [resA, go_sem, reduceIte, reduceCtorEq, Nat.reduceEqDiff, Nat.reduceBEq, Nat.reduceAdd, Nat.reduceLeDiff, Nat.reduceMul, Nat.reduceLT, Int.reduceEq, Int.reduceLT, Int.reduceLE]
end
end
end Go.Proofs.YtbjgilehnlpmaaaGreat
