/- Walks and plain laws that the claims of this seat lean on. No condition. -/
import Derived.Test.YtckipeopgimenaaGreatJ4
import Derived.Test.YtckipeopgimenaaGreatSimZ
import Derived.Test.YtckipeopgimenaaGreatGrow
import Derived.Test.YtckipeopgimenaaGreatJ2
import Derived.Test.YtckipeopgimenaaGreatSimY
import Derived.Lib.ItoaNum
set_option linter.unusedVariables false
set_option linter.unusedSimpArgs false
namespace Go.Proofs.YtckipeopgimenaaGreat
open Go Go.Sim
section
set_option maxRecDepth 100000
attribute [local go_sem ↓] aw_skip aw_ret aw_exit aw_region aw_draw aw_seq aw_block aw_loop aw_cond frz_nil frz_cons sq_normal sq_ret sq_exit exB_normal exB_ret exB_same exB_other retQ_ret retQ_normal ret0_ret ret0_normal ao_nil go1 g_move g_assign g_pick g_build g_load g_binOp g_unOp g_convert g_fieldAddr g_field g_indexAddr g_index g_extract g_lookup g_slice g_nilCheck g_len g_makeFunc h_call h_append h_alloc h_box h_buildSlice h_makeSlice h_store gV i_box i_buildSlice i_move i_assign i_build i_load i_binOp i_unOp i_convert i_fieldAddr i_field i_indexAddr i_index i_extract i_lookup i_makeMap i_mapUpdate i_slice i_nilCheck i_makeFunc i_len i_max i_min i_alloc i_makeSlice i_store i_append i_call i_pick boxI boxA buildSliceI buildSliceA makeSliceA makeMapA allocA storeA p_move p_assign p_pick p_build p_load p_binOp p_unOp p_convert p_fieldAddr p_field p_indexAddr p_index p_extract p_lookup p_makeMap p_mapUpdate p_slice p_nilCheck p_makeFunc p_len p_max p_min p_alloc p_box p_buildSlice p_makeSlice p_store p_append p_call x_nil x_go1 x_g0 x_g1 x_g2 x_g3 x_s0 x_s1 x_s2 x_s3 u_move u_assign u_pick u_build u_load u_binOp u_unOp u_convert u_fieldAddr u_field u_indexAddr u_index u_extract u_lookup u_slice u_nilCheck u_makeFunc u_len u_buildSlice x_s4 x_g4 rq_normal rq_ret rq_exit aw_range
attribute [local go_sem] frzV_sl frzK_some set_none set_other AHeap.set_self set_del set_set cnd_t cnd_f cnd_b retA_one retA_two retA_three retA_four retA_nil gIf_b mrgV_b mrgV_wh mrgV_U gIf_U gIf_wh mrgB_f mrgB_some mrgB_if wh_true wh_false keepA_some keepA_if gD_zero gD_succ gT_some bxA_t bxA_f callA_fn ev_tmp ev_const ev_global ev_func oc_bool oc_int oc_string oc_nil oc_nilptr oc_nilfunc cl_bool cl_int cl_string cl_nil updO_some updO_none upd_same upd_other init_at pickA_b pickA_wh selA_t selA_f selA_and selA_or selA_orn selA_orm selA_bb selA_ii beqt b_add b_sub b_mul b_and b_or b_xor b_eql b_neq b_lss b_leq b_gtr b_geq b_quo b_rem b_shr b_seql b_sneq b_sadd b_beql b_bneq b_aeql b_aneq u_not u_neg isConstOp eqA eqCellV List.getD_cons_zero List.getD_cons_succ List.map_cons List.map_nil List.nil_append List.cons_append List.append_nil if_true if_false Option.map_some Option.map_none ne_eq not_false_eq_true oneA ldv ld1v ld1s wr1s ldRow stRow row_lit row_agg row_vsl row_sl row_ptr row_fn one_I one_B one_S one_vsl one_sl one_ptr one_fn extractA okA rI rS rU rClass rFault rExit rStart rLine Int.toNat_natCast List.length_cons List.length_nil List.length_map List.all_cons List.all_nil Bool.and_true Nat.zero_add List.getElem?_cons_zero List.getElem?_cons_succ List.take_succ_cons List.take_zero List.drop_succ_cons List.drop_zero and_self true_and and_true implies_true decide_eq_true_eq decide_eq_false_iff_not Bool.or_eq_true Bool.or_eq_false_iff Bool.and_eq_true Bool.not_eq_true' Bool.not_eq_false' beq_false decide_true decide_false Int.ofNat_lt Int.ofNat_le Int.natCast_nonneg Bool.or_true Bool.or_false Bool.true_or Bool.false_or beq_self_eq_true List.drop_one Bool.not_true Bool.not_false Bool.not_not Bool.false_eq_true Bool.true_eq_false false_implies true_implies Bool.true_and Bool.false_and Bool.and_false not_true_eq_false Int.natCast_eq_zero Int.natCast_pos Int.natCast_zero false_and and_false or_false false_or or_true true_or Bool.or_self none_le_iff List.replicate_zero Int.toNat_zero List.replicate_succ buildRows List.set_cons_zero List.set_cons_succ List.set_nil List.mapM_nil maxLen_eq Nat.zero_le Nat.mul_one Nat.one_mul bldA fillA spliceA List.take_nil List.drop_nil List.getElem?_nil ld1o wr1o bldSliceA le_same cv_i cvI_t quietT_fn qvd_some ld_o ldO_1 ldO_l wr_o wrO_1 set_2 set_3 set_4 putL_nil putL_cons List.zip_cons_cons List.zip_nil_left List.zip_nil_right List.toList_toArray frzV_set ti1 ti2 tk2 ti3 te3 ts3 tk3 tz3 ti4 tb4 ti5 tk5 tz5 ti9 te9 ts9 tk9 tz9 ti12 tk12 ti13 tp13 tf13_0 tf13_1 ti20 ti21 tk21 tz21 ti22 te22 tz22 ti23 te23 ti24 tp24 tf24_0 ti25 tp25 tf25_0 ti26 te26 ti28 ti29 te29 ti30 te30 ti31 tp31 tf31_0 ti32 tp32 tf32_0 ti33 tp33 tf33_0 tf33_1 tf33_2 tf33_3 ti34 tp34 tf34_0 tf34_1 tf34_2 tf34_3 ti35 ti36 ti37 ti38 ti40 ti42 ti43 ti44 tq44 tp44 tf44_0 tf44_1 tf44_2 ti45 tq45 tp45 tf45_0 tf45_1 tf45_2 ti47 ti48 ti49 tq49 tp49 tf49_0 tf49_1 tf49_2 tf49_3 ti50 tq50 tp50 tf50_0 tf50_1 tf50_2 tf50_3 ti51 ti52 ti54 ti55 ti56 ti57 te57 ti59 ti60 ti61 ti62 ti63 ti64 ti65 ti66 ti67 ti68 tq68 tp68 tf68_0 tf68_1 ti69 tq69 tp69 tf69_0 tf69_1 ti70 ti71 ti72 ti73 ti74 ti75 ti77 ti78 ti79 ti80 ti81 ti82 ti83 ti84 ti85 tq85 tp85 tf85_0 tf85_1 tf85_2 tf85_3 tf85_4 ti86 tq86 tp86 tf86_0 tf86_1 tf86_2 tf86_3 tf86_4 ti87 ti88 ti89 ti90 ti91 ti93 ti94 ti95 ti96 ti97 tq97 tp97 tf97_0 tf97_1 tf97_2 ti98 tq98 tp98 tf98_0 tf98_1 tf98_2 ti99 ti100 ti101 ti102 ti103 ti104 ti105 ti106 ti107 tp107 tf107_0 tf107_1 ti108 tp108 tf108_0 tf108_1 ti109 tp109 tf109_0 tf109_1 tf109_2 tf109_3 tf109_4 ti110 tp110 tf110_0 tf110_1 tf110_2 tf110_3 tf110_4 ti111 ti113 ti114 ti115 ti116 ti117 ti118 ti119 ti120 tp120 tf120_0 tf120_1 tf120_2 tf120_3 ti121 tp121 tf121_0 tf121_1 tf121_2 tf121_3 ti122 tq122 tp122 tf122_0 tf122_1 ti123 tq123 tp123 tf123_0 tf123_1 ti124 ti125 ti126 tq126 tp126 tf126_0 tf126_1 ti127 tq127 tp127 tf127_0 tf127_1 ti128 ti129 ti130 ti131 ti132 ti133 te133 ti134 ti135 ti136 ti137 ti138 ti139 ti140 ti141 ti142 ti143 ti144 tp144 tf144_0 tf144_1 tf144_2 ti145 tp145 tf145_0 tf145_1 tf145_2 ti146 ti147 ti148 ti149 ti150 te150 ti151 ti152 ti153 ti154 ti155 ti156 ti157 ti158 ti159 ti160 ti161 ti162 ti163 ti164 ti165 ti166 ti167 ti168 ti169 ti170 ti171 ti172 ti173 ti174 ti175 tk175 tz175 ti176 ti177 ti178 ti179 ti180 tk180 ti182 ti183 ti184 ti186 ti187 ti188 tk188 tz188 ti189 ti190 tk190 tz190 ti191 tk191 ti192 ti193 ti194 ti195 ti196 ti197 ti199 ti200 ti206 ti210 ti215 fp13_0 fv13_0 fp13_1 fv13_1 fp24_0 fv24_0 fp25_0 fv25_0 fp31_0 fv31_0 fp32_0 fv32_0 fp33_0 fv33_0 fp33_1 fv33_1 fp33_2 fv33_2 fp33_3 fv33_3 fp34_0 fv34_0 fp34_1 fv34_1 fp34_2 fv34_2 fp34_3 fv34_3 fp44_0 fv44_0 fp44_1 fv44_1 fp44_2 fv44_2 fp45_0 fv45_0 fp45_1 fv45_1 fp45_2 fv45_2 fp49_0 fv49_0 fp49_1 fv49_1 fp49_2 fv49_2 fp49_3 fv49_3 fp50_0 fv50_0 fp50_1 fv50_1 fp50_2 fv50_2 fp50_3 fv50_3 fp68_0 fv68_0 fp68_1 fv68_1 fp69_0 fv69_0 fp69_1 fv69_1 fp85_0 fv85_0 fp85_1 fv85_1 fp85_2 fv85_2 fp85_3 fv85_3 fp85_4 fv85_4 fp86_0 fv86_0 fp86_1 fv86_1 fp86_2 fv86_2 fp86_3 fv86_3 fp86_4 fv86_4 fp97_0 fv97_0 fp97_1 fv97_1 fp97_2 fv97_2 fp98_0 fv98_0 fp98_1 fv98_1 fp98_2 fv98_2 fp107_0 fv107_0 fp107_1 fv107_1 fp108_0 fv108_0 fp108_1 fv108_1 fp109_0 fv109_0 fp109_1 fv109_1 fp109_2 fv109_2 fp109_3 fv109_3 fp109_4 fv109_4 fp110_0 fv110_0 fp110_1 fv110_1 fp110_2 fv110_2 fp110_3 fv110_3 fp110_4 fv110_4 fp120_0 fv120_0 fp120_1 fv120_1 fp120_2 fv120_2 fp120_3 fv120_3 fp121_0 fv121_0 fp121_1 fv121_1 fp121_2 fv121_2 fp121_3 fv121_3 fp122_0 fv122_0 fp122_1 fv122_1 fp123_0 fv123_0 fp123_1 fv123_1 fp126_0 fv126_0 fp126_1 fv126_1 fp127_0 fv127_0 fp127_1 fv127_1 fp144_0 fv144_0 fp144_1 fv144_1 fp144_2 fv144_2 fp145_0 fv145_0 fp145_1 fv145_1 fp145_2 fv145_2 lv22 ll22 is22 ix22 sh22 so22 sb22 sm22 sp22 lv23 ll23 is23 ix23 sh23 so23 sb23 sm23 sp23 lv26 ll26 is26 ix26 sh26 so26 sb26 sm26 sp26 lv29 ll29 is29 ix29 sh29 so29 sb29 sm29 sp29 lv30 ll30 is30 ix30 sh30 so30 sb30 sm30 sp30 lv57 ll57 is57 ix57 sh57 so57 sb57 sm57 sp57 lv133 ll133 is133 sp133 lv150 ll150 is150 ix150 sh150 so150 sb150 sm150 sp150 xs9 ls9 sx9 sy9 sz9
section
open Go Go.Sim
set_option maxRecDepth 100000
set_option maxHeartbeats 4000000

theorem st3 : DrawnF 148 6 3 := c_aStatement (p1 := 0) (p2 := 0) (by omega) (by omega) (by omega) (by omega) (by omega) (fun h => absurd h (by omega)) (fun h => absurd h (by omega))
theorem blk3 : Drawn 117 19 3 := c_aBlock (by omega) st3
theorem try2 : Drawn 116 105 2 := c_aTry (p := 19) (by omega) (by omega) blk3.frz
theorem st2 : DrawnF 148 111 2 := c_aStatement (p1 := 19) (p2 := 105) (by omega) (by omega) (by omega) (by omega) (by omega) (fun _ => blk3.frz) (fun _ => try2.frz)
theorem blk2 : Drawn 117 334 2 := c_aBlock (by omega) st2
theorem try1 : Drawn 116 1680 1 := c_aTry (p := 334) (by omega) (by omega) blk2.frz
theorem st1 : DrawnF 148 1686 1 := c_aStatement (p1 := 334) (p2 := 1680) (by omega) (by omega) (by omega) (by omega) (by omega) (fun _ => blk2.frz) (fun _ => try1.frz)
theorem blk1 : Drawn 117 5059 1 := c_aBlock (by omega) st1
theorem try0 : Drawn 116 25305 0 := c_aTry (p := 5059) (by omega) (by omega) blk1.frz
theorem st0 : DrawnF 148 25311 0 := c_aStatement (p1 := 5059) (p2 := 25305) (by omega) (by omega) (by omega) (by omega) (by omega) (fun _ => blk1.frz) (fun _ => try0.frz)
theorem blk0 : Drawn 117 75934 0 := c_aBlock (by omega) st0
/-- What is told beside blocks that nobody needs. -/
theorem grow_drop {α : Type} {f : α → List AV} {sz : Nat} {ty : TypeId} {F F0 G : AHeap} {x : AV} {l : List α} (hg : Grow f sz ty F0 G x l) (hle : F.le F0) : ∃ G', Grow f sz ty F G' x l ∧ G'.le G := by
  rcases hg with ⟨rfl, rfl, rfl⟩ | ⟨b, cl, hb, rfl, rfl⟩
  · exact ⟨F, .inl ⟨rfl, rfl, rfl⟩, hle⟩
  · have hb' : F b = none := by
      cases h : F b with
      | none => rfl
      | some k => rw [hle b k h] at hb; cases hb
    exact ⟨_, .inr ⟨b, cl, hb', rfl, rfl⟩, le_ch hle⟩
theorem le_none {F G : AHeap} {b : Nat} (h : F.le G) (hb : G b = none) : F b = none := by
  cases hq : F b with
  | none => rfl
  | some k => rw [h b k hq] at hb; cases hb
theorem c_goodProgram (F : AHeap) (br n : Nat) (K : ABlk) (t : List Class) (cl : Bool) (h : RdK n K) (hF : F br = none) (hn : n < 500000000) : ACalls Tryz.prog 74 [.ptr br 2 0 0, aTree t cl] (F.set br K) fun r H' =>
    ∃ (l : List Line) (G : AHeap) (K' : ABlk), Grow rLine 4 50 F G r l ∧ G br = none ∧ H' = G.set br K' ∧ RdK (n + 900000) K' ∧ 1 ≤ l.length ∧ l.length ≤ 24 := by
  refine acalls_of1 Tryz.func74 rfl (by kernel_rfl) rfl rfl (awp_sound (fz := fun _ => []) (im := fun s => s == 3) mixed _ _ _ _ (by kernel_rfl) ?_)
  simp +contextual -dsimp -implicitDefEqProofs (maxSteps := 5000000) only [go_sem, reduceIte, reduceCtorEq, Nat.reduceEqDiff, Nat.reduceBEq, Nat.reduceAdd, Nat.reduceLeDiff, Nat.reduceMul, Nat.reduceLT, Int.reduceEq, Int.reduceLT, Int.reduceLE]
  refine aloop mixed (fz := fun _ => []) (im := fun s => s == 3) (by kernel_rfl) (fun m tm H' => ∃ (F0 : AHeap) (K : ABlk) (i : Nat), m = 4 - i ∧ i ≤ 4 ∧ F.le F0 ∧ F0 br = none ∧ RdK (n + i * 180000) K ∧ H' = F0.set br K ∧ tm 0 = .ptr br 2 0 0 ∧ tm 3 = .vptr [[.vsl (t.map rClass) cl]] 0 0 ∧ tm 5 = I i) 4 ⟨F, K, 0, rfl, by omega, AHeap.le_refl _, hF, by simpa using h, rfl, ?_⟩ ?_
  · simp +contextual -dsimp -implicitDefEqProofs (maxSteps := 5000000) only [go_sem, reduceIte, reduceCtorEq, Nat.reduceEqDiff, Nat.reduceBEq, Nat.reduceAdd, Nat.reduceLeDiff, Nat.reduceMul, Nat.reduceLT, Int.reduceEq, Int.reduceLT, Int.reduceLE]
  · rintro m tm H' ⟨F0, K, i, rfl, hi, hle, fr, hK, rfl, t0, t3, t5⟩
    by_cases hlt : (i : Int) < 4
    · have hi4 : i < 4 := by omega
      simp +contextual -dsimp -implicitDefEqProofs (maxSteps := 5000000) only [go_sem, reduceIte, reduceCtorEq, Nat.reduceEqDiff, Nat.reduceBEq, Nat.reduceAdd, Nat.reduceLeDiff, Nat.reduceMul, Nat.reduceLT, Int.reduceEq, Int.reduceLT, Int.reduceLE, t0, t3, t5, hlt]
      refine (try0 F0 br _ K t cl false hK fr (by omega)).mono ?_
      rintro x H' ⟨l, G, K1, hg, fr1, rfl, hK1, h1, h2⟩
      simp +contextual -dsimp -implicitDefEqProofs (maxSteps := 5000000) only [go_sem, reduceIte, reduceCtorEq, Nat.reduceEqDiff, Nat.reduceBEq, Nat.reduceAdd, Nat.reduceLeDiff, Nat.reduceMul, Nat.reduceLT, Int.reduceEq, Int.reduceLT, Int.reduceLE, t0, t3, t5, hlt]
      refine k_pick 3 hK1 fr1 (by omega) rfl fun v K2 _ _ _ hK2 => ?_
      simp +contextual -dsimp -implicitDefEqProofs (maxSteps := 5000000) only [go_sem, reduceIte, reduceCtorEq, Nat.reduceEqDiff, Nat.reduceBEq, Nat.reduceAdd, Nat.reduceLeDiff, Nat.reduceMul, Nat.reduceLT, Int.reduceEq, Int.reduceLT, Int.reduceLE, t0, t3, t5, hlt]
      refine ⟨fun _ => ?_, fun _ => ?_⟩
      · refine (blk0.frz G br _ K2 t cl false hK2 fr1 (by omega)).mono ?_
        rintro _ H' ⟨l2, cl2, K3, rfl, rfl, hK3, h3, h4⟩
        simp +contextual -dsimp -implicitDefEqProofs (maxSteps := 5000000) only [go_sem, reduceIte, reduceCtorEq, Nat.reduceEqDiff, Nat.reduceBEq, Nat.reduceAdd, Nat.reduceLeDiff, Nat.reduceMul, Nat.reduceLT, Int.reduceEq, Int.reduceLT, Int.reduceLE, t0, t3, t5, hlt]
        refine app_lines (m := l2) (grow_in hg fr1) (by omega) rfl fun x' H' hg' => ?_
        obtain ⟨G1, hg1, rfl, u1⟩ := grow_out hg' (grow_none hg fr1)
        simp +contextual -dsimp -implicitDefEqProofs (maxSteps := 5000000) only [go_sem, reduceIte, reduceCtorEq, Nat.reduceEqDiff, Nat.reduceBEq, Nat.reduceAdd, Nat.reduceLeDiff, Nat.reduceMul, Nat.reduceLT, Int.reduceEq, Int.reduceLT, Int.reduceLE, t0, t3, t5, hlt]
        refine k_pick 4 hK3 u1 (by omega) rfl fun w K5 _ _ _ hK5 => ?_
        simp +contextual -dsimp -implicitDefEqProofs (maxSteps := 5000000) only [go_sem, reduceIte, reduceCtorEq, Nat.reduceEqDiff, Nat.reduceBEq, Nat.reduceAdd, Nat.reduceLeDiff, Nat.reduceMul, Nat.reduceLT, Int.reduceEq, Int.reduceLT, Int.reduceLE, t0, t3, t5, hlt]
        refine ⟨fun _ => ?_, fun _ => ?_⟩
        · refine (blk0 _ br _ _ t cl false hK5 u1 (by omega)).mono ?_
          rintro x6 H' ⟨l6, G6, K6, hg6, fr6, rfl, hK6, h5, h6⟩
          simp +contextual -dsimp -implicitDefEqProofs (maxSteps := 5000000) only [go_sem, reduceIte, reduceCtorEq, Nat.reduceEqDiff, Nat.reduceBEq, Nat.reduceAdd, Nat.reduceLeDiff, Nat.reduceMul, Nat.reduceLT, Int.reduceEq, Int.reduceLT, Int.reduceLE, t0, t3, t5, hlt]
          have hlen := grow_len te26 hg6
          simp +contextual -dsimp -implicitDefEqProofs (maxSteps := 5000000) only [go_sem, reduceIte, reduceCtorEq, Nat.reduceEqDiff, Nat.reduceBEq, Nat.reduceAdd, Nat.reduceLeDiff, Nat.reduceMul, Nat.reduceLT, Int.reduceEq, Int.reduceLT, Int.reduceLE, t0, t3, t5, hlt, hlen]
          refine ⟨fun h24 => ?_, fun h24 => ?_⟩
          · obtain ⟨G', hg', le'⟩ := grow_drop hg6 (AHeap.le_trans hle (grow_le hg1))
            refine retR_less (l := [x6]) (H' := G'.set br _) ?_ (le_ch le') ⟨_, G', _, hg', le_none le' fr6, rfl, rdk_mono hK6 (by omega), by first | omega | (simp; omega), by first | omega | (simp at h24 ⊢; omega)⟩
            simp only [resA, go_sem, reduceIte, reduceCtorEq, Nat.reduceEqDiff, Nat.reduceBEq, Nat.reduceAdd, Nat.reduceLeDiff, Nat.reduceMul, Nat.reduceLT, Int.reduceEq, Int.reduceLT, Int.reduceLE]
          · exact ⟨_, by omega, _, _, i + 1, rfl, by omega, AHeap.le_trans (AHeap.le_trans hle (grow_le hg1)) (grow_le hg6), fr6, rdk_mono hK6 (by omega), rfl, I_wrap (by omega) (by omega) (by omega)⟩
        · skip
          have hlen := grow_len te26 hg1
          simp +contextual -dsimp -implicitDefEqProofs (maxSteps := 5000000) only [go_sem, reduceIte, reduceCtorEq, Nat.reduceEqDiff, Nat.reduceBEq, Nat.reduceAdd, Nat.reduceLeDiff, Nat.reduceMul, Nat.reduceLT, Int.reduceEq, Int.reduceLT, Int.reduceLE, t0, t3, t5, hlt, hlen]
          refine ⟨fun h24 => ?_, fun h24 => ?_⟩
          · obtain ⟨G', hg', le'⟩ := grow_drop hg1 hle
            refine retR_less (l := [x']) (H' := G'.set br _) ?_ (le_ch le') ⟨_, G', _, hg', le_none le' u1, rfl, rdk_mono hK5 (by omega), by first | omega | (simp; omega), by first | omega | (simp at h24 ⊢; omega)⟩
            simp only [resA, go_sem, reduceIte, reduceCtorEq, Nat.reduceEqDiff, Nat.reduceBEq, Nat.reduceAdd, Nat.reduceLeDiff, Nat.reduceMul, Nat.reduceLT, Int.reduceEq, Int.reduceLT, Int.reduceLE]
          · exact ⟨_, by omega, _, _, i + 1, rfl, by omega, AHeap.le_trans hle (grow_le hg1), u1, rdk_mono hK5 (by omega), rfl, I_wrap (by omega) (by omega) (by omega)⟩
      · skip
        refine k_pick 4 hK2 fr1 (by omega) rfl fun w K5 _ _ _ hK5 => ?_
        simp +contextual -dsimp -implicitDefEqProofs (maxSteps := 5000000) only [go_sem, reduceIte, reduceCtorEq, Nat.reduceEqDiff, Nat.reduceBEq, Nat.reduceAdd, Nat.reduceLeDiff, Nat.reduceMul, Nat.reduceLT, Int.reduceEq, Int.reduceLT, Int.reduceLE, t0, t3, t5, hlt]
        refine ⟨fun _ => ?_, fun _ => ?_⟩
        · refine (blk0 _ br _ _ t cl false hK5 fr1 (by omega)).mono ?_
          rintro x6 H' ⟨l6, G6, K6, hg6, fr6, rfl, hK6, h5, h6⟩
          simp +contextual -dsimp -implicitDefEqProofs (maxSteps := 5000000) only [go_sem, reduceIte, reduceCtorEq, Nat.reduceEqDiff, Nat.reduceBEq, Nat.reduceAdd, Nat.reduceLeDiff, Nat.reduceMul, Nat.reduceLT, Int.reduceEq, Int.reduceLT, Int.reduceLE, t0, t3, t5, hlt]
          have hlen := grow_len te26 hg6
          simp +contextual -dsimp -implicitDefEqProofs (maxSteps := 5000000) only [go_sem, reduceIte, reduceCtorEq, Nat.reduceEqDiff, Nat.reduceBEq, Nat.reduceAdd, Nat.reduceLeDiff, Nat.reduceMul, Nat.reduceLT, Int.reduceEq, Int.reduceLT, Int.reduceLE, t0, t3, t5, hlt, hlen]
          refine ⟨fun h24 => ?_, fun h24 => ?_⟩
          · obtain ⟨G', hg', le'⟩ := grow_drop hg6 (AHeap.le_trans hle (grow_le hg))
            refine retR_less (l := [x6]) (H' := G'.set br _) ?_ (le_ch le') ⟨_, G', _, hg', le_none le' fr6, rfl, rdk_mono hK6 (by omega), by first | omega | (simp; omega), by first | omega | (simp at h24 ⊢; omega)⟩
            simp only [resA, go_sem, reduceIte, reduceCtorEq, Nat.reduceEqDiff, Nat.reduceBEq, Nat.reduceAdd, Nat.reduceLeDiff, Nat.reduceMul, Nat.reduceLT, Int.reduceEq, Int.reduceLT, Int.reduceLE]
          · exact ⟨_, by omega, _, _, i + 1, rfl, by omega, AHeap.le_trans (AHeap.le_trans hle (grow_le hg)) (grow_le hg6), fr6, rdk_mono hK6 (by omega), rfl, I_wrap (by omega) (by omega) (by omega)⟩
        · skip
          have hlen := grow_len te26 hg
          simp +contextual -dsimp -implicitDefEqProofs (maxSteps := 5000000) only [go_sem, reduceIte, reduceCtorEq, Nat.reduceEqDiff, Nat.reduceBEq, Nat.reduceAdd, Nat.reduceLeDiff, Nat.reduceMul, Nat.reduceLT, Int.reduceEq, Int.reduceLT, Int.reduceLE, t0, t3, t5, hlt, hlen]
          refine ⟨fun h24 => ?_, fun h24 => ?_⟩
          · obtain ⟨G', hg', le'⟩ := grow_drop hg hle
            refine retR_less (l := [x]) (H' := G'.set br _) ?_ (le_ch le') ⟨_, G', _, hg', le_none le' fr1, rfl, rdk_mono hK5 (by omega), by first | omega | (simp; omega), by first | omega | (simp at h24 ⊢; omega)⟩
            simp only [resA, go_sem, reduceIte, reduceCtorEq, Nat.reduceEqDiff, Nat.reduceBEq, Nat.reduceAdd, Nat.reduceLeDiff, Nat.reduceMul, Nat.reduceLT, Int.reduceEq, Int.reduceLT, Int.reduceLE]
          · exact ⟨_, by omega, _, _, i + 1, rfl, by omega, AHeap.le_trans hle (grow_le hg), fr1, rdk_mono hK5 (by omega), rfl, I_wrap (by omega) (by omega) (by omega)⟩
    · simp +contextual -dsimp -implicitDefEqProofs (maxSteps := 5000000) only [go_sem, reduceIte, reduceCtorEq, Nat.reduceEqDiff, Nat.reduceBEq, Nat.reduceAdd, Nat.reduceLeDiff, Nat.reduceMul, Nat.reduceLT, Int.reduceEq, Int.reduceLT, Int.reduceLE, t0, t3, t5, hlt]
      rintro b36 ⟨w1, w2, hb36⟩
      rw [br_out w1]
      have hb : F b36 = none := le_none hle hb36
      refine retR_less (l := [.sl b36 4 0 4 true]) (H' := (F.set b36 ⟨4, 50, ([⟨0, 7, 0, 0⟩, ⟨1, 2, 0, 1⟩, ⟨0, 10, 0, 0⟩, ⟨1, 1, 1, 0⟩] : List Line).map rLine⟩).set br K) ?_ (le_ch (le_ch hle)) ⟨_, _, K, .inr ⟨b36, true, hb, rfl, rfl⟩, by rw [set_other w2]; exact hF, rfl, rdk_mono hK (by omega), by simp, by simp⟩
      simp only [resA, go_sem, reduceIte, reduceCtorEq, Nat.reduceEqDiff, Nat.reduceBEq, Nat.reduceAdd, Nat.reduceLeDiff, Nat.reduceMul, Nat.reduceLT, Int.reduceEq, Int.reduceLT, Int.reduceLE]
end
section
open Go Go.Sim
set_option maxRecDepth 100000
set_option maxHeartbeats 4000000

theorem c_someProgram0 (F : AHeap) (br n : Nat) (K : ABlk) (h : RdK n K) (hF : F br = none) (hn : n < 400000000) : ACalls Tryz.prog 32 [.ptr br 2 0 0] (F.set br K) fun r H' =>
    ∃ t cl x, ∃ l : List Line, ∃ cl' G K', r = .tup [aTree t cl, x] ∧ Fz (AHeap.set G br K') (F.set br K') x (.vsl (l.map rLine) cl') ∧ F.le G ∧ H' = G.set br K' ∧ RdK (n + 1000000) K' ∧ t.length ≤ 8 ∧ shortNames t ∧ l.length ≤ 24 := by
  refine acalls_of1 Tryz.func32 rfl (by kernel_rfl) rfl rfl (awp_sound (fz := fun r => if r = 13 then [5] else []) (im := fun s => s == 15 || s == 30 || s == 39 || s == 48) mixed _ _ _ _ (by kernel_rfl) ?_)
  simp +contextual -dsimp -implicitDefEqProofs (maxSteps := 5000000) only [go_sem, reduceIte, reduceCtorEq, Nat.reduceEqDiff, Nat.reduceBEq, Nat.reduceAdd, Nat.reduceLeDiff, Nat.reduceMul, Nat.reduceLT, Int.reduceEq, Int.reduceLT, Int.reduceLE]
  rintro b2 ⟨p1, p2, hb2⟩
  rw [br_out p1]
  have n2 : ∀ K4, (F.set b2 K4) br = none := fun K4 => by rw [set_other p2]; exact hF
  refine (c_someTreeF _ br n K h (n2 _) (by omega)).mono ?_
  rintro _ _ ⟨t, cl, K1, rfl, rfl, hK1, ht8, hs⟩
  simp +contextual -dsimp -implicitDefEqProofs (maxSteps := 5000000) only [go_sem, reduceIte, reduceCtorEq, Nat.reduceEqDiff, Nat.reduceBEq, Nat.reduceAdd, Nat.reduceLeDiff, Nat.reduceMul, Nat.reduceLT, Int.reduceEq, Int.reduceLT, Int.reduceLE, p1, p2]
  rintro b4 ⟨q1, q2, q3, q4, hb4⟩
  simp only [br_out q1]
  have n4 : ∀ K4 K5, ((F.set b2 K4).set b4 K5) br = none := fun K4 K5 => by rw [set_other q2]; exact n2 _
  refine ⟨fun h0 => ?_, fun h0 => ?_⟩
  · refine retR_less (l := [aTree t cl, .vsl [rLine ⟨0, 0, 0, 0⟩] true]) (H' := F.set br K1) ?_ (le_ch (le_s1 (le_s1 (AHeap.le_refl _) hb2) hb4)) ⟨t, cl, _, [⟨0, 0, 0, 0⟩], true, F, K1, rfl, .same _, AHeap.le_refl _, rfl, rdk_mono hK1 (by omega), ht8, hs, by simp⟩
    simp only [resA, go_sem, reduceIte, reduceCtorEq, Nat.reduceEqDiff, Nat.reduceBEq, Nat.reduceAdd, Nat.reduceLeDiff, Nat.reduceMul, Nat.reduceLT, Int.reduceEq, Int.reduceLT, Int.reduceLE, p1, p2, q1, q2, q3, q4]
  · refine (c_goodProgram _ br _ K1 t cl hK1 (n4 _ _) (by omega)).mono ?_
    rintro _ _ ⟨l, G0, K2, hg0, hr0, rfl, hK2, h1, h24⟩
    rcases hg0 with ⟨e, _, _⟩ | ⟨bx, clx, hbx, rfl, rfl⟩
    · rw [e] at h1; simp at h1
    have hbx' := hbx
    have hr' := hr0
    rw [set_none, set_none] at hbx'
    rw [set_none] at hr'
    obtain ⟨s1, s2, s3, s4, hbF⟩ := hbx'
    obtain ⟨s5, s6, _⟩ := hr'
    have n6 : ∀ (A C D : ABlk), (((F.set b2 A).set b4 C).set bx D) br = none := fun A C D => by rw [set_other s5]; exact n4 _ _
    have fin : ∀ (l' : List Line) (off len : Nat) (c' : Bool) (K3 : ABlk) (tm : Tm), off + len ≤ l'.length → len ≤ 24 → RdK (n + 1000000) K3 → tm 2 = .ptr b2 1 0 0 → tm 3 = .sl bx 4 off len c' → retR Tryz.prog [.cell 2 25, .tmp 3] (fun r H' => ∃ t cl x, ∃ l : List Line, ∃ cl' G K', r = .tup [aTree t cl, x] ∧ Fz (AHeap.set G br K') (F.set br K') x (.vsl (l.map rLine) cl') ∧ F.le G ∧ H' = G.set br K' ∧ RdK (n + 1000000) K' ∧ t.length ≤ 8 ∧ shortNames t ∧ l.length ≤ 24) tm
        ((((F.set b2 ⟨1, 25, [[.vsl (t.map rClass) cl]]⟩).set b4 ⟨1, 25, [[.vsl (t.map rClass) cl]]⟩).set bx ⟨4, 50, l'.map rLine⟩).set br K3) := by
      intro l' off len c' K3 tm hol hl24 hK3 h2 h3
      have hz := Fz.sl (H := (F.set bx ⟨4, 50, l'.map rLine⟩).set br K3) (K := F.set br K3) (b := bx) (sz := 4) (off := off) (len := len) (cl := c') (k := ⟨4, 50, l'.map rLine⟩) (by rw [set_other s6, AHeap.set_self]) rfl (by simpa using hol) (by rw [set_other s6]; exact hbF)
      have he : ((l'.map rLine).drop off).take len = ((l'.drop off).take len).map rLine := by rw [List.map_take, List.map_drop]
      simp only [he] at hz
      refine retR_less (l := [aTree t cl, .sl bx 4 off len c']) (H' := (F.set bx ⟨4, 50, l'.map rLine⟩).set br K3) ?_ (le_ch (le_ch (le_s1 (le_s1 (AHeap.le_refl _) hb2) hb4))) ⟨t, cl, _, (l'.drop off).take len, c', _, K3, rfl, hz, le_s1 (AHeap.le_refl _) hbF, rfl, hK3, ht8, hs, by simp; omega⟩
      simp only [resA, go_sem, reduceIte, reduceCtorEq, Nat.reduceEqDiff, Nat.reduceBEq, Nat.reduceAdd, Nat.reduceLeDiff, Nat.reduceMul, Nat.reduceLT, Int.reduceEq, Int.reduceLT, Int.reduceLE, p1, p2, q1, q2, q3, q4, s1, s2, s3, s4, s5, s6, h2, h3]
    have finV : ∀ (l' : List Line) (c' : Bool) (K3 : ABlk) (tm : Tm), l'.length ≤ 24 → RdK (n + 1000000) K3 → tm 2 = .ptr b2 1 0 0 → tm 3 = .vsl (l'.map rLine) c' → retR Tryz.prog [.cell 2 25, .tmp 3] (fun r H' => ∃ t cl x, ∃ l : List Line, ∃ cl' G K', r = .tup [aTree t cl, x] ∧ Fz (AHeap.set G br K') (F.set br K') x (.vsl (l.map rLine) cl') ∧ F.le G ∧ H' = G.set br K' ∧ RdK (n + 1000000) K' ∧ t.length ≤ 8 ∧ shortNames t ∧ l.length ≤ 24) tm
        (((F.set b2 ⟨1, 25, [[.vsl (t.map rClass) cl]]⟩).set b4 ⟨1, 25, [[.vsl (t.map rClass) cl]]⟩).set br K3) := by
      intro l' c' K3 tm hl24 hK3 h2 h3
      refine retR_less (l := [aTree t cl, .vsl (l'.map rLine) c']) (H' := F.set br K3) ?_ (le_ch (le_s1 (le_s1 (AHeap.le_refl _) hb2) hb4)) ⟨t, cl, _, l', c', F, K3, rfl, .same _, AHeap.le_refl _, rfl, hK3, ht8, hs, hl24⟩
      simp only [resA, go_sem, reduceIte, reduceCtorEq, Nat.reduceEqDiff, Nat.reduceBEq, Nat.reduceAdd, Nat.reduceLeDiff, Nat.reduceMul, Nat.reduceLT, Int.reduceEq, Int.reduceLT, Int.reduceLE, p1, p2, q1, q2, q3, q4, h2, h3]
    have htk : List.take l.length (l.map rLine) = l.map rLine := List.take_of_length_le (by simp)
    have delx : ∀ (G : AHeap) (L K : ABlk), G bx = none → ((G.set bx L).set br K).del bx = G.set br K := fun G L K hG => by rw [set_comm s6, set_del (by rw [set_other s6]; exact hG)]
    simp +contextual -dsimp -implicitDefEqProofs (maxSteps := 5000000) only [go_sem, reduceIte, reduceCtorEq, Nat.reduceEqDiff, Nat.reduceBEq, Nat.reduceAdd, Nat.reduceLeDiff, Nat.reduceMul, Nat.reduceLT, Int.reduceEq, Int.reduceLT, Int.reduceLE, p1, p2, q1, q2, q3, q4, s1, s2, s3, s4, s5, s6]
    refine k_pick l.length hK2 (n6 _ _ _) (by omega) rfl fun v K3 v0 v1 _ hK3 => ?_
    have vl := v1 (by omega)
    have vn : v.toNat < l.length := by omega
    simp +contextual -dsimp -implicitDefEqProofs (maxSteps := 5000000) only [go_sem, reduceIte, reduceCtorEq, Nat.reduceEqDiff, Nat.reduceBEq, Nat.reduceAdd, Nat.reduceLeDiff, Nat.reduceMul, Nat.reduceLT, Int.reduceEq, Int.reduceLT, Int.reduceLE, p1, p2, q1, q2, q3, q4, s1, s2, s3, s4, s5, s6]
    refine k_pick 24 hK3 (n6 _ _ _) (by omega) rfl fun z K4 _ _ _ hK4 => ?_
    by_cases c0 : z = 0
    · simp +contextual -dsimp -implicitDefEqProofs (maxSteps := 5000000) only [go_sem, reduceIte, reduceCtorEq, Nat.reduceEqDiff, Nat.reduceBEq, Nat.reduceAdd, Nat.reduceLeDiff, Nat.reduceMul, Nat.reduceLT, Int.reduceEq, Int.reduceLT, Int.reduceLE, c0, p1, p2, q1, q2, q3, q4, s1, s2, s3, s4, s5, s6]
      refine k_one [-1, 6, 0, 1] _ hK4 (n6 _ _ _) (by omega) (by simp) rfl rfl fun s K5 _ hK5 => ?_
      simp +contextual -dsimp -implicitDefEqProofs (maxSteps := 5000000) only [go_sem, reduceIte, reduceCtorEq, Nat.reduceEqDiff, Nat.reduceBEq, Nat.reduceAdd, Nat.reduceLeDiff, Nat.reduceMul, Nat.reduceLT, Int.reduceEq, Int.reduceLT, Int.reduceLE, c0, p1, p2, q1, q2, q3, q4, s1, s2, s3, s4, s5, s6, v0, vl, vn]
      rw [wrO_y (y := { l.getD v.toNat default with depth := s }) vn rfl]
      simp +contextual -dsimp -implicitDefEqProofs (maxSteps := 5000000) only [go_sem, reduceIte, reduceCtorEq, Nat.reduceEqDiff, Nat.reduceBEq, Nat.reduceAdd, Nat.reduceLeDiff, Nat.reduceMul, Nat.reduceLT, Int.reduceEq, Int.reduceLT, Int.reduceLE, c0, p1, p2, q1, q2, q3, q4, s1, s2, s3, s4, s5, s6, v0, vl, vn]
      refine fin (l.set v.toNat { l.getD v.toNat default with depth := s }) 0 l.length clx K5 _ (by simp) h24 (rdk_mono hK5 (by omega)) rfl rfl
    by_cases c1 : z = 1
    · simp +contextual -dsimp -implicitDefEqProofs (maxSteps := 5000000) only [go_sem, reduceIte, reduceCtorEq, Nat.reduceEqDiff, Nat.reduceBEq, Nat.reduceAdd, Nat.reduceLeDiff, Nat.reduceMul, Nat.reduceLT, Int.reduceEq, Int.reduceLT, Int.reduceLE, c0, c1, p1, p2, q1, q2, q3, q4, s1, s2, s3, s4, s5, s6]
      refine k_one [-1, 13, 5, 9, 0] _ hK4 (n6 _ _ _) (by omega) (by simp) rfl rfl fun s K5 _ hK5 => ?_
      simp +contextual -dsimp -implicitDefEqProofs (maxSteps := 5000000) only [go_sem, reduceIte, reduceCtorEq, Nat.reduceEqDiff, Nat.reduceBEq, Nat.reduceAdd, Nat.reduceLeDiff, Nat.reduceMul, Nat.reduceLT, Int.reduceEq, Int.reduceLT, Int.reduceLE, c0, c1, p1, p2, q1, q2, q3, q4, s1, s2, s3, s4, s5, s6, v0, vl, vn]
      rw [wrO_y (y := { l.getD v.toNat default with kind := s }) vn rfl]
      simp +contextual -dsimp -implicitDefEqProofs (maxSteps := 5000000) only [go_sem, reduceIte, reduceCtorEq, Nat.reduceEqDiff, Nat.reduceBEq, Nat.reduceAdd, Nat.reduceLeDiff, Nat.reduceMul, Nat.reduceLT, Int.reduceEq, Int.reduceLT, Int.reduceLE, c0, c1, p1, p2, q1, q2, q3, q4, s1, s2, s3, s4, s5, s6, v0, vl, vn]
      refine fin (l.set v.toNat { l.getD v.toNat default with kind := s }) 0 l.length clx K5 _ (by simp) h24 (rdk_mono hK5 (by omega)) rfl rfl
    by_cases c2 : z = 2
    · simp +contextual -dsimp -implicitDefEqProofs (maxSteps := 5000000) only [go_sem, reduceIte, reduceCtorEq, Nat.reduceEqDiff, Nat.reduceBEq, Nat.reduceAdd, Nat.reduceLeDiff, Nat.reduceMul, Nat.reduceLT, Int.reduceEq, Int.reduceLT, Int.reduceLE, c0, c1, c2, p1, p2, q1, q2, q3, q4, s1, s2, s3, s4, s5, s6]
      refine k_one [-1, 100, 8] _ hK4 (n6 _ _ _) (by omega) (by simp) rfl rfl fun s K5 _ hK5 => ?_
      simp +contextual -dsimp -implicitDefEqProofs (maxSteps := 5000000) only [go_sem, reduceIte, reduceCtorEq, Nat.reduceEqDiff, Nat.reduceBEq, Nat.reduceAdd, Nat.reduceLeDiff, Nat.reduceMul, Nat.reduceLT, Int.reduceEq, Int.reduceLT, Int.reduceLE, c0, c1, c2, p1, p2, q1, q2, q3, q4, s1, s2, s3, s4, s5, s6, v0, vl, vn]
      rw [wrO_y (y := { l.getD v.toNat default with a := s }) vn rfl]
      simp +contextual -dsimp -implicitDefEqProofs (maxSteps := 5000000) only [go_sem, reduceIte, reduceCtorEq, Nat.reduceEqDiff, Nat.reduceBEq, Nat.reduceAdd, Nat.reduceLeDiff, Nat.reduceMul, Nat.reduceLT, Int.reduceEq, Int.reduceLT, Int.reduceLE, c0, c1, c2, p1, p2, q1, q2, q3, q4, s1, s2, s3, s4, s5, s6, v0, vl, vn]
      refine fin (l.set v.toNat { l.getD v.toNat default with a := s }) 0 l.length clx K5 _ (by simp) h24 (rdk_mono hK5 (by omega)) rfl rfl
    by_cases c3 : z = 3
    · simp +contextual -dsimp -implicitDefEqProofs (maxSteps := 5000000) only [go_sem, reduceIte, reduceCtorEq, Nat.reduceEqDiff, Nat.reduceBEq, Nat.reduceAdd, Nat.reduceLeDiff, Nat.reduceMul, Nat.reduceLT, Int.reduceEq, Int.reduceLT, Int.reduceLE, c0, c1, c2, c3, p1, p2, q1, q2, q3, q4, s1, s2, s3, s4, s5, s6]
      refine ⟨Nat.le_refl _, ?_⟩
      have h1i : (1 : Int) ≤ l.length := by omega
      rw [delx _ _ _ hbx, htk]
      simp +contextual -dsimp -implicitDefEqProofs (maxSteps := 5000000) only [go_sem, reduceIte, reduceCtorEq, Nat.reduceEqDiff, Nat.reduceBEq, Nat.reduceAdd, Nat.reduceLeDiff, Nat.reduceMul, Nat.reduceLT, Int.reduceEq, Int.reduceLT, Int.reduceLE, h1i, c0, c1, c2, c3, p1, p2, q1, q2, q3, q4, s1, s2, s3, s4, s5, s6]
      refine finV (l.drop 1) clx K4 _ (by simp; omega) (rdk_mono hK4 (by omega)) rfl rfl
    · simp +contextual -dsimp -implicitDefEqProofs (maxSteps := 5000000) only [go_sem, reduceIte, reduceCtorEq, Nat.reduceEqDiff, Nat.reduceBEq, Nat.reduceAdd, Nat.reduceLeDiff, Nat.reduceMul, Nat.reduceLT, Int.reduceEq, Int.reduceLT, Int.reduceLE, c0, c1, c2, c3, p1, p2, q1, q2, q3, q4, s1, s2, s3, s4, s5, s6]
      refine ⟨Nat.le_refl _, ?_⟩
      rw [delx _ _ _ hbx]
      simp +contextual -dsimp -implicitDefEqProofs (maxSteps := 5000000) only [go_sem, reduceIte, reduceCtorEq, Nat.reduceEqDiff, Nat.reduceBEq, Nat.reduceAdd, Nat.reduceLeDiff, Nat.reduceMul, Nat.reduceLT, Int.reduceEq, Int.reduceLT, Int.reduceLE, htk, c0, c1, c2, c3, p1, p2, q1, q2, q3, q4, s1, s2, s3, s4, s5, s6]
      refine finV l clx K4 _ h24 (rdk_mono hK4 (by omega)) rfl rfl
theorem c_someProgram (F : AHeap) (br n : Nat) (K : ABlk) (h : RdK n K) (hF : F br = none) (hn : n < 400000000) : ACalls Tryz.prog 32 [.ptr br 2 0 0] (F.set br K) fun r H' =>
    ∃ t cl, ∃ l : List Line, ∃ cl' K', r = .tup [aTree t cl, .vsl (l.map rLine) cl'] ∧ H' = F.set br K' ∧ RdK (n + 1000000) K' ∧ t.length ≤ 8 ∧ shortNames t ∧ l.length ≤ 24 := by
  refine acalls_fz (c_someProgram0 F br n K h hF hn) ?_
  rintro _ _ ⟨t, cl, x, l, cl', G, K', rfl, hz, hle, rfl, hK, ht, hs, hl⟩
  exact ⟨_, F.set br K', le_ch hle, fz_tup (.cons (.same _) (.cons hz .nil)), t, cl, l, cl', K', rfl, rfl, hK, ht, hs, hl⟩
end
section
open Go Go.Sim
set_option maxRecDepth 100000
set_option maxHeartbeats 4000000
def lowDig (l : List Int) : List Int := l.map fun n => n.tmod 100
end
section
open Go Go.Sim
set_option maxRecDepth 100000
set_option maxHeartbeats 4000000
theorem innP_len (p : List Line) : (innP p).length ≤ p.length + 1 := by
  unfold innP; split <;> simp
end
section
open Go Go.Sim
set_option maxRecDepth 100000
set_option maxHeartbeats 4000000

/-- The size of a program that is built around a start. -/
structure ProgOk (p : List Line) (k : Nat) : Prop where
  len : p.length ≤ 1 + 5 * k
  dep : ∀ x ∈ p, 0 ≤ x.depth ∧ x.depth ≤ k
theorem tailL_ok (e : Exi) : (tailL e).length ≤ 3 ∧ ∀ x ∈ tailL e, 0 ≤ x.depth ∧ x.depth ≤ 1 := by
  unfold tailL
  split
  · exact ⟨by simp, by simp⟩
  · split
    · exact ⟨by simp, by simp⟩
    · split
      · exact ⟨by simp, by simp⟩
      · exact ⟨by simp, by simp⟩
theorem innP_dep {p : List Line} {k : Nat} (h : ∀ x ∈ p, 0 ≤ x.depth ∧ x.depth ≤ k) : ∀ x ∈ innP p, 0 ≤ x.depth ∧ x.depth ≤ (k + 1 : Nat) := by
  intro x hx
  unfold innP at hx
  split at hx
  · simp at hx; subst hx; refine ⟨by decide, ?_⟩; show (1 : Int) ≤ _; omega
  · obtain ⟨y, hy, rfl⟩ := List.mem_map.1 hx
    have := h y hy
    refine ⟨?_, ?_⟩
    · show 0 ≤ y.depth + 1; omega
    · show y.depth + 1 ≤ _; omega
theorem ProgOk.step {p : List Line} {k : Nat} (h : ProgOk p k) (e : Exi) : ProgOk (exitP p e) (k + 1) := by
  have h1 := innP_len p
  have h2 := tailL_ok e
  have h3 := h.len
  refine ⟨?_, fun x hx => ?_⟩
  · unfold exitP
    simp only [List.length_append, List.length_cons]
    omega
  · unfold exitP at hx
    rw [List.mem_append, List.mem_cons] at hx
    rcases hx with (rfl | hx) | hx
    · refine ⟨by decide, ?_⟩; show (0 : Int) ≤ _; omega
    · exact innP_dep h.dep x hx
    · have := h2.2 x hx; omega
theorem ProgOk.small {p : List Line} {k : Nat} (h : ProgOk p k) (hk : k ≤ 8) : p.length ≤ 41 ∧ ∀ x ∈ p, 0 ≤ x.depth ∧ x.depth ≤ 100 := by
  have := h.len
  exact ⟨by omega, fun x hx => by have := h.dep x hx; omega⟩
end
section
open Go Go.Sim
set_option maxRecDepth 100000

/-- How many faults a fault has behind it, itself counted. -/
def dep (fs : List Fault) (v : Int) : Nat := (dchF fs v).length
theorem dep_neg {fs : List Fault} {v : Int} (h : v < 0) : dep fs v = 0 := by unfold dep; rw [dchF_neg h]; rfl
theorem dep_pre {F X : List Fault} (ho : heapOk F) {v : Int} (h : v < F.length) : dep (F ++ X) v = dep F v := by
  unfold dep dchF
  rw [dch_pre ho _ v h]
theorem dep_new {fs : List Fault} (ho : heapOk fs) {c d g : Int} (hg : g < fs.length) : dep (raiseF fs c d g) fs.length = dep fs g + 1 := by
  have ho' := raiseF_ok (cls := c) (code := d) ho hg
  have hl : (raiseF fs c d g).length = fs.length + 1 := raiseF_len
  have e : ctxOf (raiseF fs c d g) fs.length = if 0 ≤ g then g else -1 := by
    unfold ctxOf raiseF
    simp [List.getD_eq_getElem?_getD]
  unfold dep
  rw [dchF_step ho' (by omega) (by omega), e, List.length_cons]
  by_cases q : 0 ≤ g
  · rw [if_pos q]
    have := dep_pre (X := [⟨c, d, -1, if 0 ≤ g then g else -1, false⟩]) ho hg
    unfold dep at this
    show (dchF (fs ++ _) g).length + 1 = _
    rw [this]
  · rw [if_neg q, dchF_neg (by omega), dchF_neg (by omega)]
def DepOk (fs : List Fault) (N : Nat) (e : En) : Prop := e.ed = 2 → dep fs e.val ≤ N
theorem DepOk.up {fs : List Fault} {N M : Nat} {e : En} (h : DepOk fs N e) (hm : N ≤ M) : DepOk fs M e := fun q => Nat.le_trans (h q) hm
theorem Goes.dep {t : List Class} {n : Nat} {s : RS} {e : En} {s' : RS} (h : Goes t n s e s') (ho : heapOk s.fs) {v : Int} (hv : v < s.fs.length) : dep s'.fs v = dep s.fs v := by
  obtain ⟨l, e1, _⟩ := h.fs
  rw [e1]; exact dep_pre ho hv
theorem dep_lineS {s : RS} (ho : heapOk s.fs) {k a b h : Int} {N : Nat} (hh : h < s.fs.length) (hN : dep s.fs h ≤ N) : DepOk (lineS k a b h s).2.fs (N + 1) (lineS k a b h s).1 := by
  unfold lineS
  split
  · exact fun q => by cases q
  · split
    · intro _
      show dep (raiseF s.fs a b h) s.fs.length ≤ N + 1
      rw [dep_new ho hh]; omega
    · split
      · split
        · intro _
          show dep (raiseF s.fs 0 0 (-1)) s.fs.length ≤ N + 1
          rw [dep_new ho (by omega), dep_neg (by omega)]; omega
        · intro _
          show dep s.fs h ≤ N + 1
          omega
      · split
        · exact fun q => by cases q
        · split
          · exact fun q => by cases q
          · split
            · exact fun q => by cases q
            · exact fun q => by cases q
theorem dep_run {t : List Class} (ht : validT t = true) : ∀ (f : Fo) (i : Nat) (pd : Option (En × En)) (d h : Int) (s : RS) (N : Nat), numsF t f d = true → FsOk t s.fs → h < s.fs.length → PdOk s pd → dep s.fs h ≤ N → (∀ q, pd = some q → DepOk s.fs N q.1 ∧ DepOk s.fs N q.2) → DepOk (runF t f i pd h s).2.fs (N + f.size) (runF t f i pd h s).1 := by
  intro f
  induction f with
  | nil =>
    intro i pd d h s N _ hs _ _ _ hq
    cases pd with
    | none => exact fun q => by cases q
    | some q =>
      simp only [runF]
      split
      · exact fun q => by cases q
      · exact ((hq q rfl).2).up (by omega)
  | node k a b kids rest ihk ihr =>
    intro i pd d h s N hn hs hh hp hN hq
    obtain ⟨n1, n2, n3, n4, n5⟩ := numsF_node hn
    have esz : (Fo.node k a b kids rest).size = 1 + kids.size + rest.size := rfl
    have hline : k ≠ 7 → DepOk ((fun r : En × RS => if r.1.ed = 0 then runF t rest (i + 1 + kids.size) none h r.2 else r) (lineR k a b i h (fun s => runF t kids (i + 1) none h s) s)).2.fs (N + (Fo.node k a b kids rest).size) ((fun r : En × RS => if r.1.ed = 0 then runF t rest (i + 1 + kids.size) none h r.2 else r) (lineR k a b i h (fun s => runF t kids (i + 1) none h s) s)).1 := by
      intro _
      have hg := goes_lineR (i := i) (body := fun s => runF t kids (i + 1) none h s) (n := cost kids) ht hs n1 hh (fun s' hs' hl => goes_run ht kids (i + 1) none (d + 1) h s' n4 hs' (by omega) trivial)
      have h1 : DepOk (lineR k a b i h (fun s => runF t kids (i + 1) none h s) s).2.fs (N + 1 + kids.size) (lineR k a b i h (fun s => runF t kids (i + 1) none h s) s).1 := by
        unfold lineR
        by_cases k11 : k = 11
        · rw [if_pos k11]
          have h2 := ihk (i + 1) none (d + 1) h (s.tell (100 + a)) N n4 hs hh trivial hN (fun q hq => by cases hq)
          unfold withS
          intro q
          by_cases c : (runF t kids (i + 1) none h (s.tell (100 + a))).1.ed = 2 ∧ b = 1
          · simp only [c, and_self, if_true] at q; cases q
          · simp only [c, if_false] at q ⊢
            have := h2 q
            show dep (runF t kids (i + 1) none h (s.tell (100 + a))).2.fs _ ≤ _
            omega
        · rw [if_neg k11]
          by_cases k12 : k = 12
          · rw [if_pos k12]
            have key : ∀ (m : Nat) (s' : RS), FsOk t s'.fs → h < s'.fs.length → dep s'.fs h ≤ N → DepOk (loopS (fun s => runF t kids (i + 1) none h s) m s').2.fs (N + 1 + kids.size) (loopS (fun s => runF t kids (i + 1) none h s) m s').1 := by
              intro m
              induction m with
              | zero => intro s' _ _ _; exact fun q => by cases q
              | succ m ih =>
                intro s' hs' hh' hN'
                have g1 := goes_run ht kids (i + 1) none (d + 1) h s' n4 hs' hh' trivial
                have h2 := ihk (i + 1) none (d + 1) h s' N n4 hs' hh' trivial hN' (fun q hq => by cases hq)
                have gl := g1.len
                simp only [loopS]
                split
                · exact h2.up (by omega)
                · split
                  · exact fun q => by cases q
                  · exact ih _ g1.ok (by omega) (by rw [g1.dep hs'.ho hh']; exact hN')
            exact key _ s hs hh hN
          · rw [if_neg k12]
            have e : (s.jump k i).fs = s.fs := by unfold RS.jump; split <;> rfl
            exact (dep_lineS (by rw [e]; exact hs.ho) (by rw [e]; exact hh) (by rw [e]; exact hN)).up (by omega)
      generalize lineR k a b i h (fun s => runF t kids (i + 1) none h s) s = r at h1 hg ⊢
      have gl := hg.len
      show DepOk (if r.1.ed = 0 then _ else r).2.fs _ (if r.1.ed = 0 then _ else r).1
      split
      · exact (ihr _ none d h r.2 N n5 hg.ok (by omega) trivial (by rw [hg.dep hs.ho hh]; exact hN) (fun q hq => by cases hq)).up (by omega)
      · exact h1.up (by omega)
    have htry : DepOk ((fun r : En × RS => runF t rest (i + 1 + kids.size) (some (r.1, r.1)) h r.2) (runF t kids (i + 1) none h s)).2.fs (N + (Fo.node k a b kids rest).size) ((fun r : En × RS => runF t rest (i + 1 + kids.size) (some (r.1, r.1)) h r.2) (runF t kids (i + 1) none h s)).1 := by
      have hg := goes_run ht kids (i + 1) none (d + 1) h s n4 hs hh trivial
      have h1 := ihk (i + 1) none (d + 1) h s N n4 hs hh trivial hN (fun q hq => by cases hq)
      generalize runF t kids (i + 1) none h s = r at h1 hg ⊢
      have gl := hg.len
      exact (ihr _ (some (r.1, r.1)) d h r.2 (N + kids.size) n5 hg.ok (by omega) ⟨hg.val, hg.val⟩ (by rw [hg.dep hs.ho hh]; omega) (fun q hq => by cases hq; exact ⟨h1, h1⟩)).up (by omega)
    cases pd with
    | none =>
      simp only [runF]
      split
      · exact htry
      · exact hline ‹_›
    | some q =>
      obtain ⟨q1, q2⟩ := hq q rfl
      simp only [runF]
      by_cases hk : followsK k = true
      · simp only [hk, if_true]
        have pass : DepOk (runF t rest (i + 1 + kids.size) (some q) h s).2.fs (N + (Fo.node k a b kids rest).size) (runF t rest (i + 1 + kids.size) (some q) h s).1 :=
          (ihr _ (some q) d h s N n5 hs hh hp hN (fun q' hq' => by cases hq'; exact ⟨q1, q2⟩)).up (by omega)
        have go : ∀ (g : Int) (st : En) (e : En → En), g < s.fs.length → dep s.fs g ≤ N → (st.ed = 2 → 0 ≤ st.val ∧ st.val < s.fs.length) → DepOk s.fs N st → (∀ x : En, e x = x ∨ e x = q.2) →
            DepOk ((fun r : En × RS => runF t rest (i + 1 + kids.size) (some (st, e r.1)) h r.2) (runF t kids (i + 1) none g s)).2.fs (N + (Fo.node k a b kids rest).size) ((fun r : En × RS => runF t rest (i + 1 + kids.size) (some (st, e r.1)) h r.2) (runF t kids (i + 1) none g s)).1 := by
          intro g st e hg0 hgd hst hsd he
          have hg := goes_run ht kids (i + 1) none (d + 1) g s n4 hs hg0 trivial
          have h1 := ihk (i + 1) none (d + 1) g s N n4 hs hg0 trivial hgd (fun q hq => by cases hq)
          generalize runF t kids (i + 1) none g s = r at h1 hg ⊢
          have gl := hg.len
          have hst2 : DepOk r.2.fs (N + kids.size) st := fun z => by
            have := hst z
            rw [hg.dep hs.ho this.2]; have := hsd z; omega
          have he2 : DepOk r.2.fs (N + kids.size) (e r.1) ∧ ((e r.1).ed = 2 → 0 ≤ (e r.1).val ∧ (e r.1).val < r.2.fs.length) := by
            rcases he r.1 with z | z
            · rw [z]; exact ⟨h1, hg.val⟩
            · rw [z]
              refine ⟨fun y => ?_, fun y => ?_⟩
              · rw [hg.dep hs.ho (hp.2 y).2]; have := q2 y; omega
              · have := hp.2 y; omega
          exact (ihr _ (some (st, e r.1)) d h r.2 (N + kids.size) n5 hg.ok (by omega) ⟨fun z => by have := hst z; show 0 ≤ st.val ∧ st.val < (r.2.fs.length : Int); omega, he2.2⟩ (by rw [hg.dep hs.ho hh]; omega) (fun q hq => by cases hq; exact ⟨hst2, he2.1⟩)).up (by omega)
        split
        · split
          · rename_i hc
            exact go q.1.val ⟨-1, 0⟩ (fun r => r) (hp.1 hc.1).2 (q1 hc.1) (fun z => by cases z) (fun z => by cases z) (fun x => .inl rfl)
          · exact pass
        · split
          · split
            · exact go h q.1 (fun r => r) hh hN hp.1 q1 (fun x => .inl rfl)
            · exact pass
          · refine go _ q.1 (fun r => if r.ed = 0 then q.2 else r) ?_ ?_ hp.1 q1 (fun x => ?_)
            · split
              · exact (hp.2 ‹_›).2
              · exact hh
            · split
              · exact q2 ‹_›
              · exact hN
            · show (if _ then _ else _) = x ∨ (if _ then _ else _) = q.2
              split
              · exact .inr rfl
              · exact .inl rfl
      · rw [if_neg hk]
        split
        · split
          · exact htry
          · exact hline ‹_›
        · exact q2.up (by omega)
theorem dep_top {t : List Class} {p : List Line} (h : ValidP t p) (h2 : (runP t p).1.ed = 2) : dep (runP t p).2.fs (runP t p).1.val ≤ 24 := by
  obtain ⟨h1, _, h3, h4, h5, h6⟩ := validP_forest h
  have := dep_run h1 (forestP p) 0 none 0 (-1) rs0 0 h3 (fsOk_nil t) (by show (-1 : Int) < 0; omega) trivial (by rw [dep_neg (by omega)]; omega) (fun q hq => by cases hq) h2
  rw [Nat.zero_add] at this
  exact Nat.le_trans this h6
end
section
open Go Go.Sim
set_option maxRecDepth 100000

theorem c_heapHas (h : List Fault) (cl : Bool) (a : Int) (H : AHeap) : ACalls Tryz.prog 97 [aHeap h cl, I a] H fun r H' => r = B (inR a 0 (h.length - 1)) ∧ H' = H := by
  refine acalls_len1 (by kernel_rfl) (List.mem_cons_self ..) fun hl => ?_
  rw [List.length_map] at hl
  refine acalls_of0 Tryz.func97 rfl (by kernel_rfl) rfl rfl (awp_sound (fz := fun _ => []) (im := fun s => s == 2) mixed _ _ _ _ (by kernel_rfl) ?_)
  simp +contextual -dsimp -implicitDefEqProofs (maxSteps := 5000000) only [go_sem, reduceIte, reduceCtorEq, Nat.reduceEqDiff, Nat.reduceBEq, Nat.reduceAdd, Nat.reduceLeDiff, Nat.reduceMul, Nat.reduceLT, Int.reduceEq, Int.reduceLT, Int.reduceLE]
  rw [w64 (by omega) (by omega)]
  exact (c_within _ _ _ _).det (by simp +contextual -dsimp -implicitDefEqProofs (maxSteps := 5000000) only [go_sem, reduceIte, reduceCtorEq, Nat.reduceEqDiff, Nat.reduceBEq, Nat.reduceAdd, Nat.reduceLeDiff, Nat.reduceMul, Nat.reduceLT, Int.reduceEq, Int.reduceLT, Int.reduceLE])
theorem c_hasFault (h : List Fault) (cl : Bool) (a : Int) (H : AHeap) : ACalls Tryz.prog 105 [aHeap h cl, I a] H fun r H' => r = B (inR a 0 (h.length - 1)) ∧ H' = H := by
  refine acalls_len1 (by kernel_rfl) (List.mem_cons_self ..) fun hl => ?_
  rw [List.length_map] at hl
  refine acalls_of0 Tryz.func105 rfl (by kernel_rfl) rfl rfl (awp_sound (fz := fun _ => []) (im := fun s => s == 2) mixed _ _ _ _ (by kernel_rfl) ?_)
  simp +contextual -dsimp -implicitDefEqProofs (maxSteps := 5000000) only [go_sem, reduceIte, reduceCtorEq, Nat.reduceEqDiff, Nat.reduceBEq, Nat.reduceAdd, Nat.reduceLeDiff, Nat.reduceMul, Nat.reduceLT, Int.reduceEq, Int.reduceLT, Int.reduceLE]
  rw [w64 (by omega) (by omega)]
  exact (c_inRange _ _ _ _).det (by simp +contextual -dsimp -implicitDefEqProofs (maxSteps := 5000000) only [go_sem, reduceIte, reduceCtorEq, Nat.reduceEqDiff, Nat.reduceBEq, Nat.reduceAdd, Nat.reduceLeDiff, Nat.reduceMul, Nat.reduceLT, Int.reduceEq, Int.reduceLT, Int.reduceLE])
def linkF (n : Nat) (f to : Int) : Bool := decide (to = -1) || (inR to 0 (n - 1) && !decide (to = f))
theorem c_link (h : List Fault) (cl : Bool) (f a : Int) (H : AHeap) : ACalls Tryz.prog 136 [I f, I a, .vptr [[.vsl (h.map rFault) cl]] 0 0] H fun r H' => r = B (linkF h.length f a) ∧ H' = H := by
  refine acalls_of0 Tryz.func136 rfl (by kernel_rfl) rfl rfl (awp_sound (fz := fun _ => []) (im := fun _ => false) mixed _ _ _ _ (by kernel_rfl) ?_)
  by_cases h1 : a = -1
  · simp +contextual -dsimp -implicitDefEqProofs (maxSteps := 5000000) only [go_sem, reduceIte, reduceCtorEq, Nat.reduceEqDiff, Nat.reduceBEq, Nat.reduceAdd, Nat.reduceLeDiff, Nat.reduceMul, Nat.reduceLT, Int.reduceEq, Int.reduceLT, Int.reduceLE, h1, linkF]
  · simp +contextual -dsimp -implicitDefEqProofs (maxSteps := 5000000) only [go_sem, reduceIte, reduceCtorEq, Nat.reduceEqDiff, Nat.reduceBEq, Nat.reduceAdd, Nat.reduceLeDiff, Nat.reduceMul, Nat.reduceLT, Int.reduceEq, Int.reduceLT, Int.reduceLE, h1]
    refine (c_heapHas h cl a H).det ?_
    cases hI : inR a 0 (h.length - 1)
    · simp +contextual -dsimp -implicitDefEqProofs (maxSteps := 5000000) only [go_sem, reduceIte, reduceCtorEq, Nat.reduceEqDiff, Nat.reduceBEq, Nat.reduceAdd, Nat.reduceLeDiff, Nat.reduceMul, Nat.reduceLT, Int.reduceEq, Int.reduceLT, Int.reduceLE, h1, linkF, hI]
    · simp +contextual -dsimp -implicitDefEqProofs (maxSteps := 5000000) only [go_sem, reduceIte, reduceCtorEq, Nat.reduceEqDiff, Nat.reduceBEq, Nat.reduceAdd, Nat.reduceLeDiff, Nat.reduceMul, Nat.reduceLT, Int.reduceEq, Int.reduceLT, Int.reduceLE, h1, linkF, hI]
theorem c_faultsIn1 (h : List Fault) (cl : Bool) (a : Int) (H : AHeap) : ACalls Tryz.prog 96 [I a, .vptr [[.vsl (h.map rFault) cl]] 0 0] H fun r H' => r = B (!inR a 0 (h.length - 1)) ∧ H' = H := by
  refine acalls_of0 Tryz.func96 rfl (by kernel_rfl) rfl rfl (awp_sound (fz := fun _ => []) (im := fun _ => false) mixed _ _ _ _ (by kernel_rfl) ?_)
  simp +contextual -dsimp -implicitDefEqProofs (maxSteps := 5000000) only [go_sem, reduceIte, reduceCtorEq, Nat.reduceEqDiff, Nat.reduceBEq, Nat.reduceAdd, Nat.reduceLeDiff, Nat.reduceMul, Nat.reduceLT, Int.reduceEq, Int.reduceLT, Int.reduceLE]
  refine (c_heapHas h cl a H).det ?_
  simp +contextual -dsimp -implicitDefEqProofs (maxSteps := 5000000) only [go_sem, reduceIte, reduceCtorEq, Nat.reduceEqDiff, Nat.reduceBEq, Nat.reduceAdd, Nat.reduceLeDiff, Nat.reduceMul, Nat.reduceLT, Int.reduceEq, Int.reduceLT, Int.reduceLE]
theorem c_IndexFuncInt (l : List Int) (cl : Bool) (g : FuncId) (caps : List AV) (p : Int → Bool) (H : AHeap)
    (hp : ∀ c, ACalls Tryz.prog g (I c :: caps) H fun r H' => r = B (p c) ∧ H' = H) :
    ACalls Tryz.prog 138 [.vsl (l.map rI) cl, .fn g [] caps] H fun r H' => r = I (idxF p l) ∧ H' = H := by
  refine acalls_len (by kernel_rfl) (List.mem_cons_self ..) fun hl => ?_
  rw [List.length_map] at hl
  refine acalls_of0 Tryz.func138 rfl (by kernel_rfl) rfl rfl (awp_sound (fz := fun _ => []) (im := fun _ => false) mixed _ _ _ _ (by kernel_rfl) ?_)
  simp +contextual -dsimp -implicitDefEqProofs (maxSteps := 5000000) only [go_sem, reduceIte, reduceCtorEq, Nat.reduceEqDiff, Nat.reduceBEq, Nat.reduceAdd, Nat.reduceLeDiff, Nat.reduceMul, Nat.reduceLT, Int.reduceEq, Int.reduceLT, Int.reduceLE]
  refine aloop mixed (fz := fun _ => []) (im := fun _ => false) (by kernel_rfl) (fun m tm H' => ∃ k : Nat, m = l.length - k ∧ k ≤ l.length ∧ H' = H ∧ tm 0 = .vsl (l.map rI) cl ∧ tm 1 = .fn g [] caps ∧ tm 7 = I l.length ∧ tm 8 = I k ∧ (l.take k).any p = false) l.length ⟨0, ?_⟩ ?_
  · simp +contextual -dsimp -implicitDefEqProofs (maxSteps := 5000000) only [go_sem, reduceIte, reduceCtorEq, Nat.reduceEqDiff, Nat.reduceBEq, Nat.reduceAdd, Nat.reduceLeDiff, Nat.reduceMul, Nat.reduceLT, Int.reduceEq, Int.reduceLT, Int.reduceLE]
    simp
  · rintro m tm _ ⟨k, rfl, hk, rfl, h0, h1, h7, h8, hn⟩
    simp +contextual -dsimp -implicitDefEqProofs (maxSteps := 5000000) only [go_sem, reduceIte, reduceCtorEq, Nat.reduceEqDiff, Nat.reduceBEq, Nat.reduceAdd, Nat.reduceLeDiff, Nat.reduceMul, Nat.reduceLT, Int.reduceEq, Int.reduceLT, Int.reduceLE, h0, h1, h7, h8]
    refine ⟨fun h => (hp _).det ?_, fun h => ?_⟩
    · simp +contextual -dsimp -implicitDefEqProofs (maxSteps := 5000000) only [go_sem, reduceIte, reduceCtorEq, Nat.reduceEqDiff, Nat.reduceBEq, Nat.reduceAdd, Nat.reduceLeDiff, Nat.reduceMul, Nat.reduceLT, Int.reduceEq, Int.reduceLT, Int.reduceLE, h0, h1, h7, h8]
      refine ⟨fun hb => ?_, fun hb => ⟨_, ?_, k + 1, rfl, h, I_wrap (by omega) (by omega) (by omega), any_take h hn hb⟩⟩
      · rw [idxF_at h hn hb]
      · omega
    · rw [idxF_none (by omega) hn]
theorem c_ContainsFuncInt (l : List Int) (cl : Bool) (g : FuncId) (caps : List AV) (p : Int → Bool) (H : AHeap)
    (hp : ∀ c, ACalls Tryz.prog g (I c :: caps) H fun r H' => r = B (p c) ∧ H' = H) :
    ACalls Tryz.prog 95 [.vsl (l.map rI) cl, .fn g [] caps] H fun r H' => r = B (l.any p) ∧ H' = H := by
  refine acalls_of0 Tryz.func95 rfl (by kernel_rfl) rfl rfl (awp_sound (fz := fun _ => []) (im := fun _ => false) mixed _ _ _ _ (by kernel_rfl) ?_)
  simp +contextual -dsimp -implicitDefEqProofs (maxSteps := 5000000) only [go_sem, reduceIte, reduceCtorEq, Nat.reduceEqDiff, Nat.reduceBEq, Nat.reduceAdd, Nat.reduceLeDiff, Nat.reduceMul, Nat.reduceLT, Int.reduceEq, Int.reduceLT, Int.reduceLE]
  refine (c_IndexFuncInt l cl g caps p H hp).det ?_
  simp +contextual -dsimp -implicitDefEqProofs (maxSteps := 5000000) only [go_sem, reduceIte, reduceCtorEq, Nat.reduceEqDiff, Nat.reduceBEq, Nat.reduceAdd, Nat.reduceLeDiff, Nat.reduceMul, Nat.reduceLT, Int.reduceEq, Int.reduceLT, Int.reduceLE, idxF_nonneg]
theorem c_validLinks (h : List Fault) (cl : Bool) (f : Nat) (H : AHeap) (hf : f < h.length) : ACalls Tryz.prog 140 [aHeap h cl, I f] H fun r H' => r = B (linkF h.length f (h.getD f default).cause && linkF h.length f (h.getD f default).ctx) ∧ H' = H := by
  refine acalls_len1 (by kernel_rfl) (List.mem_cons_self ..) fun hl => ?_
  rw [List.length_map] at hl
  refine acalls_of0 Tryz.func140 rfl (by kernel_rfl) rfl rfl (awp_sound (fz := fun r => if r = 2 then [6] else []) (im := fun s => s == 2) mixed _ _ _ _ (by kernel_rfl) ?_)
  simp +contextual -dsimp -implicitDefEqProofs (maxSteps := 5000000) only [go_sem, reduceIte, reduceCtorEq, Nat.reduceEqDiff, Nat.reduceBEq, Nat.reduceAdd, Nat.reduceLeDiff, Nat.reduceMul, Nat.reduceLT, Int.reduceEq, Int.reduceLT, Int.reduceLE, hf]
  intro b hb
  have e : ∀ a : Int, linkF h.length f a = (inR a (-1) (h.length - 1) && !decide (a = f)) := by
    intro a
    unfold linkF inR
    rw [Bool.eq_iff_iff]
    simp
    omega
  rw [e, e]
  refine (c_inRange _ _ _ _).det ?_
  rw [w64 (by omega) (by omega)]
  cases h1 : inR (h.getD f default).cause (-1) (h.length - 1)
  · simp +contextual -dsimp -implicitDefEqProofs (maxSteps := 5000000) only [go_sem, reduceIte, reduceCtorEq, Nat.reduceEqDiff, Nat.reduceBEq, Nat.reduceAdd, Nat.reduceLeDiff, Nat.reduceMul, Nat.reduceLT, Int.reduceEq, Int.reduceLT, Int.reduceLE, hf, h1]
  · simp +contextual -dsimp -implicitDefEqProofs (maxSteps := 5000000) only [go_sem, reduceIte, reduceCtorEq, Nat.reduceEqDiff, Nat.reduceBEq, Nat.reduceAdd, Nat.reduceLeDiff, Nat.reduceMul, Nat.reduceLT, Int.reduceEq, Int.reduceLT, Int.reduceLE, hf, h1]
    refine (c_inRange _ _ _ _).det ?_
    cases h2 : inR (h.getD f default).ctx (-1) (h.length - 1)
    · simp +contextual -dsimp -implicitDefEqProofs (maxSteps := 5000000) only [go_sem, reduceIte, reduceCtorEq, Nat.reduceEqDiff, Nat.reduceBEq, Nat.reduceAdd, Nat.reduceLeDiff, Nat.reduceMul, Nat.reduceLT, Int.reduceEq, Int.reduceLT, Int.reduceLE, hf, h2]
    · simp +contextual -dsimp -implicitDefEqProofs (maxSteps := 5000000) only [go_sem, reduceIte, reduceCtorEq, Nat.reduceEqDiff, Nat.reduceBEq, Nat.reduceAdd, Nat.reduceLeDiff, Nat.reduceMul, Nat.reduceLT, Int.reduceEq, Int.reduceLT, Int.reduceLE, hf, h2]
theorem c_scontexts (h : List Fault) (cl : Bool) (f : Int) (H : AHeap) (hl : h.length ≤ 1000000) (hf : f < h.length) (hc : ∀ k, k < h.length → (h.getD k default).ctx < h.length) :
    ACalls Tryz.prog 141 [aHeap h cl, I f] H fun r H' => Grow rI 1 3 H H' r (chainF h f) := by
  refine acalls_of0 Tryz.func141 rfl (by kernel_rfl) rfl rfl (awp_sound (fz := fun _ => []) (im := fun s => s == 2 || s == 6 || s == 17) mixed _ _ _ _ (by kernel_rfl) ?_)
  simp +contextual -dsimp -implicitDefEqProofs (maxSteps := 5000000) only [go_sem, reduceIte, reduceCtorEq, Nat.reduceEqDiff, Nat.reduceBEq, Nat.reduceAdd, Nat.reduceLeDiff, Nat.reduceMul, Nat.reduceLT, Int.reduceEq, Int.reduceLT, Int.reduceLE]
  refine aloop mixed (fz := fun _ => []) (im := fun s => s == 2 || s == 6 || s == 17) (by kernel_rfl) (fun m tm H' => ∃ (out : List Int) (c : Int), c < h.length ∧ freeN h.length out < m ∧ out.length + m ≤ h.length + 1 ∧ tm 1 = I c ∧ tm 2 = .vptr [[.vsl (h.map rFault) cl]] 0 0 ∧ Grow rI 1 3 H H' (tm 5) out ∧ walkG (ctxOf h) m out c = chainF h f) (h.length + 1) ⟨[], f, hf, ?_, ?_, ?_⟩ ?_
  · have := freeN_nil h.length; omega
  · simp
  · simp +contextual -dsimp -implicitDefEqProofs (maxSteps := 5000000) only [go_sem, reduceIte, reduceCtorEq, Nat.reduceEqDiff, Nat.reduceBEq, Nat.reduceAdd, Nat.reduceLeDiff, Nat.reduceMul, Nat.reduceLT, Int.reduceEq, Int.reduceLT, Int.reduceLE]
    exact ⟨grow_nil, rfl⟩
  · rintro m tm H' ⟨out, c, hc1, hfr, hlen, h1, h2, hg, he⟩
    have hm : m = (m - 1) + 1 := by omega
    rw [hm, walkG] at he
    have stop : ¬ (0 ≤ c ∧ (out.any fun x => decide (c = x)) = false) → out = chainF h f := fun h => by rw [if_neg h] at he; exact he
    by_cases h0 : 0 ≤ c
    · simp +contextual -dsimp -implicitDefEqProofs (maxSteps := 5000000) only [go_sem, reduceIte, reduceCtorEq, Nat.reduceEqDiff, Nat.reduceBEq, Nat.reduceAdd, Nat.reduceLeDiff, Nat.reduceMul, Nat.reduceLT, Int.reduceEq, Int.reduceLT, Int.reduceLE, h1, h2, h0]
      refine (c_hasIntG out _ c H H' hg).det ?_
      have hn : c.toNat < h.length := by omega
      cases ha : out.any fun x => decide (c = x)
      · rw [if_pos ⟨h0, ha⟩] at he
        simp +contextual -dsimp -implicitDefEqProofs (maxSteps := 5000000) only [go_sem, reduceIte, reduceCtorEq, Nat.reduceEqDiff, Nat.reduceBEq, Nat.reduceAdd, Nat.reduceLeDiff, Nat.reduceMul, Nat.reduceLT, Int.reduceEq, Int.reduceLT, Int.reduceLE, h1, h2, h0]
        refine grow_append (m := [c]) te29 ti3 rI_len (by decide) hg (by simp; omega) (by simp; omega) rfl fun x' H'' hg' => ?_
        simp +contextual -dsimp -implicitDefEqProofs (maxSteps := 5000000) only [go_sem, reduceIte, reduceCtorEq, Nat.reduceEqDiff, Nat.reduceBEq, Nat.reduceAdd, Nat.reduceLeDiff, Nat.reduceMul, Nat.reduceLT, Int.reduceEq, Int.reduceLT, Int.reduceLE, h1, h2, h0, hc1, hn]
        exact ⟨m - 1, by omega, out ++ [c], _, hc c.toNat hn, by have := freeN_lt h0 hc1 ha; omega, by simp; omega, rfl, hg', he⟩
      · simp +contextual -dsimp -implicitDefEqProofs (maxSteps := 5000000) only [go_sem, reduceIte, reduceCtorEq, Nat.reduceEqDiff, Nat.reduceBEq, Nat.reduceAdd, Nat.reduceLeDiff, Nat.reduceMul, Nat.reduceLT, Int.reduceEq, Int.reduceLT, Int.reduceLE, h1, h2, h0]
        rw [← stop (fun q => by rw [ha] at q; cases q.2)]
        exact hg
    · simp +contextual -dsimp -implicitDefEqProofs (maxSteps := 5000000) only [go_sem, reduceIte, reduceCtorEq, Nat.reduceEqDiff, Nat.reduceBEq, Nat.reduceAdd, Nat.reduceLeDiff, Nat.reduceMul, Nat.reduceLT, Int.reduceEq, Int.reduceLT, Int.reduceLE, h1, h2, h0]
      rw [← stop (fun q => h0 q.1)]
      exact hg
theorem walkG_len (nx : Int → Int) : ∀ (n : Nat) (out : List Int) (f : Int), (walkG nx n out f).length ≤ out.length + n
  | 0, out, f => Nat.le_refl _
  | n + 1, out, f => by
    simp only [walkG]
    split
    · have := walkG_len nx n (out ++ [f]) (nx f)
      simp at this
      omega
    · omega
theorem chainF_len (h : List Fault) (f : Int) : (chainF h f).length ≤ h.length + 1 := by
  have := walkG_len (ctxOf h) (h.length + 1) [] f
  simpa [chainF, walkF] using this
theorem chainF_in {h : List Fault} (hc : ∀ k, k < h.length → (h.getD k default).ctx < h.length) {f : Int} (hf : f < h.length) {a : Int} (ha : a ∈ chainF h f) : 0 ≤ a ∧ a < h.length := by
  have := walkG_mem (nx := ctxOf h) (p := fun a => a < h.length) (fun a a0 a1 => hc a.toNat (by omega)) (h.length + 1) [] f hf a ha
  simpa using this
def lastI (l : List Int) : Int := l.getD (l.length - 1) default
theorem lastI_in {h : List Fault} (hc : ∀ k, k < h.length → (h.getD k default).ctx < h.length) {f : Int} (h0 : 0 ≤ f) (hf : f < h.length) : 0 ≤ lastI (chainF h f) ∧ lastI (chainF h f) < h.length := by
  have hne := List.length_pos_iff.2 (chainF_ne (h := h) h0)
  apply chainF_in hc hf
  have : (chainF h f).length - 1 < (chainF h f).length := by omega
  unfold lastI
  rw [List.getD_eq_getElem?_getD, List.getElem?_eq_getElem this]
  exact List.getElem_mem this
def faultOk (t : List Class) (h : List Fault) (k : Nat) : Bool := hasF t (h.getD k default).cls && inR (h.getD k default).code 0 99 && linkF h.length k (h.getD k default).cause && linkF h.length k (h.getD k default).ctx
def lastOk (h : List Fault) (k : Nat) : Bool := decide (ctxOf h (lastI (chainF h k)) = -1)
def validH (t : List Class) (h : List Fault) : Bool := (List.range h.length).all (faultOk t h) && ((List.range h.length).all (lastOk h) && (validT t && decide (h.length ≤ 24)))
theorem faultOk_links {t : List Class} {h : List Fault} (hv : (List.range h.length).all (faultOk t h) = true) : ∀ k, k < h.length → -1 ≤ (h.getD k default).ctx ∧ (h.getD k default).ctx < h.length ∧ -1 ≤ (h.getD k default).cause ∧ (h.getD k default).cause < h.length := by
  intro k hk
  rw [List.all_eq_true] at hv
  have := hv k (by simp [hk])
  simp only [faultOk, linkF, inR, Bool.and_eq_true, Bool.or_eq_true, decide_eq_true_eq, Bool.not_eq_true'] at this
  omega
theorem range_next {p : Nat → Bool} {k : Nat} (h : (List.range k).all p = true) (e : p k = true) : (List.range (k + 1)).all p = true := by
  rw [List.range_succ, List.all_append, h]; simp [e]
theorem range_bad {p : Nat → Bool} {k n : Nat} (h : k < n) (e : p k = false) : (List.range n).all p = false := by
  rw [List.all_eq_false]; exact ⟨k, by simp [h], by simp [e]⟩
theorem c_ValidHeap (t : List Class) (cl : Bool) (h : List Fault) (cl' : Bool) (H : AHeap) (hn : namesOk t) (hl : h.length ≤ 1000000) : ACalls Tryz.prog 94 [aTree t cl, aHeap h cl'] H fun r H' => r = B (validH t h) ∧ H' = H := by
  refine acalls_of0 Tryz.func94 rfl (by kernel_rfl) rfl rfl (awp_sound (fz := fun r => if r = 4 then [7] else []) (im := fun s => s == 2 || s == 3) mixed _ _ _ _ (by kernel_rfl) ?_)
  simp +contextual -dsimp -implicitDefEqProofs (maxSteps := 5000000) only [go_sem, reduceIte, reduceCtorEq, Nat.reduceEqDiff, Nat.reduceBEq, Nat.reduceAdd, Nat.reduceLeDiff, Nat.reduceMul, Nat.reduceLT, Int.reduceEq, Int.reduceLT, Int.reduceLE]
  refine aloop mixed (fz := fun r => if r = 4 then [7] else []) (im := fun s => s == 2 || s == 3) (by kernel_rfl) (fun m tm H' => ∃ k : Nat, m = h.length - k ∧ k ≤ h.length ∧ H' = H ∧ tm 2 = .vptr [[.vsl (t.map rClass) cl]] 0 0 ∧ tm 3 = .vptr [[.vsl (h.map rFault) cl']] 0 0 ∧ tm 5 = .fn 136 [] [.vptr [[.vsl (h.map rFault) cl']] 0 0] ∧ tm 12 = .vsl (h.map rFault) cl' ∧ tm 13 = I h.length ∧ tm 14 = I k ∧ (List.range k).all (faultOk t h) = true) h.length ⟨0, by omega, by omega, rfl, ?_⟩ ?_
  · simp +contextual -dsimp -implicitDefEqProofs (maxSteps := 5000000) only [go_sem, reduceIte, reduceCtorEq, Nat.reduceEqDiff, Nat.reduceBEq, Nat.reduceAdd, Nat.reduceLeDiff, Nat.reduceMul, Nat.reduceLT, Int.reduceEq, Int.reduceLT, Int.reduceLE]
    rfl
  · rintro m tm H ⟨k, rfl, hk, rfl, h2, h3, h5, h12, h13, h14, hv⟩
    by_cases hlt : k < h.length
    · have bad : faultOk t h k = false → validH t h = false := fun e => by unfold validH; rw [range_bad hlt e]; rfl
      unfold faultOk at bad
      simp +contextual -dsimp -implicitDefEqProofs (maxSteps := 5000000) only [go_sem, reduceIte, reduceCtorEq, Nat.reduceEqDiff, Nat.reduceBEq, Nat.reduceAdd, Nat.reduceLeDiff, Nat.reduceMul, Nat.reduceLT, Int.reduceEq, Int.reduceLT, Int.reduceLE, h2, h3, h5, h12, h13, h14, hlt]
      intro b hb
      refine (c_has t cl _ _).det ?_
      cases e1 : hasF t (h.getD k default).cls
      · simp +contextual -dsimp -implicitDefEqProofs (maxSteps := 5000000) only [go_sem, reduceIte, reduceCtorEq, Nat.reduceEqDiff, Nat.reduceBEq, Nat.reduceAdd, Nat.reduceLeDiff, Nat.reduceMul, Nat.reduceLT, Int.reduceEq, Int.reduceLT, Int.reduceLE, h2, h3, h5, h12, h13, h14, hlt]
        rw [bad (by simp only [e1, Bool.false_and])]
      · simp +contextual -dsimp -implicitDefEqProofs (maxSteps := 5000000) only [go_sem, reduceIte, reduceCtorEq, Nat.reduceEqDiff, Nat.reduceBEq, Nat.reduceAdd, Nat.reduceLeDiff, Nat.reduceMul, Nat.reduceLT, Int.reduceEq, Int.reduceLT, Int.reduceLE, h2, h3, h5, h12, h13, h14, hlt]
        refine (c_codeOk _ _).det ?_
        cases e2 : inR (h.getD k default).code 0 99
        · simp +contextual -dsimp -implicitDefEqProofs (maxSteps := 5000000) only [go_sem, reduceIte, reduceCtorEq, Nat.reduceEqDiff, Nat.reduceBEq, Nat.reduceAdd, Nat.reduceLeDiff, Nat.reduceMul, Nat.reduceLT, Int.reduceEq, Int.reduceLT, Int.reduceLE, h2, h3, h5, h12, h13, h14, hlt]
          rw [bad (by simp only [e1, e2, Bool.false_and, Bool.and_false])]
        · simp +contextual -dsimp -implicitDefEqProofs (maxSteps := 5000000) only [go_sem, reduceIte, reduceCtorEq, Nat.reduceEqDiff, Nat.reduceBEq, Nat.reduceAdd, Nat.reduceLeDiff, Nat.reduceMul, Nat.reduceLT, Int.reduceEq, Int.reduceLT, Int.reduceLE, h2, h3, h5, h12, h13, h14, hlt]
          refine (c_link h cl' _ _ _).det ?_
          cases e3 : linkF h.length k (h.getD k default).cause
          · simp +contextual -dsimp -implicitDefEqProofs (maxSteps := 5000000) only [go_sem, reduceIte, reduceCtorEq, Nat.reduceEqDiff, Nat.reduceBEq, Nat.reduceAdd, Nat.reduceLeDiff, Nat.reduceMul, Nat.reduceLT, Int.reduceEq, Int.reduceLT, Int.reduceLE, h2, h3, h5, h12, h13, h14, hlt]
            rw [bad (by simp only [e1, e2, e3, Bool.false_and, Bool.and_false])]
          · simp +contextual -dsimp -implicitDefEqProofs (maxSteps := 5000000) only [go_sem, reduceIte, reduceCtorEq, Nat.reduceEqDiff, Nat.reduceBEq, Nat.reduceAdd, Nat.reduceLeDiff, Nat.reduceMul, Nat.reduceLT, Int.reduceEq, Int.reduceLT, Int.reduceLE, h2, h3, h5, h12, h13, h14, hlt]
            refine (c_link h cl' _ _ _).det ?_
            cases e4 : linkF h.length k (h.getD k default).ctx
            · simp +contextual -dsimp -implicitDefEqProofs (maxSteps := 5000000) only [go_sem, reduceIte, reduceCtorEq, Nat.reduceEqDiff, Nat.reduceBEq, Nat.reduceAdd, Nat.reduceLeDiff, Nat.reduceMul, Nat.reduceLT, Int.reduceEq, Int.reduceLT, Int.reduceLE, h2, h3, h5, h12, h13, h14, hlt]
              rw [bad (by simp only [e4, Bool.and_false])]
            · simp +contextual -dsimp -implicitDefEqProofs (maxSteps := 5000000) only [go_sem, reduceIte, reduceCtorEq, Nat.reduceEqDiff, Nat.reduceBEq, Nat.reduceAdd, Nat.reduceLeDiff, Nat.reduceMul, Nat.reduceLT, Int.reduceEq, Int.reduceLT, Int.reduceLE, h2, h3, h5, h12, h13, h14, hlt]
              exact ⟨_, by omega, k + 1, rfl, hlt, I_wrap (by omega) (by omega) (by omega), range_next hv (by simp only [faultOk, e1, e2, e3, e4, Bool.and_self])⟩
    · simp +contextual -dsimp -implicitDefEqProofs (maxSteps := 5000000) only [go_sem, reduceIte, reduceCtorEq, Nat.reduceEqDiff, Nat.reduceBEq, Nat.reduceAdd, Nat.reduceLeDiff, Nat.reduceMul, Nat.reduceLT, Int.reduceEq, Int.reduceLT, Int.reduceLE, h2, h3, h5, h12, h13, h14, hlt]
      have hkl : k = h.length := by omega
      subst hkl
      have hlk := faultOk_links hv
      refine aloop mixed (fz := fun r => if r = 4 then [7] else []) (im := fun s => s == 2 || s == 3) (by kernel_rfl) (fun m tm H' => ∃ k : Nat, m = h.length - k ∧ k ≤ h.length ∧ H' = H ∧ tm 2 = .vptr [[.vsl (t.map rClass) cl]] 0 0 ∧ tm 3 = .vptr [[.vsl (h.map rFault) cl']] 0 0 ∧ tm 49 = I h.length ∧ tm 50 = I k ∧ (List.range k).all (lastOk h) = true) h.length ⟨0, by omega, by omega, rfl, ?_⟩ ?_
      · simp +contextual -dsimp -implicitDefEqProofs (maxSteps := 5000000) only [go_sem, reduceIte, reduceCtorEq, Nat.reduceEqDiff, Nat.reduceBEq, Nat.reduceAdd, Nat.reduceLeDiff, Nat.reduceMul, Nat.reduceLT, Int.reduceEq, Int.reduceLT, Int.reduceLE, h2, h3]
        rfl
      · rintro m tm H ⟨k, rfl, hk, rfl, g2, g3, g49, g50, hw⟩
        by_cases hlt : k < h.length
        · simp +contextual -dsimp -implicitDefEqProofs (maxSteps := 5000000) only [go_sem, reduceIte, reduceCtorEq, Nat.reduceEqDiff, Nat.reduceBEq, Nat.reduceAdd, Nat.reduceLeDiff, Nat.reduceMul, Nat.reduceLT, Int.reduceEq, Int.reduceLT, Int.reduceLE, g2, g3, g49, g50, hlt]
          refine acalls_frz (c_contexts h cl' k H hl (by omega) (fun k hk => (hlk k hk).2.1)) fun cl1 => ?_
          simp +contextual -dsimp -implicitDefEqProofs (maxSteps := 5000000) only [go_sem, reduceIte, reduceCtorEq, Nat.reduceEqDiff, Nat.reduceBEq, Nat.reduceAdd, Nat.reduceLeDiff, Nat.reduceMul, Nat.reduceLT, Int.reduceEq, Int.reduceLT, Int.reduceLE, g2, g3, g49, g50, hlt]
          have c1 := List.length_pos_iff.2 (chainF_ne (h := h) (g := k) (by omega))
          have c2 := chainF_len h k
          have c3 := lastI_in (fun k hk => (hlk k hk).2.1) (f := k) (by omega) (by omega)
          have hw1 : IntKind.i64.wrap (((chainF h k).length : Int) - 1) = (((chainF h k).length - 1 : Nat) : Int) := by
            have := I_wrap (a := ((chainF h k).length : Int) - 1) (b := (((chainF h k).length - 1 : Nat) : Int)) (by omega) (by omega) (by omega)
            injection this with q
            injection q
          have c4 : (chainF h k).length - 1 < (chainF h k).length := by omega
          refine draw_intro [0, 0, 0, 0, 0, 0, 0, 0, 0, 0, 0, 0] AHeap.none (by kernel_rfl) none_le ?_
          simp +contextual -dsimp -implicitDefEqProofs (maxSteps := 5000000) only [go_sem, reduceIte, reduceCtorEq, Nat.reduceEqDiff, Nat.reduceBEq, Nat.reduceAdd, Nat.reduceLeDiff, Nat.reduceMul, Nat.reduceLT, Int.reduceEq, Int.reduceLT, Int.reduceLE, g2, g3, g49, g50, hlt, hw1, c1, c4, c3]
          have bad : lastOk h k = false → validH t h = false := fun e => by simp [validH, range_bad hlt e]
          unfold lastOk ctxOf lastI at bad
          unfold lastI at c3
          exact ⟨⟨c3.1, c3.2⟩, by omega, fun hne => by rw [bad (decide_eq_false hne)], fun he => ⟨_, by omega, k + 1, rfl, hlt, I_wrap (by omega) (by omega) (by omega), range_next hw (decide_eq_true he)⟩⟩
        · simp +contextual -dsimp -implicitDefEqProofs (maxSteps := 5000000) only [go_sem, reduceIte, reduceCtorEq, Nat.reduceEqDiff, Nat.reduceBEq, Nat.reduceAdd, Nat.reduceLeDiff, Nat.reduceMul, Nat.reduceLT, Int.reduceEq, Int.reduceLT, Int.reduceLE, g2, g3, g49, g50, hlt]
          have hkl : k = h.length := by omega
          subst hkl
          refine (c_ValidTree t cl _ hn).det ?_
          cases e1 : validT t
          · simp +contextual -dsimp -implicitDefEqProofs (maxSteps := 5000000) only [go_sem, reduceIte, reduceCtorEq, Nat.reduceEqDiff, Nat.reduceBEq, Nat.reduceAdd, Nat.reduceLeDiff, Nat.reduceMul, Nat.reduceLT, Int.reduceEq, Int.reduceLT, Int.reduceLE, g2, g3]
            simp [validH, e1]
          · simp +contextual -dsimp -implicitDefEqProofs (maxSteps := 5000000) only [go_sem, reduceIte, reduceCtorEq, Nat.reduceEqDiff, Nat.reduceBEq, Nat.reduceAdd, Nat.reduceLeDiff, Nat.reduceMul, Nat.reduceLT, Int.reduceEq, Int.reduceLT, Int.reduceLE, g2, g3]
            simp only [validH, hv, hw, e1, Bool.true_and]
            exact congrArg B (decide_eq_decide.2 (by omega))
theorem c_validHeap (t : List Class) (cl : Bool) (h : List Fault) (cl' : Bool) (H : AHeap) (hn : namesOk t) (hl : h.length ≤ 1000000) : ACalls Tryz.prog 104 [aTree t cl, aHeap h cl'] H fun r H' => r = B (validH t h) ∧ H' = H := by
  refine acalls_of0 Tryz.func104 rfl (by kernel_rfl) rfl rfl (awp_sound (fz := fun r => if r = 4 then [6] else []) (im := fun s => s == 2 || s == 3) mixed _ _ _ _ (by kernel_rfl) ?_)
  simp +contextual -dsimp -implicitDefEqProofs (maxSteps := 5000000) only [go_sem, reduceIte, reduceCtorEq, Nat.reduceEqDiff, Nat.reduceBEq, Nat.reduceAdd, Nat.reduceLeDiff, Nat.reduceMul, Nat.reduceLT, Int.reduceEq, Int.reduceLT, Int.reduceLE]
  refine aloop mixed (fz := fun r => if r = 4 then [6] else []) (im := fun s => s == 2 || s == 3) (by kernel_rfl) (fun m tm H' => ∃ k : Nat, m = h.length - k ∧ k ≤ h.length ∧ H' = H ∧ tm 2 = .vptr [[.vsl (t.map rClass) cl]] 0 0 ∧ tm 3 = .vptr [[.vsl (h.map rFault) cl']] 0 0 ∧ tm 5 = I k ∧ (List.range k).all (faultOk t h) = true) h.length ⟨0, by omega, by omega, rfl, ?_⟩ ?_
  · simp +contextual -dsimp -implicitDefEqProofs (maxSteps := 5000000) only [go_sem, reduceIte, reduceCtorEq, Nat.reduceEqDiff, Nat.reduceBEq, Nat.reduceAdd, Nat.reduceLeDiff, Nat.reduceMul, Nat.reduceLT, Int.reduceEq, Int.reduceLT, Int.reduceLE]
    rfl
  · rintro m tm H ⟨k, rfl, hk, rfl, h2, h3, h5, hv⟩
    by_cases hlt : k < h.length
    · have bad : faultOk t h k = false → validH t h = false := fun e => by unfold validH; rw [range_bad hlt e]; rfl
      unfold faultOk at bad
      simp +contextual -dsimp -implicitDefEqProofs (maxSteps := 5000000) only [go_sem, reduceIte, reduceCtorEq, Nat.reduceEqDiff, Nat.reduceBEq, Nat.reduceAdd, Nat.reduceLeDiff, Nat.reduceMul, Nat.reduceLT, Int.reduceEq, Int.reduceLT, Int.reduceLE, h2, h3, h5, hlt]
      intro b hb
      refine (c_hasClass t cl _ _).det ?_
      cases e1 : hasF t (h.getD k default).cls
      · simp +contextual -dsimp -implicitDefEqProofs (maxSteps := 5000000) only [go_sem, reduceIte, reduceCtorEq, Nat.reduceEqDiff, Nat.reduceBEq, Nat.reduceAdd, Nat.reduceLeDiff, Nat.reduceMul, Nat.reduceLT, Int.reduceEq, Int.reduceLT, Int.reduceLE, h2, h3, h5, hlt]
        rw [bad (by simp only [e1, Bool.false_and])]
      · simp +contextual -dsimp -implicitDefEqProofs (maxSteps := 5000000) only [go_sem, reduceIte, reduceCtorEq, Nat.reduceEqDiff, Nat.reduceBEq, Nat.reduceAdd, Nat.reduceLeDiff, Nat.reduceMul, Nat.reduceLT, Int.reduceEq, Int.reduceLT, Int.reduceLE, h2, h3, h5, hlt]
        refine (c_inRange _ _ _ _).det ?_
        cases e2 : inR (h.getD k default).code 0 99
        · simp +contextual -dsimp -implicitDefEqProofs (maxSteps := 5000000) only [go_sem, reduceIte, reduceCtorEq, Nat.reduceEqDiff, Nat.reduceBEq, Nat.reduceAdd, Nat.reduceLeDiff, Nat.reduceMul, Nat.reduceLT, Int.reduceEq, Int.reduceLT, Int.reduceLE, h2, h3, h5, hlt]
          rw [bad (by simp only [e1, e2, Bool.false_and, Bool.and_false])]
        · simp +contextual -dsimp -implicitDefEqProofs (maxSteps := 5000000) only [go_sem, reduceIte, reduceCtorEq, Nat.reduceEqDiff, Nat.reduceBEq, Nat.reduceAdd, Nat.reduceLeDiff, Nat.reduceMul, Nat.reduceLT, Int.reduceEq, Int.reduceLT, Int.reduceLE, h2, h3, h5, hlt]
          refine (c_validLinks h cl' k _ hlt).det ?_
          cases e3 : linkF h.length k (h.getD k default).cause && linkF h.length k (h.getD k default).ctx
          · simp +contextual -dsimp -implicitDefEqProofs (maxSteps := 5000000) only [go_sem, reduceIte, reduceCtorEq, Nat.reduceEqDiff, Nat.reduceBEq, Nat.reduceAdd, Nat.reduceLeDiff, Nat.reduceMul, Nat.reduceLT, Int.reduceEq, Int.reduceLT, Int.reduceLE, h2, h3, h5, hlt]
            rw [bad (by rw [Bool.and_assoc, e3, Bool.and_false])]
          · simp +contextual -dsimp -implicitDefEqProofs (maxSteps := 5000000) only [go_sem, reduceIte, reduceCtorEq, Nat.reduceEqDiff, Nat.reduceBEq, Nat.reduceAdd, Nat.reduceLeDiff, Nat.reduceMul, Nat.reduceLT, Int.reduceEq, Int.reduceLT, Int.reduceLE, h2, h3, h5, hlt]
            exact ⟨_, by omega, k + 1, rfl, hlt, I_wrap (by omega) (by omega) (by omega), range_next hv (by simp only [faultOk]; rw [Bool.and_assoc, e3, e1, e2]; rfl)⟩
    · simp +contextual -dsimp -implicitDefEqProofs (maxSteps := 5000000) only [go_sem, reduceIte, reduceCtorEq, Nat.reduceEqDiff, Nat.reduceBEq, Nat.reduceAdd, Nat.reduceLeDiff, Nat.reduceMul, Nat.reduceLT, Int.reduceEq, Int.reduceLT, Int.reduceLE, h2, h3, h5, hlt]
      have hkl : k = h.length := by omega
      subst hkl
      have hlk := faultOk_links hv
      refine aloop mixed (fz := fun r => if r = 4 then [6] else []) (im := fun s => s == 2 || s == 3) (by kernel_rfl) (fun m tm H' => ∃ k : Nat, m = h.length - k ∧ k ≤ h.length ∧ H' = H ∧ tm 2 = .vptr [[.vsl (t.map rClass) cl]] 0 0 ∧ tm 3 = .vptr [[.vsl (h.map rFault) cl']] 0 0 ∧ tm 7 = I k ∧ (List.range k).all (lastOk h) = true) h.length ⟨0, by omega, by omega, rfl, ?_⟩ ?_
      · simp +contextual -dsimp -implicitDefEqProofs (maxSteps := 5000000) only [go_sem, reduceIte, reduceCtorEq, Nat.reduceEqDiff, Nat.reduceBEq, Nat.reduceAdd, Nat.reduceLeDiff, Nat.reduceMul, Nat.reduceLT, Int.reduceEq, Int.reduceLT, Int.reduceLE, h2, h3]
        rfl
      · rintro m tm H ⟨k, rfl, hk, rfl, g2, g3, g7, hw⟩
        by_cases hlt : k < h.length
        · simp +contextual -dsimp -implicitDefEqProofs (maxSteps := 5000000) only [go_sem, reduceIte, reduceCtorEq, Nat.reduceEqDiff, Nat.reduceBEq, Nat.reduceAdd, Nat.reduceLeDiff, Nat.reduceMul, Nat.reduceLT, Int.reduceEq, Int.reduceLT, Int.reduceLE, g2, g3, g7, hlt]
          refine acalls_frz (c_scontexts h cl' k H hl (by omega) (fun k hk => (hlk k hk).2.1)) fun cl1 => ?_
          simp +contextual -dsimp -implicitDefEqProofs (maxSteps := 5000000) only [go_sem, reduceIte, reduceCtorEq, Nat.reduceEqDiff, Nat.reduceBEq, Nat.reduceAdd, Nat.reduceLeDiff, Nat.reduceMul, Nat.reduceLT, Int.reduceEq, Int.reduceLT, Int.reduceLE, g2, g3, g7, hlt]
          have c1 := List.length_pos_iff.2 (chainF_ne (h := h) (g := k) (by omega))
          have c2 := chainF_len h k
          have c3 := lastI_in (fun k hk => (hlk k hk).2.1) (f := k) (by omega) (by omega)
          have hw1 : IntKind.i64.wrap (((chainF h k).length : Int) - 1) = (((chainF h k).length - 1 : Nat) : Int) := by
            have := I_wrap (a := ((chainF h k).length : Int) - 1) (b := (((chainF h k).length - 1 : Nat) : Int)) (by omega) (by omega) (by omega)
            injection this with q
            injection q
          have c4 : (chainF h k).length - 1 < (chainF h k).length := by omega
          refine draw_intro [0, 0, 0, 0, 0, 0, 0, 0, 0, 0, 0, 0] AHeap.none (by kernel_rfl) none_le ?_
          simp +contextual -dsimp -implicitDefEqProofs (maxSteps := 5000000) only [go_sem, reduceIte, reduceCtorEq, Nat.reduceEqDiff, Nat.reduceBEq, Nat.reduceAdd, Nat.reduceLeDiff, Nat.reduceMul, Nat.reduceLT, Int.reduceEq, Int.reduceLT, Int.reduceLE, g2, g3, g7, hlt, hw1, c1, c4, c3]
          have bad : lastOk h k = false → validH t h = false := fun e => by simp [validH, range_bad hlt e]
          unfold lastOk ctxOf lastI at bad
          unfold lastI at c3
          have c5 := (hlk ((chainF h k).getD ((chainF h k).length - 1) default).toNat (by omega)).1
          exact ⟨⟨c3.1, c3.2⟩, by omega, fun hne => by rw [bad (decide_eq_false (by omega))], fun he => ⟨_, by omega, k + 1, rfl, hlt, I_wrap (by omega) (by omega) (by omega), range_next hw (decide_eq_true (by show (h.getD _ default).ctx = -1; unfold lastI; omega))⟩⟩
        · simp +contextual -dsimp -implicitDefEqProofs (maxSteps := 5000000) only [go_sem, reduceIte, reduceCtorEq, Nat.reduceEqDiff, Nat.reduceBEq, Nat.reduceAdd, Nat.reduceLeDiff, Nat.reduceMul, Nat.reduceLT, Int.reduceEq, Int.reduceLT, Int.reduceLE, g2, g3, g7, hlt]
          have hkl : k = h.length := by omega
          subst hkl
          refine (c_validTree t cl _ hn).det ?_
          cases e1 : validT t
          · simp +contextual -dsimp -implicitDefEqProofs (maxSteps := 5000000) only [go_sem, reduceIte, reduceCtorEq, Nat.reduceEqDiff, Nat.reduceBEq, Nat.reduceAdd, Nat.reduceLeDiff, Nat.reduceMul, Nat.reduceLT, Int.reduceEq, Int.reduceLT, Int.reduceLE, g2, g3]
            simp [validH, e1]
          · simp +contextual -dsimp -implicitDefEqProofs (maxSteps := 5000000) only [go_sem, reduceIte, reduceCtorEq, Nat.reduceEqDiff, Nat.reduceBEq, Nat.reduceAdd, Nat.reduceLeDiff, Nat.reduceMul, Nat.reduceLT, Int.reduceEq, Int.reduceLT, Int.reduceLE, g2, g3]
            simp only [validH, hv, hw, e1, Bool.true_and]
            exact congrArg B (decide_eq_decide.2 (by omega))
theorem c_faultsIn (t : List Class) (cl : Bool) (h : List Fault) (cl' : Bool) (l : List Int) (cl2 : Bool) (H : AHeap) (hn : namesOk t) (hl : h.length ≤ 1000000) : ACalls Tryz.prog 54 [aTree t cl, aHeap h cl', .vsl (l.map rI) cl2] H fun r H' => r = B (validH t h && l.all fun f => inR f 0 (h.length - 1)) ∧ H' = H := by
  refine acalls_of0 Tryz.func54 rfl (by kernel_rfl) rfl rfl (awp_sound (fz := fun _ => []) (im := fun s => s == 3 || s == 4) mixed _ _ _ _ (by kernel_rfl) ?_)
  simp +contextual -dsimp -implicitDefEqProofs (maxSteps := 5000000) only [go_sem, reduceIte, reduceCtorEq, Nat.reduceEqDiff, Nat.reduceBEq, Nat.reduceAdd, Nat.reduceLeDiff, Nat.reduceMul, Nat.reduceLT, Int.reduceEq, Int.reduceLT, Int.reduceLE]
  refine (c_ValidHeap t cl h cl' _ hn hl).det ?_
  cases e1 : validH t h
  · simp +contextual -dsimp -implicitDefEqProofs (maxSteps := 5000000) only [go_sem, reduceIte, reduceCtorEq, Nat.reduceEqDiff, Nat.reduceBEq, Nat.reduceAdd, Nat.reduceLeDiff, Nat.reduceMul, Nat.reduceLT, Int.reduceEq, Int.reduceLT, Int.reduceLE]
  · simp +contextual -dsimp -implicitDefEqProofs (maxSteps := 5000000) only [go_sem, reduceIte, reduceCtorEq, Nat.reduceEqDiff, Nat.reduceBEq, Nat.reduceAdd, Nat.reduceLeDiff, Nat.reduceMul, Nat.reduceLT, Int.reduceEq, Int.reduceLT, Int.reduceLE]
    refine (c_ContainsFuncInt l cl2 _ _ (fun f => !inR f 0 (h.length - 1)) _ (fun c => c_faultsIn1 h cl' c _)).det ?_
    simp +contextual -dsimp -implicitDefEqProofs (maxSteps := 5000000) only [go_sem, reduceIte, reduceCtorEq, Nat.reduceEqDiff, Nat.reduceBEq, Nat.reduceAdd, Nat.reduceLeDiff, Nat.reduceMul, Nat.reduceLT, Int.reduceEq, Int.reduceLT, Int.reduceLE]
    congr 1
    rw [Bool.eq_iff_iff]
    simp
theorem c_goodFault (t : List Class) (cl : Bool) (h : List Fault) (cl' : Bool) (f : Int) (H : AHeap) (hn : namesOk t) (hl : h.length ≤ 1000000) : ACalls Tryz.prog 60 [aTree t cl, aHeap h cl', I f] H fun r H' => r = B (validH t h && inR f 0 (h.length - 1)) ∧ H' = H := by
  refine acalls_of0 Tryz.func60 rfl (by kernel_rfl) rfl rfl (awp_sound (fz := fun _ => []) (im := fun s => s == 3 || s == 4) mixed _ _ _ _ (by kernel_rfl) ?_)
  simp +contextual -dsimp -implicitDefEqProofs (maxSteps := 5000000) only [go_sem, reduceIte, reduceCtorEq, Nat.reduceEqDiff, Nat.reduceBEq, Nat.reduceAdd, Nat.reduceLeDiff, Nat.reduceMul, Nat.reduceLT, Int.reduceEq, Int.reduceLT, Int.reduceLE]
  refine (c_validHeap t cl h cl' _ hn hl).det ?_
  cases e1 : validH t h
  · simp +contextual -dsimp -implicitDefEqProofs (maxSteps := 5000000) only [go_sem, reduceIte, reduceCtorEq, Nat.reduceEqDiff, Nat.reduceBEq, Nat.reduceAdd, Nat.reduceLeDiff, Nat.reduceMul, Nat.reduceLT, Int.reduceEq, Int.reduceLT, Int.reduceLE]
  · simp +contextual -dsimp -implicitDefEqProofs (maxSteps := 5000000) only [go_sem, reduceIte, reduceCtorEq, Nat.reduceEqDiff, Nat.reduceBEq, Nat.reduceAdd, Nat.reduceLeDiff, Nat.reduceMul, Nat.reduceLT, Int.reduceEq, Int.reduceLT, Int.reduceLE]
    refine (c_hasFault h cl' f _).det ?_
    simp +contextual -dsimp -implicitDefEqProofs (maxSteps := 5000000) only [go_sem, reduceIte, reduceCtorEq, Nat.reduceEqDiff, Nat.reduceBEq, Nat.reduceAdd, Nat.reduceLeDiff, Nat.reduceMul, Nat.reduceLT, Int.reduceEq, Int.reduceLT, Int.reduceLE]
end
section
open Go Go.Sim
set_option maxRecDepth 100000

theorem getD_app {α : Type} {a b : List α} {d : α} {i : Nat} (h : i < a.length) : (a ++ b).getD i d = a.getD i d := by
  rw [List.getD_eq_getElem?_getD, List.getD_eq_getElem?_getD, List.getElem?_append_left h]
theorem walkG_step {nx : Int → Int} : ∀ (n : Nat) (out : List Int) (f : Int), (∀ i, i + 1 < out.length → out.getD (i + 1) default = nx (out.getD i default)) → (∀ i, i + 1 = out.length → nx (out.getD i default) = f) →
    ∀ i, i + 1 < (walkG nx n out f).length → (walkG nx n out f).getD (i + 1) default = nx ((walkG nx n out f).getD i default)
  | 0, out, f, h, _, i, hi => h i hi
  | n + 1, out, f, h, h2, i, hi => by
    simp only [walkG] at hi ⊢
    by_cases c : 0 ≤ f ∧ (out.any fun x => decide (f = x)) = false
    · rw [if_pos c] at hi ⊢
      refine walkG_step n (out ++ [f]) (nx f) ?_ ?_ i hi
      · intro j hj
        rw [List.length_append, List.length_singleton] at hj
        rcases Nat.lt_or_ge (j + 1) out.length with q | q
        · rw [getD_app q, getD_app (show j < out.length by omega)]
          exact h j q
        · have e : j + 1 = out.length := by omega
          rw [getD_app (show j < out.length by omega), h2 j e, e]
          simp [List.getD_eq_getElem?_getD]
      · intro j hj
        rw [List.length_append, List.length_singleton] at hj
        have e : j = out.length := by omega
        subst e
        simp [List.getD_eq_getElem?_getD]
    · rw [if_neg c] at hi ⊢
      exact h i hi
theorem walkG_pre {nx : Int → Int} : ∀ (n : Nat) (out : List Int) (f : Int) (i : Nat), i < out.length → (walkG nx n out f).getD i default = out.getD i default
  | 0, out, f, i, hi => rfl
  | n + 1, out, f, i, hi => by
    simp only [walkG]
    split
    · rw [walkG_pre n (out ++ [f]) (nx f) i (by simp; omega), getD_app hi]
    · rfl
theorem chain_step {h : List Fault} {g : Int} {i : Nat} (hi : i + 1 < (chainF h g).length) : (chainF h g).getD (i + 1) default = ctxOf h ((chainF h g).getD i default) :=
  walkG_step (h.length + 1) [] g (fun i q => by simp at q) (fun i q => by simp at q) i hi
theorem chain_head {h : List Fault} {g : Int} (h0 : 0 ≤ g) : (chainF h g).getD 0 default = g := by
  unfold chainF walkF
  simp only [walkG]
  rw [if_pos ⟨h0, rfl⟩, walkG_pre _ _ _ 0 (by simp)]
  rfl
/-- Contexts of faults that come to an end. -/
structure Calm (h : List Fault) : Prop where
  ctx : ∀ k, k < h.length → -1 ≤ (h.getD k default).ctx ∧ (h.getD k default).ctx < h.length
  last : ∀ k, k < h.length → lastOk h k = true
theorem Calm.at {h : List Fault} (hc : Calm h) {g : Int} (h0 : 0 ≤ g) (hg : g < h.length) {i : Nat} (hi : i < (chainF h g).length) : (i + 1 < (chainF h g).length ∧ 0 ≤ ctxOf h ((chainF h g).getD i default)) ∨ (i + 1 = (chainF h g).length ∧ ctxOf h ((chainF h g).getD i default) = -1) := by
  rcases Nat.lt_or_ge (i + 1) (chainF h g).length with q | q
  · left
    refine ⟨q, ?_⟩
    rw [← chain_step q, List.getD_eq_getElem?_getD, List.getElem?_eq_getElem q]
    exact (chainF_in (fun k hk => (hc.ctx k hk).2) hg (List.getElem_mem q)).1
  · right
    have e : i + 1 = (chainF h g).length := by omega
    refine ⟨e, ?_⟩
    have := hc.last g.toNat (by omega)
    rw [lastOk, decide_eq_true_eq, lastI, Int.toNat_of_nonneg h0, ← e] at this
    simpa using this
end
section
open Go Go.Sim
set_option maxRecDepth 100000

/-- In so many steps there is nothing more. -/
def EndsAt (nx : Int → Int) : Nat → Int → Prop
  | 0, a => a < 0
  | m + 1, a => 0 ≤ a ∧ EndsAt nx m (nx a)
theorem EndsAt.uniq {nx : Int → Int} : ∀ {m m' : Nat} {a : Int}, EndsAt nx m a → EndsAt nx m' a → m = m'
  | 0, 0, _, _, _ => rfl
  | 0, m' + 1, a, h, h' => by have := h'.1; simp only [EndsAt] at h; omega
  | m + 1, 0, a, h, h' => by have := h.1; simp only [EndsAt] at h'; omega
  | m + 1, m' + 1, a, h, h' => by rw [EndsAt.uniq h.2 h'.2]
def Ends (nx : Int → Int) (a : Int) : Prop := ∃ m, EndsAt nx m a
theorem Ends.neg {nx : Int → Int} {a : Int} (h : a < 0) : Ends nx a := ⟨0, h⟩
theorem Ends.step {nx : Int → Int} {a : Int} (h : Ends nx (nx a)) : Ends nx a := by
  obtain ⟨m, hm⟩ := h
  by_cases c : a < 0
  · exact .neg c
  · exact ⟨m + 1, by omega, hm⟩
theorem Ends.ind {nx : Int → Int} {p : Int → Prop} (h0 : ∀ a, a < 0 → p a) (h1 : ∀ a, 0 ≤ a → p (nx a) → p a) {a : Int} (h : Ends nx a) : p a := by
  obtain ⟨m, hm⟩ := h
  induction m generalizing a with
  | zero => exact h0 a hm
  | succ m ih => exact h1 a hm.1 (ih hm.2)
theorem walkG_end {nx : Int → Int} {n : Nat} (hnx : ∀ a : Int, 0 ≤ a → a < n → nx a < n) : ∀ (m fuel : Nat) (out : List Int) (f : Int), EndsAt nx m f → f < n → (∀ a ∈ out, ∃ m', m < m' ∧ EndsAt nx m' a) → freeN n out < fuel → (out ≠ [] → nx (lastI out) = f) → walkG nx fuel out f ≠ [] → nx (lastI (walkG nx fuel out f)) < 0
  | m, 0, out, f, _, _, _, hfr, _, _ => by omega
  | 0, fuel + 1, out, f, he, hf, ho, hfr, hl, hne => by
    have hf0 : f < 0 := he
    simp only [walkG] at hne ⊢
    rw [if_neg (by omega)] at hne ⊢
    rw [hl hne]; exact hf0
  | m + 1, fuel + 1, out, f, he, hf, ho, hfr, hl, hne => by
    have hany : (out.any fun x => decide (f = x)) = false := by
      rw [List.any_eq_false]
      intro a ha
      obtain ⟨m', h1, h2⟩ := ho a ha
      have : ¬ f = a := by
        rintro rfl
        have := he.uniq h2
        omega
      simpa using this
    simp only [walkG] at hne ⊢
    rw [if_pos ⟨he.1, hany⟩] at hne ⊢
    have := freeN_lt he.1 hf hany
    refine walkG_end hnx m fuel (out ++ [f]) (nx f) he.2 (hnx f he.1 hf) ?_ (by omega) ?_ hne
    · intro a ha
      rcases List.mem_append.1 ha with q | q
      · obtain ⟨m', h1, h2⟩ := ho a q
        exact ⟨m', by omega, h2⟩
      · simp at q; subst q
        exact ⟨m + 1, by omega, he⟩
    · intro _
      congr 1
      simp [lastI, List.getD_eq_getElem?_getD]
theorem Calm.of_ends {h : List Fault} (hc : ∀ k, k < h.length → -1 ≤ (h.getD k default).ctx ∧ (h.getD k default).ctx < h.length) (he : ∀ k : Nat, k < h.length → Ends (ctxOf h) k) : Calm h := by
  refine ⟨hc, fun k hk => ?_⟩
  obtain ⟨m, hm⟩ := he k hk
  have hne := chainF_ne (h := h) (g := k) (by omega)
  have hnx : ∀ a : Int, 0 ≤ a → a < h.length → ctxOf h a < h.length := fun a a0 a1 => (hc a.toNat (by omega)).2
  have := walkG_end hnx m (h.length + 1) [] k hm (by omega) (fun a ha => by cases ha) (by have := freeN_nil h.length; omega) (fun q => absurd rfl q) hne
  have hin := lastI_in (fun k hk => (hc k hk).2) (f := k) (by omega) (by omega)
  have h1 := hc (lastI (chainF h k)).toNat (by omega)
  rw [lastOk, decide_eq_true_eq]
  unfold ctxOf at this ⊢
  unfold chainF walkF at h1 ⊢
  unfold ctxOf at h1 ⊢
  omega
theorem Calm.ends {h : List Fault} (hc : Calm h) {k : Int} (h0 : 0 ≤ k) (hk : k < h.length) : Ends (ctxOf h) k := by
  have hne := List.length_pos_iff.2 (chainF_ne (h := h) h0)
  have key : ∀ j, j < (chainF h k).length → Ends (ctxOf h) ((chainF h k).getD ((chainF h k).length - 1 - j) default) := by
    intro j
    induction j with
    | zero =>
      intro hj
      rcases hc.at h0 hk (i := (chainF h k).length - 1 - 0) (by omega) with ⟨q, _⟩ | ⟨_, q⟩
      · omega
      · exact .step (.neg (by omega))
    | succ j ih =>
      intro hj
      have e : (chainF h k).length - 1 - j = ((chainF h k).length - 1 - (j + 1)) + 1 := by omega
      have := ih (by omega)
      rw [e, chain_step (by omega)] at this
      exact .step this
  have := key ((chainF h k).length - 1) (by omega)
  rw [Nat.sub_self, chain_head h0] at this
  exact this
end
section
open Go Go.Sim
set_option maxRecDepth 100000
theorem Calm.nil : Calm [] := ⟨fun k hk => by simp at hk, fun k hk => by simp at hk⟩
theorem Calm.same {h h' : List Fault} (hc : Calm h) (hl : h'.length = h.length) (hx : ∀ k, k < h.length → (h'.getD k default).ctx = (h.getD k default).ctx) : Calm h' := by
  have e : ∀ a : Int, 0 ≤ a → a < h.length → ctxOf h' a = ctxOf h a := fun a a0 a1 => hx a.toNat (by omega)
  refine .of_ends (fun k hk => ?_) (fun k hk => ?_)
  · rw [hl] at hk ⊢; rw [hx k hk]; exact hc.ctx k hk
  · rw [hl] at hk
    have := hc.ends (k := k) (by omega) (by omega)
    refine Ends.ind (p := fun a => a < h.length → Ends (ctxOf h') a) (fun a q _ => .neg q) (fun a a0 q q1 => .step ?_) this (by omega)
    rw [e a a0 q1]
    exact q (hc.ctx a.toNat (by omega)).2
theorem Calm.add {h : List Fault} (hc : Calm h) {x : Fault} (hx : x.ctx = -1) : Calm (h ++ [x]) := by
  have e1 : ∀ a : Int, 0 ≤ a → a < h.length → ctxOf (h ++ [x]) a = ctxOf h a := fun a a0 a1 => by unfold ctxOf; rw [getD_app (by omega)]
  have e2 : ctxOf (h ++ [x]) h.length = -1 := by unfold ctxOf; simp [List.getD_eq_getElem?_getD, hx]
  refine .of_ends (fun k hk => ?_) (fun k hk => ?_)
  · rw [List.length_append, List.length_singleton] at hk ⊢
    show -1 ≤ ctxOf (h ++ [x]) (k : Int) ∧ ctxOf (h ++ [x]) (k : Int) < ((h.length + 1 : Nat) : Int)
    rcases Nat.lt_or_ge k h.length with q | q
    · rw [e1 k (by omega) (by omega)]
      have := hc.ctx k q
      unfold ctxOf
      simp only [Int.toNat_natCast]
      omega
    · have : k = h.length := by omega
      subst this
      rw [e2]; omega
  · rw [List.length_append, List.length_singleton] at hk
    rcases Nat.lt_or_ge k h.length with q | q
    · have := hc.ends (k := k) (by omega) (by omega)
      refine Ends.ind (p := fun a => a < h.length → Ends (ctxOf (h ++ [x])) a) (fun a q _ => .neg q) (fun a a0 q q1 => .step ?_) this (by omega)
      rw [e1 a a0 q1]
      exact q (hc.ctx a.toNat (by omega)).2
    · have : k = h.length := by omega
      subst this
      exact .step (by rw [e2]; exact .neg (by omega))
end
section
open Go Go.Sim
set_option maxRecDepth 100000

def Links (h : List Fault) : Prop := ∀ k, k < h.length → (h.getD k default).cause < h.length ∧ (h.getD k default).ctx < h.length
theorem Nums.app {n : Nat} {out : List Int} (h : Nums n out) {g : Int} (h0 : 0 ≤ g) (hg : g < n) (ha : (out.any fun x => decide (g = x)) = false) : Nums n (out ++ [g]) := by
  have := h.add hg
  unfold addF at this
  rwa [if_pos ⟨h0, ha⟩] at this
end
end
section
set_option maxRecDepth 100000
attribute [local go_sem ↓] aw_skip aw_ret aw_exit aw_region aw_draw aw_seq aw_block aw_loop aw_cond frz_nil frz_cons sq_normal sq_ret sq_exit exB_normal exB_ret exB_same exB_other retQ_ret retQ_normal ret0_ret ret0_normal ao_nil go1 g_move g_assign g_pick g_build g_load g_binOp g_unOp g_convert g_fieldAddr g_field g_indexAddr g_index g_extract g_lookup g_slice g_nilCheck g_len g_makeFunc h_call h_append h_alloc h_box h_buildSlice h_makeSlice h_store gV i_box i_buildSlice i_move i_assign i_build i_load i_binOp i_unOp i_convert i_fieldAddr i_field i_indexAddr i_index i_extract i_lookup i_makeMap i_mapUpdate i_slice i_nilCheck i_makeFunc i_len i_max i_min i_alloc i_makeSlice i_store i_append i_call i_pick boxI boxA buildSliceI buildSliceA makeSliceA makeMapA allocA storeA p_move p_assign p_pick p_build p_load p_binOp p_unOp p_convert p_fieldAddr p_field p_indexAddr p_index p_extract p_lookup p_makeMap p_mapUpdate p_slice p_nilCheck p_makeFunc p_len p_max p_min p_alloc p_box p_buildSlice p_makeSlice p_store p_append p_call x_nil x_go1 x_g0 x_g1 x_g2 x_g3 x_s0 x_s1 x_s2 x_s3 u_move u_assign u_pick u_build u_load u_binOp u_unOp u_convert u_fieldAddr u_field u_indexAddr u_index u_extract u_lookup u_slice u_nilCheck u_makeFunc u_len u_buildSlice
attribute [local go_sem] frzV_ptr frzV_sl frzK_some set_none set_other AHeap.set_self set_del set_set cnd_t cnd_f cnd_b retA_one retA_two retA_three retA_four retA_nil gIf_b mrgV_b mrgV_wh mrgV_U gIf_U gIf_wh mrgB_f mrgB_some mrgB_if wh_true wh_false keepA_some keepA_if gD_zero gD_succ gT_some bxA_t bxA_f callA_fn ev_tmp ev_const ev_global ev_func oc_bool oc_int oc_string oc_nil oc_nilptr oc_nilfunc cl_bool cl_int cl_string cl_nil updO_some updO_none upd_same upd_other init_at pickA_b pickA_wh selA_t selA_f selA_and selA_or selA_orn selA_orm selA_bb selA_ii beqt b_add b_sub b_mul b_and b_or b_xor b_eql b_neq b_lss b_leq b_gtr b_geq b_quo b_rem b_shr b_seql b_sneq b_sadd b_beql b_bneq b_aeql b_aneq u_not u_neg isConstOp eqA eqCellV List.getD_cons_zero List.getD_cons_succ List.map_cons List.map_nil List.nil_append List.cons_append List.append_nil if_true if_false Option.map_some Option.map_none ne_eq not_false_eq_true oneA ldv ld1v ld1s wr1s ldRow stRow row_lit row_agg row_vsl row_sl row_ptr row_fn one_I one_B one_S one_vsl one_sl one_ptr one_fn extractA okA rI rS rU rClass rFault rExit rStart rLine Int.toNat_natCast List.length_cons List.length_nil List.length_map List.all_cons List.all_nil Bool.and_true Nat.zero_add List.getElem?_cons_zero List.getElem?_cons_succ List.take_succ_cons List.take_zero List.drop_succ_cons List.drop_zero and_self true_and and_true implies_true decide_eq_true_eq decide_eq_false_iff_not Bool.or_eq_true Bool.or_eq_false_iff Bool.and_eq_true Bool.not_eq_true' Bool.not_eq_false' beq_false decide_true decide_false Int.ofNat_lt Int.ofNat_le Int.natCast_nonneg Bool.or_true Bool.or_false Bool.true_or Bool.false_or beq_self_eq_true List.drop_one Bool.not_true Bool.not_false Bool.not_not Bool.false_eq_true Bool.true_eq_false false_implies true_implies Bool.true_and Bool.false_and Bool.and_false not_true_eq_false Int.natCast_eq_zero Int.natCast_pos Int.natCast_zero false_and and_false or_false false_or or_true true_or Bool.or_self none_le_iff List.replicate_zero Int.toNat_zero List.replicate_succ buildRows List.set_cons_zero List.set_cons_succ List.set_nil List.mapM_nil maxLen_eq Nat.zero_le Nat.mul_one Nat.one_mul bldA fillA spliceA List.take_nil List.drop_nil List.getElem?_nil ld1o wr1o bldSliceA le_same ti1 ti2 tk2 ti3 te3 ts3 tk3 tz3 ti4 tb4 ti5 tk5 tz5 ti9 te9 ts9 tk9 tz9 ti12 tk12 ti13 tp13 tf13_0 tf13_1 ti20 ti21 tk21 tz21 ti22 te22 tz22 ti23 te23 ti24 tp24 tf24_0 ti25 tp25 tf25_0 ti26 te26 ti28 ti29 te29 ti30 te30 ti31 tp31 tf31_0 ti32 tp32 tf32_0 ti33 tp33 tf33_0 tf33_1 tf33_2 tf33_3 ti34 tp34 tf34_0 tf34_1 tf34_2 tf34_3 ti35 ti36 ti37 ti38 ti40 ti42 ti43 ti44 tq44 tp44 tf44_0 tf44_1 tf44_2 ti45 tq45 tp45 tf45_0 tf45_1 tf45_2 ti47 ti48 ti49 tq49 tp49 tf49_0 tf49_1 tf49_2 tf49_3 ti50 tq50 tp50 tf50_0 tf50_1 tf50_2 tf50_3 ti51 ti52 ti54 ti55 ti56 ti57 te57 ti59 ti60 ti61 ti62 ti63 ti64 ti65 ti66 ti67 ti68 tq68 tp68 tf68_0 tf68_1 ti69 tq69 tp69 tf69_0 tf69_1 ti70 ti71 ti72 ti73 ti74 ti75 ti77 ti78 ti79 ti80 ti81 ti82 ti83 ti84 ti85 tq85 tp85 tf85_0 tf85_1 tf85_2 tf85_3 tf85_4 ti86 tq86 tp86 tf86_0 tf86_1 tf86_2 tf86_3 tf86_4 ti87 ti88 ti89 ti90 ti91 ti93 ti94 ti95 ti96 ti97 tq97 tp97 tf97_0 tf97_1 tf97_2 ti98 tq98 tp98 tf98_0 tf98_1 tf98_2 ti99 ti100 ti101 ti102 ti103 ti104 ti105 ti106 ti107 tp107 tf107_0 tf107_1 ti108 tp108 tf108_0 tf108_1 ti109 tp109 tf109_0 tf109_1 tf109_2 tf109_3 tf109_4 ti110 tp110 tf110_0 tf110_1 tf110_2 tf110_3 tf110_4 ti111 ti113 ti114 ti115 ti116 ti117 ti118 ti119 ti120 tp120 tf120_0 tf120_1 tf120_2 tf120_3 ti121 tp121 tf121_0 tf121_1 tf121_2 tf121_3 ti122 tq122 tp122 tf122_0 tf122_1 ti123 tq123 tp123 tf123_0 tf123_1 ti124 ti125 ti126 tq126 tp126 tf126_0 tf126_1 ti127 tq127 tp127 tf127_0 tf127_1 ti128 ti129 ti130 ti131 ti132 ti133 te133 ti134 ti135 ti136 ti137 ti138 ti139 ti140 ti141 ti142 ti143 ti144 tp144 tf144_0 tf144_1 tf144_2 ti145 tp145 tf145_0 tf145_1 tf145_2 ti146 ti147 ti148 ti149 ti150 te150 ti151 ti152 ti153 ti154 ti155 ti156 ti157 ti158 ti159 ti160 ti161 ti162 ti163 ti164 ti165 ti166 ti167 ti168 ti169 ti170 ti171 ti172 ti173 ti174 ti175 tk175 tz175 ti176 ti177 ti178 ti179 ti180 tk180 ti182 ti183 ti184 ti186 ti187 ti188 tk188 tz188 ti189 ti190 tk190 tz190 ti191 tk191 ti192 ti193 ti194 ti195 ti196 ti197 ti199 ti200 ti206 ti210 ti215 fp13_0 fv13_0 fp13_1 fv13_1 fp24_0 fv24_0 fp25_0 fv25_0 fp31_0 fv31_0 fp32_0 fv32_0 fp33_0 fv33_0 fp33_1 fv33_1 fp33_2 fv33_2 fp33_3 fv33_3 fp34_0 fv34_0 fp34_1 fv34_1 fp34_2 fv34_2 fp34_3 fv34_3 fp44_0 fv44_0 fp44_1 fv44_1 fp44_2 fv44_2 fp45_0 fv45_0 fp45_1 fv45_1 fp45_2 fv45_2 fp49_0 fv49_0 fp49_1 fv49_1 fp49_2 fv49_2 fp49_3 fv49_3 fp50_0 fv50_0 fp50_1 fv50_1 fp50_2 fv50_2 fp50_3 fv50_3 fp68_0 fv68_0 fp68_1 fv68_1 fp69_0 fv69_0 fp69_1 fv69_1 fp85_0 fv85_0 fp85_1 fv85_1 fp85_2 fv85_2 fp85_3 fv85_3 fp85_4 fv85_4 fp86_0 fv86_0 fp86_1 fv86_1 fp86_2 fv86_2 fp86_3 fv86_3 fp86_4 fv86_4 fp97_0 fv97_0 fp97_1 fv97_1 fp97_2 fv97_2 fp98_0 fv98_0 fp98_1 fv98_1 fp98_2 fv98_2 fp107_0 fv107_0 fp107_1 fv107_1 fp108_0 fv108_0 fp108_1 fv108_1 fp109_0 fv109_0 fp109_1 fv109_1 fp109_2 fv109_2 fp109_3 fv109_3 fp109_4 fv109_4 fp110_0 fv110_0 fp110_1 fv110_1 fp110_2 fv110_2 fp110_3 fv110_3 fp110_4 fv110_4 fp120_0 fv120_0 fp120_1 fv120_1 fp120_2 fv120_2 fp120_3 fv120_3 fp121_0 fv121_0 fp121_1 fv121_1 fp121_2 fv121_2 fp121_3 fv121_3 fp122_0 fv122_0 fp122_1 fv122_1 fp123_0 fv123_0 fp123_1 fv123_1 fp126_0 fv126_0 fp126_1 fv126_1 fp127_0 fv127_0 fp127_1 fv127_1 fp144_0 fv144_0 fp144_1 fv144_1 fp144_2 fv144_2 fp145_0 fv145_0 fp145_1 fv145_1 fp145_2 fv145_2 lv22 ll22 is22 ix22 sh22 so22 sb22 sm22 sp22 lv23 ll23 is23 ix23 sh23 so23 sb23 sm23 sp23 lv26 ll26 is26 ix26 sh26 so26 sb26 sm26 sp26 lv29 ll29 is29 ix29 sh29 so29 sb29 sm29 sp29 lv30 ll30 is30 ix30 sh30 so30 sb30 sm30 sp30 lv57 ll57 is57 ix57 sh57 so57 sb57 sm57 sp57 lv133 ll133 is133 sp133 lv150 ll150 is150 ix150 sh150 so150 sb150 sm150 sp150 xs9 ls9 sx9 sy9 sz9
section
open Go Go.Sim
set_option maxRecDepth 100000
theorem Nums.nil (n : Nat) : Nums n [] where
  mem a ha := absurd ha (List.not_mem_nil)
  free := by have := freeN_nil n; simpa using this
end
section
open Go Go.Sim
set_option maxRecDepth 100000

def insR : List Int → Int → List Int
  | [], v => [v]
  | b :: out, v => if b < v then b :: insR out v else if b = v then b :: out else v :: b :: out
theorem insF_eq : ∀ (out : List Int) (v : Int), insF out v = insR out v
  | [], v => by simp [insF, insR, insK]
  | b :: out, v => by
    have ih := insF_eq out v
    unfold insR
    by_cases c : b < v
    · rw [if_pos c, ← ih]
      have hk : insK (b :: out) v = insK out v + 1 := by simp [insK, List.takeWhile_cons, c]
      unfold insF
      rw [hk]
      simp only [List.length_cons, List.getD_cons_succ, List.take_succ_cons, List.drop_succ_cons, Nat.add_right_cancel_iff]
      split <;> simp
    · rw [if_neg c]
      have hk : insK (b :: out) v = 0 := by simp [insK, List.takeWhile_cons, c]
      unfold insF
      rw [hk]
      by_cases e : b = v
      · rw [if_pos e, if_neg (by simp [e])]
      · rw [if_neg e, if_pos (by right; simpa using e)]
        simp
theorem insR_mem : ∀ {out : List Int} {v a : Int}, a ∈ insR out v ↔ a = v ∨ a ∈ out
  | [], v, a => by simp [insR]
  | b :: out, v, a => by
    unfold insR
    split
    · rw [List.mem_cons, insR_mem, List.mem_cons]
      constructor
      · rintro (q | q | q) <;> simp [q]
      · rintro (q | q | q) <;> simp [q]
    · split
      · rename_i e; subst e; simp
      · simp
theorem insR_asc : ∀ {out : List Int} {v : Int}, out.Pairwise (· < ·) → (insR out v).Pairwise (· < ·)
  | [], v, _ => by simp [insR]
  | b :: out, v, h => by
    obtain ⟨h1, h2⟩ := List.pairwise_cons.1 h
    unfold insR
    split
    · rename_i c
      refine .cons (fun a ha => ?_) (insR_asc h2)
      rcases insR_mem.1 ha with q | q
      · omega
      · exact h1 a q
    · split
      · exact h
      · rename_i c e
        refine .cons (fun a ha => ?_) h
        rcases List.mem_cons.1 ha with q | q
        · omega
        · have := h1 a q; omega
theorem fold_asc : ∀ (l out : List Int), out.Pairwise (· < ·) → (l.foldl insF out).Pairwise (· < ·) ∧ ∀ a, a ∈ l.foldl insF out ↔ a ∈ out ∨ a ∈ l
  | [], out, h => ⟨h, fun a => by simp⟩
  | v :: l, out, h => by
    rw [List.foldl_cons, insF_eq]
    obtain ⟨h1, h2⟩ := fold_asc l (insR out v) (insR_asc h)
    refine ⟨h1, fun a => ?_⟩
    rw [h2, insR_mem, List.mem_cons]
    constructor
    · rintro ((q | q) | q) <;> simp [q]
    · rintro (q | q | q) <;> simp [q]
theorem sortedF_asc (l : List Int) : (sortedF l).Pairwise (· < ·) := (fold_asc l [] .nil).1
theorem sortedF_iff {l : List Int} {a : Int} : a ∈ sortedF l ↔ a ∈ l := by
  have := (fold_asc l [] .nil).2 a
  simpa [sortedF] using this
/-- Numbers sorted, each once: told by what is in them. -/
theorem sort_ext {l m : List Int} (hl : l.Nodup) (h : ∀ a, a ∈ l ↔ a ∈ m) : sortI l = sortedF m := by
  have s1 : (sortI l).Pairwise (fun a b => a ≤ b) := by
    have := List.pairwise_mergeSort (le := fun x y : Int => decide (x ≤ y)) (fun a b c h1 h2 => by simp at *; omega) (fun a b => by simp; omega) l
    exact this.imp (fun h => by simpa using h)
  have a2 := sortedF_asc m
  have s2 : (sortedF m).Pairwise (fun a b => a ≤ b) := a2.imp (fun h => by omega)
  have n2 : (sortedF m).Nodup := a2.imp (fun h => by omega)
  have n1 : (sortI l).Nodup := (List.mergeSort_perm l _).nodup_iff.2 hl
  have pm : (sortI l).Perm (sortedF m) := (List.perm_ext_iff_of_nodup n1 n2).2 fun a => by rw [sortI_mem, sortedF_iff, h]
  exact pm.eq_of_pairwise (fun a b _ _ h1 h2 => by omega) s1 s2
/-- What a fault reaches. -/
inductive Rch (h : List Fault) (f : Int) : Int → Prop where
  | refl : Rch h f f
  | cause {a : Int} : Rch h f a → 0 ≤ causeOf h a → Rch h f (causeOf h a)
  | ctx {a : Int} : Rch h f a → 0 ≤ ctxOf h a → Rch h f (ctxOf h a)
theorem addF_mem {out : List Int} {g a : Int} : a ∈ addF out g ↔ a ∈ out ∨ (a = g ∧ 0 ≤ g) := by
  unfold addF
  by_cases c : 0 ≤ g ∧ (out.any fun x => decide (g = x)) = false
  · rw [if_pos c, List.mem_append, List.mem_singleton]
    constructor
    · rintro (q | q)
      · exact .inl q
      · exact .inr ⟨q, c.1⟩
    · rintro (q | q)
      · exact .inl q
      · exact .inr q.1
  · rw [if_neg c]
    refine ⟨.inl, ?_⟩
    rintro (q | ⟨rfl, q⟩)
    · exact q
    · have : ¬ (out.any fun x => decide (a = x)) = false := fun e => c ⟨q, e⟩
      simpa using this
theorem addF_nodup {out : List Int} {g : Int} (h : out.Nodup) : (addF out g).Nodup := by
  unfold addF
  split
  · rename_i c
    rw [List.nodup_append]
    refine ⟨h, by simp, fun a ha b hb => ?_⟩
    simp at hb; subst hb
    rintro rfl
    have := c.2
    rw [List.any_eq_false] at this
    exact this a ha (by simp)
  · exact h
theorem bfsG_clos {h : List Fault} (hlk : Links h) (f : Int) : ∀ (n i : Nat) (out : List Int), Nums h.length out → out.Nodup → h.length ≤ i + n → (∀ a ∈ out, Rch h f a) →
    (∀ j, j < i → j < out.length → (0 ≤ causeOf h (out.getD j default) → causeOf h (out.getD j default) ∈ out) ∧ (0 ≤ ctxOf h (out.getD j default) → ctxOf h (out.getD j default) ∈ out)) →
    (∀ a ∈ out, a ∈ bfsG h n i out) ∧ (bfsG h n i out).Nodup ∧ (∀ a ∈ bfsG h n i out, Rch h f a) ∧ (∀ a ∈ bfsG h n i out, (0 ≤ causeOf h a → causeOf h a ∈ bfsG h n i out) ∧ (0 ≤ ctxOf h a → ctxOf h a ∈ bfsG h n i out)) := by
  have stop : ∀ (i : Nat) (out : List Int), out.length ≤ i → (∀ j, j < i → j < out.length → (0 ≤ causeOf h (out.getD j default) → causeOf h (out.getD j default) ∈ out) ∧ (0 ≤ ctxOf h (out.getD j default) → ctxOf h (out.getD j default) ∈ out)) →
      ∀ a ∈ out, (0 ≤ causeOf h a → causeOf h a ∈ out) ∧ (0 ≤ ctxOf h a → ctxOf h a ∈ out) := by
    intro i out hi hj a ha
    obtain ⟨j, hj1, rfl⟩ := List.mem_iff_getElem.1 ha
    have := hj j (by omega) hj1
    simpa [List.getD_eq_getElem?_getD, hj1] using this
  intro n
  induction n with
  | zero =>
    intro i out hn hd hl hr hj
    have := hn.free
    exact ⟨fun a ha => ha, hd, hr, stop i out (by omega) hj⟩
  | succ n ih =>
    intro i out hn hd hl hr hj
    simp only [bfsG]
    by_cases c : i < out.length
    · rw [if_pos c]
      have hm : out.getD i default ∈ out := by rw [List.getD_eq_getElem?_getD, List.getElem?_eq_getElem c]; exact List.getElem_mem c
      have hmm := hn.mem _ hm
      have hk := hlk (out.getD i default).toNat (by omega)
      have hri := hr _ hm
      generalize hg : out.getD i default = v at hm hmm hk hri
      have hN := (hn.add (g := causeOf h v) hk.1).add (g := ctxOf h v) hk.2
      have keep : ∀ a ∈ out, a ∈ addF (addF out (causeOf h v)) (ctxOf h v) := fun a ha => addF_mem.2 (.inl (addF_mem.2 (.inl ha)))
      have pre : ∀ (o : List Int) (g : Int) (j : Nat), j < o.length → (addF o g).getD j default = o.getD j default := by
        intro o g j hjo
        unfold addF
        split
        · rw [getD_app hjo]
        · rfl
      have l1 := addF_len out (causeOf h v)
      obtain ⟨b1, b2, b3, b4⟩ := ih (i + 1) (addF (addF out (causeOf h v)) (ctxOf h v)) hN (addF_nodup (addF_nodup hd)) (by omega) (fun a ha => by
        rcases addF_mem.1 ha with q | ⟨e, q⟩
        · rcases addF_mem.1 q with q1 | ⟨e1, q1⟩
          · exact hr a q1
          · rw [e1]; exact .cause hri q1
        · rw [e]; exact .ctx hri q) (fun j hj1 hj2 => by
        have hjo : j < out.length := by omega
        rw [pre _ _ j (by omega), pre _ _ j hjo]
        by_cases e : j = i
        · subst e
          rw [hg]
          exact ⟨fun q => addF_mem.2 (.inl (addF_mem.2 (.inr ⟨rfl, q⟩))), fun q => addF_mem.2 (.inr ⟨rfl, q⟩)⟩
        · have := hj j (by omega) hjo
          exact ⟨fun q => keep _ (this.1 q), fun q => keep _ (this.2 q)⟩)
      exact ⟨fun a ha => b1 a (keep a ha), b2, b3, b4⟩
    · rw [if_neg c]
      exact ⟨fun a ha => ha, hd, hr, stop i out (by omega) hj⟩
theorem bfsF_iff {h : List Fault} (hlk : Links h) {f : Int} (h0 : 0 ≤ f) (hf : f < h.length) : (bfsF h f).Nodup ∧ ∀ a, a ∈ bfsF h f ↔ Rch h f a := by
  obtain ⟨b1, b2, b3, b4⟩ := bfsG_clos hlk f (h.length + 1) 0 [f] (Nums.one h0 hf) (by simp) (by omega) (fun a ha => by simp at ha; subst ha; exact .refl) (fun j hj => by omega)
  refine ⟨b2, fun a => ⟨b3 a, fun r => ?_⟩⟩
  induction r with
  | refl => exact b1 f (by simp)
  | cause _ q ih => exact (b4 _ ih).1 q
  | ctx _ q ih => exact (b4 _ ih).2 q
end
section
open Go Go.Sim
set_option maxRecDepth 100000

theorem validH_all {t : List Class} {h : List Fault} (hv : validH t h = true) : (List.range h.length).all (faultOk t h) = true ∧ (List.range h.length).all (lastOk h) = true ∧ validT t = true ∧ h.length ≤ 24 := by
  simpa only [validH, Bool.and_eq_true, decide_eq_true_eq] using hv
theorem validH_cls {t : List Class} {h : List Fault} (hv : validH t h = true) : ∀ k, k < h.length → 0 ≤ (h.getD k default).cls ∧ (h.getD k default).cls < t.length ∧ 0 ≤ (h.getD k default).code ∧ (h.getD k default).code < 100 := fun k hk => by
  have := (List.all_eq_true.1 (validH_all hv).1) k (by simp [hk])
  simp only [faultOk, hasF, inR, Bool.and_eq_true, decide_eq_true_eq] at this
  omega
theorem inR_len {f : Int} {n : Nat} : inR f 0 (n - 1) = true ↔ 0 ≤ f ∧ f < n := by
  simp only [inR, Bool.and_eq_true, decide_eq_true_eq]; omega
end
section
open Go Go.Sim
set_option maxRecDepth 100000

/-- Where a number stands in a list; -1 if it does not. -/
def posF (S : List Int) (a : Int) : Int := idxF (fun x => decide (a = x)) S
theorem posF_mem {S : List Int} {a : Int} (h : a ∈ S) : 0 ≤ posF S a ∧ posF S a < S.length ∧ S.getD (posF S a).toNat default = a := by
  unfold posF
  induction S with
  | nil => cases h
  | cons b S ih =>
    simp only [idxF]
    by_cases e : a = b
    · rw [if_pos (by simpa using e)]
      refine ⟨by omega, by simp only [List.length_cons]; omega, ?_⟩
      show (b :: S).getD 0 default = a
      rw [List.getD_cons_zero, e]
    · have hm : a ∈ S := by
        rcases List.mem_cons.1 h with q | q
        · exact absurd q e
        · exact q
      obtain ⟨i1, i2, i3⟩ := ih hm
      rw [if_neg (by simpa using e), if_neg (by omega)]
      refine ⟨by omega, by simp only [List.length_cons]; omega, ?_⟩
      have : (idxF (fun x => decide (a = x)) S + 1).toNat = (idxF (fun x => decide (a = x)) S).toNat + 1 := by omega
      rw [this, List.getD_cons_succ, i3]
theorem posF_none {S : List Int} {a : Int} (h : a ∉ S) : posF S a = -1 := by
  unfold posF
  rw [idxF_neg, List.any_eq_false]
  intro x hx
  have : ¬ a = x := by rintro rfl; exact h hx
  simpa using this
theorem posF_inj {S : List Int} {a b : Int} (ha : a ∈ S) (hb : b ∈ S) (h : posF S a = posF S b) : a = b := by
  have h1 := (posF_mem ha).2.2
  have h2 := (posF_mem hb).2.2
  rw [h] at h1
  rw [← h1, h2]
theorem posF_at {S : List Int} (hd : S.Nodup) {k : Nat} (hk : k < S.length) : posF S (S.getD k default) = k := by
  have hm : S.getD k default ∈ S := by rw [List.getD_eq_getElem?_getD, List.getElem?_eq_getElem hk]; exact List.getElem_mem hk
  obtain ⟨h1, h2, h3⟩ := posF_mem hm
  obtain ⟨j, hj⟩ : ∃ j : Nat, posF S (S.getD k default) = j := ⟨(posF S (S.getD k default)).toNat, by omega⟩
  rw [hj] at h1 h2 h3 ⊢
  have hj2 : j < S.length := by omega
  rw [Int.toNat_natCast, List.getD_eq_getElem?_getD, List.getD_eq_getElem?_getD, List.getElem?_eq_getElem hj2, List.getElem?_eq_getElem hk] at h3
  have h4 : S[j] = S[k] := by simpa using h3
  rcases Nat.lt_trichotomy j k with q | q | q
  · exact absurd h4 ((List.pairwise_iff_getElem.1 hd) j k hj2 hk q)
  · omega
  · exact absurd h4.symm ((List.pairwise_iff_getElem.1 hd) k j hk hj2 q)
theorem isoL_len (h : List Fault) (S : List Int) : (isoL h S).length = S.length := by simp [isoL]
theorem isoL_at {h : List Fault} {S : List Int} {k : Nat} (hk : k < S.length) : (isoL h S).getD k default = isoAt h S (S.getD k default) := by
  simp [isoL, List.getD_eq_getElem?_getD, hk]
theorem iso_cause {h : List Fault} {S : List Int} {a : Int} (ha : a ∈ S) : causeOf (isoL h S) (posF S a) = posF S (causeOf h a) := by
  obtain ⟨h1, h2, h3⟩ := posF_mem ha
  unfold causeOf
  rw [isoL_at (by omega), h3]
  rfl
theorem iso_ctx {h : List Fault} {S : List Int} {a : Int} (ha : a ∈ S) : ctxOf (isoL h S) (posF S a) = posF S (ctxOf h a) := by
  obtain ⟨h1, h2, h3⟩ := posF_mem ha
  unfold ctxOf
  rw [isoL_at (by omega), h3]
  rfl
theorem walk_iso {S : List Int} {n : Nat} (hS : ∀ a ∈ S, 0 ≤ a ∧ a < n) {nx nx' : Int → Int} (hnx : ∀ a ∈ S, nx a ∈ S ∨ nx a < 0) (hiso : ∀ a ∈ S, nx' (posF S a) = posF S (nx a)) :
    ∀ (fuel fuel' : Nat) (out : List Int) (f : Int), (f ∈ S ∨ f < 0) → (∀ a ∈ out, a ∈ S) → freeN n out < fuel → freeN S.length (out.map (posF S)) < fuel' → walkG nx' fuel' (out.map (posF S)) (posF S f) = (walkG nx fuel out f).map (posF S)
  | 0, fuel', out, f, _, _, h1, _ => by omega
  | fuel + 1, 0, out, f, _, _, _, h2 => by omega
  | fuel + 1, fuel' + 1, out, f, hf, ho, h1, h2 => by
    simp only [walkG]
    rcases hf with hf | hf
    · have hp := posF_mem hf
      have hany : ((out.map (posF S)).any fun x => decide (posF S f = x)) = (out.any fun x => decide (f = x)) := by
        rw [List.any_map, Bool.eq_iff_iff, List.any_eq_true, List.any_eq_true]
        constructor
        · rintro ⟨a, ha, q⟩
          exact ⟨a, ha, by simp only [Function.comp, decide_eq_true_eq] at q; simpa using posF_inj hf (ho a ha) q⟩
        · rintro ⟨a, ha, q⟩
          exact ⟨a, ha, by simp only [decide_eq_true_eq] at q; subst q; simp⟩
      rw [hany]
      cases hb : out.any fun x => decide (f = x)
      · rw [if_pos ⟨hp.1, rfl⟩, if_pos ⟨(hS f hf).1, rfl⟩, hiso f hf]
        have l1 := freeN_lt (hS f hf).1 (hS f hf).2 hb
        have l2 := freeN_lt (out := out.map (posF S)) hp.1 hp.2.1 (by rw [hany, hb])
        have e : out.map (posF S) ++ [posF S f] = (out ++ [f]).map (posF S) := by simp
        rw [e] at l2 ⊢
        refine walk_iso hS hnx hiso fuel fuel' (out ++ [f]) (nx f) (hnx f hf) (fun a ha => ?_) (by omega) (by omega)
        rcases List.mem_append.1 ha with q | q
        · exact ho a q
        · simp at q; subst q; exact hf
      · rw [if_neg (fun q => by cases q.2), if_neg (fun q => by cases q.2)]
    · have hn : f ∉ S := fun q => by have := hS f q; omega
      rw [posF_none hn, if_neg (by omega), if_neg (by omega)]
/-- What a set of faults reaches is in it. -/
structure Closed (h : List Fault) (S : List Int) : Prop where
  mem : ∀ a ∈ S, 0 ≤ a ∧ a < h.length
  cause : ∀ a ∈ S, causeOf h a ∈ S ∨ causeOf h a < 0
  ctx : ∀ a ∈ S, ctxOf h a ∈ S ∨ ctxOf h a < 0
theorem Closed.pos {h : List Fault} {S : List Int} (hc : Closed h S) {b : Int} (hb : b ∈ S ∨ b < 0) : (0 ≤ posF S b ↔ 0 ≤ b) ∧ (b < 0 → posF S b = -1) := by
  rcases hb with q | q
  · have h1 := (posF_mem q).1
    have h2 := (hc.mem b q).1
    exact ⟨⟨fun _ => h2, fun _ => h1⟩, fun w => by omega⟩
  · have hn : b ∉ S := fun w => by have := (hc.mem b w).1; omega
    rw [posF_none hn]
    exact ⟨⟨fun w => by omega, fun w => by omega⟩, fun _ => rfl⟩
theorem closed_reach {h : List Fault} (hlk : Links h) {f : Int} (h0 : 0 ≤ f) (hf : f < h.length) : Closed h (sortI (bfsF h f)) ∧ f ∈ sortI (bfsF h f) ∧ (sortI (bfsF h f)).Nodup := by
  obtain ⟨b1, b2⟩ := bfsF_iff hlk h0 hf
  have hn := bfsF_nums hlk h0 hf
  have m : ∀ a, a ∈ sortI (bfsF h f) ↔ Rch h f a := fun a => by rw [sortI_mem, b2]
  refine ⟨⟨fun a ha => hn.mem a (sortI_mem.1 ha), fun a ha => ?_, fun a ha => ?_⟩, (m f).2 .refl, (List.mergeSort_perm _ _).nodup_iff.2 b1⟩
  · by_cases c : causeOf h a < 0
    · exact .inr c
    · exact .inl ((m _).2 (.cause ((m a).1 ha) (by omega)))
  · by_cases c : ctxOf h a < 0
    · exact .inr c
    · exact .inl ((m _).2 (.ctx ((m a).1 ha) (by omega)))
theorem Closed.links {h : List Fault} {S : List Int} (hd : S.Nodup) : Links (isoL h S) := by
  intro k hk
  rw [isoL_len] at hk ⊢
  rw [isoL_at hk]
  exact ⟨idxF_lt _ _, idxF_lt _ _⟩
theorem Closed.rch {h : List Fault} {S : List Int} (hc : Closed h S) {f a : Int} (hf : f ∈ S) (r : Rch h f a) : a ∈ S ∧ Rch (isoL h S) (posF S f) (posF S a) := by
  induction r with
  | refl => exact ⟨hf, .refl⟩
  | @cause a r q ih =>
    obtain ⟨i1, i2⟩ := ih
    have hm := (hc.cause a i1).resolve_right (by omega)
    refine ⟨hm, ?_⟩
    rw [← iso_cause i1]
    exact .cause i2 (by rw [iso_cause i1]; exact (posF_mem hm).1)
  | @ctx a r q ih =>
    obtain ⟨i1, i2⟩ := ih
    have hm := (hc.ctx a i1).resolve_right (by omega)
    refine ⟨hm, ?_⟩
    rw [← iso_ctx i1]
    exact .ctx i2 (by rw [iso_ctx i1]; exact (posF_mem hm).1)
/-- The isolated heap is reached whole: sorted, it is all numbers in order. -/
theorem reach_all {h : List Fault} (hlk : Links h) {f : Int} (h0 : 0 ≤ f) (hf : f < h.length) :
    sortI (bfsF (isoL h (sortI (bfsF h f))) (posF (sortI (bfsF h f)) f)) = (List.range (sortI (bfsF h f)).length).map (fun (k : Nat) => (k : Int)) := by
  obtain ⟨hc, hm, hd⟩ := closed_reach hlk h0 hf
  have hall : ∀ a ∈ sortI (bfsF h f), Rch h f a := fun a ha => ((bfsF_iff hlk h0 hf).2 a).1 (sortI_mem.1 ha)
  generalize hS : sortI (bfsF h f) = S at hc hm hd hall ⊢
  obtain ⟨p1, p2, p3⟩ := posF_mem hm
  have hl2 : Links (isoL h S) := Closed.links hd
  obtain ⟨b1, b2⟩ := bfsF_iff hl2 p1 (by rw [isoL_len]; exact p2)
  have hn := bfsF_nums hl2 p1 (by rw [isoL_len]; exact p2)
  have s2 : ((List.range S.length).map (fun (k : Nat) => (k : Int))).Pairwise (fun a b => a < b) := by
    rw [List.pairwise_map]
    exact List.pairwise_lt_range.imp (fun q => by omega)
  have hsf : sortedF ((List.range S.length).map (fun (k : Nat) => (k : Int))) = (List.range S.length).map (fun (k : Nat) => (k : Int)) := by
    have a2 := sortedF_asc ((List.range S.length).map (fun (k : Nat) => (k : Int)))
    have pm : (sortedF ((List.range S.length).map (fun (k : Nat) => (k : Int)))).Perm ((List.range S.length).map (fun (k : Nat) => (k : Int))) :=
      (List.perm_ext_iff_of_nodup (a2.imp (fun q => by omega)) (s2.imp (fun q => by omega))).2 fun a => sortedF_iff
    exact pm.eq_of_pairwise (fun a b _ _ q1 q2 => by omega) (a2.imp (fun q => Int.le_of_lt q)) (s2.imp (fun q => Int.le_of_lt q))
  rw [← hsf]
  refine sort_ext b1 fun a => ?_
  rw [List.mem_map]
  constructor
  · intro ha
    have := hn.mem a ha
    rw [isoL_len] at this
    exact ⟨a.toNat, by simp; omega, by omega⟩
  · rintro ⟨k, hk, rfl⟩
    rw [List.mem_range] at hk
    rw [b2, ← posF_at hd hk]
    have hkm : S.getD k default ∈ S := by rw [List.getD_eq_getElem?_getD, List.getElem?_eq_getElem hk]; exact List.getElem_mem hk
    exact (hc.rch hm (hall _ hkm)).2
def natsF (n : Nat) : List Int := (List.range n).map (fun (k : Nat) => (k : Int))
theorem Closed.last {h : List Fault} {S : List Int} (hc : Closed h S) (hcm : Calm h) {a : Int} (ha : a ∈ S) : ctxOf (isoL h S) (lastI (chainF (isoL h S) (posF S a))) = -1 := by
  have hw : chainF (isoL h S) (posF S a) = (chainF h a).map (posF S) := by
    unfold chainF
    rw [isoL_len]
    exact walk_iso (S := S) (n := h.length) hc.mem (nx := ctxOf h) (nx' := ctxOf (isoL h S)) hc.ctx (fun a ha => iso_ctx ha) (h.length + 1) (S.length + 1) [] a (.inl ha) (fun a ha => by cases ha) (by have := freeN_nil h.length; omega) (by have := freeN_nil S.length; simp only [List.map_nil]; omega)
  have h0 := hc.mem a ha
  have hne := List.length_pos_iff.2 (chainF_ne (h := h) h0.1)
  have hl : (chainF h a).length - 1 < (chainF h a).length := by omega
  have hmem : ∀ b ∈ chainF h a, b ∈ S := by
    intro b hb
    have key := walkG_mem (nx := ctxOf h) (p := fun a => a ∈ S ∨ a < 0) (fun a a0 ha => hc.ctx a (ha.resolve_right (by omega))) (h.length + 1) [] a (.inl ha) b hb
    rcases key with q | ⟨q0, q⟩
    · cases q
    · exact q.resolve_right (by omega)
  have hlm : lastI (chainF h a) ∈ S := hmem _ (by unfold lastI; rw [List.getD_eq_getElem?_getD, List.getElem?_eq_getElem hl]; exact List.getElem_mem hl)
  have e : lastI ((chainF h a).map (posF S)) = posF S (lastI (chainF h a)) := by
    unfold lastI
    rw [List.length_map, List.getD_eq_getElem?_getD, List.getD_eq_getElem?_getD, List.getElem?_map, List.getElem?_eq_getElem hl]; rfl
  have hlast := hcm.last a.toNat (by omega)
  rw [lastOk, decide_eq_true_eq, Int.toNat_of_nonneg h0.1] at hlast
  rw [hw, e, iso_ctx hlm, hlast]
  exact (hc.pos (.inr (by omega))).2 (by omega)
theorem valid_isoG {t : List Class} {h : List Fault} {S : List Int} (v1 : (List.range h.length).all (faultOk t h) = true) (hcm : Calm h) (v3 : validT t = true) (hc : Closed h S) (hd : S.Nodup) (hlen : S.length ≤ 24) : validH t (isoL h S) = true := by
  have link : ∀ (k : Nat), k < S.length → ∀ b : Int, (b ∈ S ∨ b < 0) → b ≠ S.getD k default → linkF S.length k (posF S b) = true := by
    intro k hk b hb hne
    have hkm : S.getD k default ∈ S := by rw [List.getD_eq_getElem?_getD, List.getElem?_eq_getElem hk]; exact List.getElem_mem hk
    rcases hb with q | q
    · obtain ⟨p1, p2, p3⟩ := posF_mem q
      have hne2 : ¬ posF S b = k := fun e => hne (posF_inj q hkm (by rw [e, posF_at hd hk]))
      simp only [linkF, inR, Bool.or_eq_true, Bool.and_eq_true, decide_eq_true_eq, Bool.not_eq_true', decide_eq_false_iff_not]
      omega
    · rw [(hc.pos (.inr q)).2 q]; simp [linkF]
  simp only [validH, Bool.and_eq_true, decide_eq_true_eq, List.all_eq_true, List.mem_range, isoL_len]
  refine ⟨fun k hk => ?_, fun k hk => ?_, v3, hlen⟩
  · have hkm : S.getD k default ∈ S := by rw [List.getD_eq_getElem?_getD, List.getElem?_eq_getElem hk]; exact List.getElem_mem hk
    have hin := hc.mem _ hkm
    have hf := (List.all_eq_true.1 v1) (S.getD k default).toNat (List.mem_range.2 (by omega))
    simp only [faultOk, Bool.and_eq_true] at hf ⊢
    rw [isoL_at hk, isoL_len]
    have n1 : causeOf h (S.getD k default) ≠ S.getD k default := by
      have := hf.1.2
      unfold causeOf
      simp only [linkF, inR, Bool.or_eq_true, Bool.and_eq_true, decide_eq_true_eq, Bool.not_eq_true', decide_eq_false_iff_not] at this
      omega
    have n2 : ctxOf h (S.getD k default) ≠ S.getD k default := by
      have := hf.2
      unfold ctxOf
      simp only [linkF, inR, Bool.or_eq_true, Bool.and_eq_true, decide_eq_true_eq, Bool.not_eq_true', decide_eq_false_iff_not] at this
      omega
    exact ⟨⟨hf.1.1, link k hk _ (hc.cause _ hkm) n1⟩, link k hk _ (hc.ctx _ hkm) n2⟩
  · have hkm : S.getD k default ∈ S := by rw [List.getD_eq_getElem?_getD, List.getElem?_eq_getElem hk]; exact List.getElem_mem hk
    have := hc.last hcm hkm
    rw [posF_at hd hk] at this
    rw [lastOk, decide_eq_true_eq]
    exact this
end
section
open Go Go.Sim
set_option maxRecDepth 100000

theorem calm_heap {fs : List Fault} (ho : heapOk fs) : Calm fs := by
  refine .of_ends (fun k hk => by have := ho k hk; omega) (fun k hk => ?_)
  have key : ∀ n : Nat, ∀ k : Nat, k < n → k < fs.length → Ends (ctxOf fs) k := by
    intro n
    induction n with
    | zero => intro k hk; omega
    | succ n ih =>
      intro k hk hl
      obtain ⟨o1, o2, o3⟩ := ho k hl
      refine .step ?_
      have e : ctxOf fs k = (fs.getD k default).ctx := by unfold ctxOf; rw [Int.toNat_natCast]
      rw [e]
      by_cases c : (fs.getD k default).ctx < 0
      · exact .neg c
      · obtain ⟨m, hm⟩ : ∃ m : Nat, (fs.getD k default).ctx = m := ⟨(fs.getD k default).ctx.toNat, by omega⟩
        rw [hm]
        exact ih m (by omega) (by omega)
  exact key (k + 1) k (by omega) hk
/-- What a program ends with. -/
structure RunOut (t : List Class) (r : En × RS) (R : Res) : Prop where
  valid : validH t R.heap = true
  low : 0 ≤ R.val
  high : R.val < R.heap.length
  reach : sortI (bfsF R.heap R.val) = natsF R.heap.length
  cls : (R.heap.getD R.val.toNat default).cls = clsOf r.2 r.1.val
  code : (R.heap.getD R.val.toNat default).code = (r.2.fs.getD r.1.val.toNat default).code
theorem run_out {t : List Class} {r : En × RS} (ht : validT t = true) (hf : FsOk t r.2.fs) (h2 : r.1.ed = 2) (h0 : 0 ≤ r.1.val) (h1 : r.1.val < r.2.fs.length) (hd : dep r.2.fs r.1.val ≤ 24) : RunOut t r (resOf r) := by
  have ho := hf.ho
  have hlk : Links r.2.fs := heapOk_links ho
  obtain ⟨hc, hm, hn⟩ := closed_reach hlk h0 h1
  have hra := reach_all hlk h0 h1
  have hlen : (sortI (bfsF r.2.fs r.1.val)).length ≤ 24 := by
    rw [sort_dch ho h0 h1, List.length_reverse]; exact hd
  rw [res_two h2]
  unfold isoR
  generalize sortI (bfsF r.2.fs r.1.val) = S at hc hm hn hra hlen ⊢
  obtain ⟨p1, p2, p3⟩ := posF_mem hm
  have hat : (isoL r.2.fs S).getD (posF S r.1.val).toNat default = isoAt r.2.fs S r.1.val := by rw [isoL_at (by omega), p3]
  refine ⟨?_, p1, ?_, ?_, ?_, ?_⟩
  · refine valid_isoG ?_ (calm_heap ho) ht hc hn hlen
    rw [List.all_eq_true]
    intro k hk
    have hk' := List.mem_range.1 hk
    obtain ⟨o1, o2, o3⟩ := ho k hk'
    obtain ⟨c1, c2⟩ := hf.cls k hk'
    simp only [faultOk, Bool.and_eq_true]
    refine ⟨⟨⟨c1, c2⟩, ?_⟩, ?_⟩
    · rw [o1]; simp [linkF]
    · simp only [linkF, inR, Bool.or_eq_true, Bool.and_eq_true, decide_eq_true_eq, Bool.not_eq_true', decide_eq_false_iff_not]
      omega
  · show posF S r.1.val < (isoL r.2.fs S).length
    rw [isoL_len]; exact p2
  · show sortI (bfsF (isoL r.2.fs S) (posF S r.1.val)) = natsF (isoL r.2.fs S).length
    rw [hra, isoL_len]; rfl
  · show ((isoL r.2.fs S).getD (posF S r.1.val).toNat default).cls = _
    rw [hat]; rfl
  · show ((isoL r.2.fs S).getD (posF S r.1.val).toNat default).code = _
    rw [hat]; rfl
theorem run_valid {t : List Class} {p : List Line} (h : ValidP t p) (h2 : (runP t p).1.ed = 2) : RunOut t (runP t p) (resOf (runP t p)) := by
  have hg := runP_goes h
  exact run_out h.1 hg.ok h2 (hg.val h2).1 (hg.val h2).2 (dep_top h h2)
end
end
section
set_option maxRecDepth 100000
attribute [local go_sem ↓] aw_skip aw_ret aw_exit aw_region aw_draw aw_seq aw_block aw_loop aw_cond frz_nil frz_cons sq_normal sq_ret sq_exit exB_normal exB_ret exB_same exB_other retQ_ret retQ_normal ret0_ret ret0_normal ao_nil go1 g_move g_assign g_pick g_build g_load g_binOp g_unOp g_convert g_fieldAddr g_field g_indexAddr g_index g_extract g_lookup g_slice g_nilCheck g_len g_makeFunc h_call h_append h_alloc h_box h_buildSlice h_makeSlice h_store gV i_box i_buildSlice i_move i_assign i_build i_load i_binOp i_unOp i_convert i_fieldAddr i_field i_indexAddr i_index i_extract i_lookup i_makeMap i_mapUpdate i_slice i_nilCheck i_makeFunc i_len i_max i_min i_alloc i_makeSlice i_store i_append i_call i_pick boxI boxA buildSliceI buildSliceA makeSliceA makeMapA allocA storeA p_move p_assign p_pick p_build p_load p_binOp p_unOp p_convert p_fieldAddr p_field p_indexAddr p_index p_extract p_lookup p_makeMap p_mapUpdate p_slice p_nilCheck p_makeFunc p_len p_max p_min p_alloc p_box p_buildSlice p_makeSlice p_store p_append p_call x_nil x_go1 x_g0 x_g1 x_g2 x_g3 x_s0 x_s1 x_s2 x_s3 u_move u_assign u_pick u_build u_load u_binOp u_unOp u_convert u_fieldAddr u_field u_indexAddr u_index u_extract u_lookup u_slice u_nilCheck u_makeFunc u_len u_buildSlice x_s4 x_g4 rq_normal rq_ret rq_exit aw_range
attribute [local go_sem] frzV_sl frzK_some set_none set_other AHeap.set_self set_del set_set cnd_t cnd_f cnd_b retA_one retA_two retA_three retA_four retA_nil gIf_b mrgV_b mrgV_wh mrgV_U gIf_U gIf_wh mrgB_f mrgB_some mrgB_if wh_true wh_false keepA_some keepA_if gD_zero gD_succ gT_some bxA_t bxA_f callA_fn ev_tmp ev_const ev_global ev_func oc_bool oc_int oc_string oc_nil oc_nilptr oc_nilfunc cl_bool cl_int cl_string cl_nil updO_some updO_none upd_same upd_other init_at pickA_b pickA_wh selA_t selA_f selA_and selA_or selA_orn selA_orm selA_bb selA_ii beqt b_add b_sub b_mul b_and b_or b_xor b_eql b_neq b_lss b_leq b_gtr b_geq b_quo b_rem b_shr b_seql b_sneq b_sadd b_beql b_bneq b_aeql b_aneq u_not u_neg isConstOp eqA eqCellV List.getD_cons_zero List.getD_cons_succ List.map_cons List.map_nil List.nil_append List.cons_append List.append_nil if_true if_false Option.map_some Option.map_none ne_eq not_false_eq_true oneA ldv ld1v ld1s wr1s ldRow stRow row_lit row_agg row_vsl row_sl row_ptr row_fn one_I one_B one_S one_vsl one_sl one_ptr one_fn extractA okA rI rS rU rClass rFault rExit rStart rLine Int.toNat_natCast List.length_cons List.length_nil List.length_map List.all_cons List.all_nil Bool.and_true Nat.zero_add List.getElem?_cons_zero List.getElem?_cons_succ List.take_succ_cons List.take_zero List.drop_succ_cons List.drop_zero and_self true_and and_true implies_true decide_eq_true_eq decide_eq_false_iff_not Bool.or_eq_true Bool.or_eq_false_iff Bool.and_eq_true Bool.not_eq_true' Bool.not_eq_false' beq_false decide_true decide_false Int.ofNat_lt Int.ofNat_le Int.natCast_nonneg Bool.or_true Bool.or_false Bool.true_or Bool.false_or beq_self_eq_true List.drop_one Bool.not_true Bool.not_false Bool.not_not Bool.false_eq_true Bool.true_eq_false false_implies true_implies Bool.true_and Bool.false_and Bool.and_false not_true_eq_false Int.natCast_eq_zero Int.natCast_pos Int.natCast_zero false_and and_false or_false false_or or_true true_or Bool.or_self none_le_iff List.replicate_zero Int.toNat_zero List.replicate_succ buildRows List.set_cons_zero List.set_cons_succ List.set_nil List.mapM_nil maxLen_eq Nat.zero_le Nat.mul_one Nat.one_mul bldA fillA spliceA List.take_nil List.drop_nil List.getElem?_nil ld1o wr1o bldSliceA le_same cv_i cvI_t quietT_fn qvd_some ld_o ldO_1 ldO_l wr_o wrO_1 set_2 set_3 set_4 putL_nil putL_cons List.zip_cons_cons List.zip_nil_left List.zip_nil_right List.toList_toArray frzV_set ti1 ti2 tk2 ti3 te3 ts3 tk3 tz3 ti4 tb4 ti5 tk5 tz5 ti9 te9 ts9 tk9 tz9 ti12 tk12 ti13 tp13 tf13_0 tf13_1 ti20 ti21 tk21 tz21 ti22 te22 tz22 ti23 te23 ti24 tp24 tf24_0 ti25 tp25 tf25_0 ti26 te26 ti28 ti29 te29 ti30 te30 ti31 tp31 tf31_0 ti32 tp32 tf32_0 ti33 tp33 tf33_0 tf33_1 tf33_2 tf33_3 ti34 tp34 tf34_0 tf34_1 tf34_2 tf34_3 ti35 ti36 ti37 ti38 ti40 ti42 ti43 ti44 tq44 tp44 tf44_0 tf44_1 tf44_2 ti45 tq45 tp45 tf45_0 tf45_1 tf45_2 ti47 ti48 ti49 tq49 tp49 tf49_0 tf49_1 tf49_2 tf49_3 ti50 tq50 tp50 tf50_0 tf50_1 tf50_2 tf50_3 ti51 ti52 ti54 ti55 ti56 ti57 te57 ti59 ti60 ti61 ti62 ti63 ti64 ti65 ti66 ti67 ti68 tq68 tp68 tf68_0 tf68_1 ti69 tq69 tp69 tf69_0 tf69_1 ti70 ti71 ti72 ti73 ti74 ti75 ti77 ti78 ti79 ti80 ti81 ti82 ti83 ti84 ti85 tq85 tp85 tf85_0 tf85_1 tf85_2 tf85_3 tf85_4 ti86 tq86 tp86 tf86_0 tf86_1 tf86_2 tf86_3 tf86_4 ti87 ti88 ti89 ti90 ti91 ti93 ti94 ti95 ti96 ti97 tq97 tp97 tf97_0 tf97_1 tf97_2 ti98 tq98 tp98 tf98_0 tf98_1 tf98_2 ti99 ti100 ti101 ti102 ti103 ti104 ti105 ti106 ti107 tp107 tf107_0 tf107_1 ti108 tp108 tf108_0 tf108_1 ti109 tp109 tf109_0 tf109_1 tf109_2 tf109_3 tf109_4 ti110 tp110 tf110_0 tf110_1 tf110_2 tf110_3 tf110_4 ti111 ti113 ti114 ti115 ti116 ti117 ti118 ti119 ti120 tp120 tf120_0 tf120_1 tf120_2 tf120_3 ti121 tp121 tf121_0 tf121_1 tf121_2 tf121_3 ti122 tq122 tp122 tf122_0 tf122_1 ti123 tq123 tp123 tf123_0 tf123_1 ti124 ti125 ti126 tq126 tp126 tf126_0 tf126_1 ti127 tq127 tp127 tf127_0 tf127_1 ti128 ti129 ti130 ti131 ti132 ti133 te133 ti134 ti135 ti136 ti137 ti138 ti139 ti140 ti141 ti142 ti143 ti144 tp144 tf144_0 tf144_1 tf144_2 ti145 tp145 tf145_0 tf145_1 tf145_2 ti146 ti147 ti148 ti149 ti150 te150 ti151 ti152 ti153 ti154 ti155 ti156 ti157 ti158 ti159 ti160 ti161 ti162 ti163 ti164 ti165 ti166 ti167 ti168 ti169 ti170 ti171 ti172 ti173 ti174 ti175 tk175 tz175 ti176 ti177 ti178 ti179 ti180 tk180 ti182 ti183 ti184 ti186 ti187 ti188 tk188 tz188 ti189 ti190 tk190 tz190 ti191 tk191 ti192 ti193 ti194 ti195 ti196 ti197 ti199 ti200 ti206 ti210 ti215 fp13_0 fv13_0 fp13_1 fv13_1 fp24_0 fv24_0 fp25_0 fv25_0 fp31_0 fv31_0 fp32_0 fv32_0 fp33_0 fv33_0 fp33_1 fv33_1 fp33_2 fv33_2 fp33_3 fv33_3 fp34_0 fv34_0 fp34_1 fv34_1 fp34_2 fv34_2 fp34_3 fv34_3 fp44_0 fv44_0 fp44_1 fv44_1 fp44_2 fv44_2 fp45_0 fv45_0 fp45_1 fv45_1 fp45_2 fv45_2 fp49_0 fv49_0 fp49_1 fv49_1 fp49_2 fv49_2 fp49_3 fv49_3 fp50_0 fv50_0 fp50_1 fv50_1 fp50_2 fv50_2 fp50_3 fv50_3 fp68_0 fv68_0 fp68_1 fv68_1 fp69_0 fv69_0 fp69_1 fv69_1 fp85_0 fv85_0 fp85_1 fv85_1 fp85_2 fv85_2 fp85_3 fv85_3 fp85_4 fv85_4 fp86_0 fv86_0 fp86_1 fv86_1 fp86_2 fv86_2 fp86_3 fv86_3 fp86_4 fv86_4 fp97_0 fv97_0 fp97_1 fv97_1 fp97_2 fv97_2 fp98_0 fv98_0 fp98_1 fv98_1 fp98_2 fv98_2 fp107_0 fv107_0 fp107_1 fv107_1 fp108_0 fv108_0 fp108_1 fv108_1 fp109_0 fv109_0 fp109_1 fv109_1 fp109_2 fv109_2 fp109_3 fv109_3 fp109_4 fv109_4 fp110_0 fv110_0 fp110_1 fv110_1 fp110_2 fv110_2 fp110_3 fv110_3 fp110_4 fv110_4 fp120_0 fv120_0 fp120_1 fv120_1 fp120_2 fv120_2 fp120_3 fv120_3 fp121_0 fv121_0 fp121_1 fv121_1 fp121_2 fv121_2 fp121_3 fv121_3 fp122_0 fv122_0 fp122_1 fv122_1 fp123_0 fv123_0 fp123_1 fv123_1 fp126_0 fv126_0 fp126_1 fv126_1 fp127_0 fv127_0 fp127_1 fv127_1 fp144_0 fv144_0 fp144_1 fv144_1 fp144_2 fv144_2 fp145_0 fv145_0 fp145_1 fv145_1 fp145_2 fv145_2 lv22 ll22 is22 ix22 sh22 so22 sb22 sm22 sp22 lv23 ll23 is23 ix23 sh23 so23 sb23 sm23 sp23 lv26 ll26 is26 ix26 sh26 so26 sb26 sm26 sp26 lv29 ll29 is29 ix29 sh29 so29 sb29 sm29 sp29 lv30 ll30 is30 ix30 sh30 so30 sb30 sm30 sp30 lv57 ll57 is57 ix57 sh57 so57 sb57 sm57 sp57 lv133 ll133 is133 sp133 lv150 ll150 is150 ix150 sh150 so150 sb150 sm150 sp150 xs9 ls9 sx9 sy9 sz9
section
open Go Go.Sim
set_option maxRecDepth 100000
set_option maxHeartbeats 4000000
/-- The start of a result. -/
def stOf (t : List Class) (R : Res) : Sta × Bool :=
  if validT t = true then
    (if R.ed = 0 then (⟨false, 0, 0⟩, true)
     else if R.ed = 2 ∧ (validH t R.heap && inR R.val 0 (R.heap.length - 1)) = true then (⟨true, (R.heap.getD R.val.toNat default).cls, (R.heap.getD R.val.toNat default).code⟩, true)
     else (⟨false, 0, 0⟩, false))
  else (⟨false, 0, 0⟩, false)
theorem st_out {t : List Class} {r : En × RS} (ht : validT t = true) (ho : RunOut t r (resOf r)) (h2 : r.1.ed = 2) : stOf t (resOf r) = (⟨true, clsOf r.2 r.1.val, (r.2.fs.getD r.1.val.toNat default).code⟩, true) ∧ hasF t (clsOf r.2 r.1.val) = true := by
  have e2 : (resOf r).ed = 2 := by rw [res_ed, h2]
  rw [stOf, if_pos ht, if_neg (by rw [e2]; decide), if_pos ⟨e2, by rw [ho.valid, Bool.true_and]; exact inR_len.2 ⟨ho.low, ho.high⟩⟩, ho.cls, ho.code]
  refine ⟨rfl, ?_⟩
  have hl := ho.low
  have hh := ho.high
  have hc := validH_cls ho.valid (resOf r).val.toNat (by omega)
  rw [ho.cls] at hc
  simp only [hasF, inR, Bool.and_eq_true, decide_eq_true_eq]
  omega
theorem st_else {t : List Class} {R : Res} (ht : validT t = true) (h2 : R.ed ≠ 2) : stOf t R = (⟨false, 0, 0⟩, decide (R.ed = 0)) := by
  rw [stOf, if_pos ht]
  by_cases h0 : R.ed = 0
  · rw [if_pos h0, decide_eq_true h0]
  · rw [if_neg h0, if_neg (fun h => h2 h.1), decide_eq_false h0]
theorem c_mStartOf (t : List Class) (cl : Bool) (R : Res) (c1 c2 : Bool) (H : AHeap) (hn : namesOk t) (hl : R.heap.length ≤ 1000000) : ACalls Tryz.prog 18 [aTree t cl, aRes R c1 c2] H fun r H' => r = .tup [.agg (rStart (stOf t R).1), B (stOf t R).2] ∧ H' = H := by
  refine acalls_of1 Tryz.func18 rfl (by kernel_rfl) rfl rfl (awp_sound (fz := fun _ => []) (im := fun s => s == 2 || s == 3 || s == 27) mixed _ _ _ _ (by kernel_rfl) ?_)
  simp +contextual -dsimp -implicitDefEqProofs (maxSteps := 5000000) only [go_sem, reduceIte, reduceCtorEq, Nat.reduceEqDiff, Nat.reduceBEq, Nat.reduceAdd, Nat.reduceLeDiff, Nat.reduceMul, Nat.reduceLT, Int.reduceEq, Int.reduceLT, Int.reduceLE]
  intro b4 hb4
  refine (c_ValidTree t cl _ hn).det ?_
  cases hv : validT t
  · simp +contextual -dsimp -implicitDefEqProofs (maxSteps := 5000000) only [go_sem, reduceIte, reduceCtorEq, Nat.reduceEqDiff, Nat.reduceBEq, Nat.reduceAdd, Nat.reduceLeDiff, Nat.reduceMul, Nat.reduceLT, Int.reduceEq, Int.reduceLT, Int.reduceLE]
    refine retR_less (l := [.agg (rStart (stOf t R).1), B (stOf t R).2]) (H' := H) ?_ (le_set hb4) ⟨rfl, rfl⟩
    simp only [stOf, hv, if_true, if_false, resA, go_sem, reduceIte, reduceCtorEq, Nat.reduceEqDiff, Nat.reduceBEq, Nat.reduceAdd, Nat.reduceLeDiff, Nat.reduceMul, Nat.reduceLT, Int.reduceEq, Int.reduceLT, Int.reduceLE]
    try rfl
  · simp +contextual -dsimp -implicitDefEqProofs (maxSteps := 5000000) only [go_sem, reduceIte, reduceCtorEq, Nat.reduceEqDiff, Nat.reduceBEq, Nat.reduceAdd, Nat.reduceLeDiff, Nat.reduceMul, Nat.reduceLT, Int.reduceEq, Int.reduceLT, Int.reduceLE]
    refine ⟨fun h0 => ?_, fun h0 => ?_⟩
    refine retR_less (l := [.agg (rStart (stOf t R).1), B (stOf t R).2]) (H' := H) ?_ (le_set hb4) ⟨rfl, rfl⟩
    simp only [stOf, hv, h0, if_true, if_false, resA, go_sem, reduceIte, reduceCtorEq, Nat.reduceEqDiff, Nat.reduceBEq, Nat.reduceAdd, Nat.reduceLeDiff, Nat.reduceMul, Nat.reduceLT, Int.reduceEq, Int.reduceLT, Int.reduceLE]
    try rfl
    refine ⟨fun h2 => ?_, fun h2 => ?_⟩
    · refine (c_faultsIn t cl R.heap c2 [R.val] true _ hn hl).det ?_
      simp only [List.all_cons, List.all_nil, Bool.and_true]
      cases hg : validH t R.heap && inR R.val 0 (R.heap.length - 1)
      · simp +contextual -dsimp -implicitDefEqProofs (maxSteps := 5000000) only [go_sem, reduceIte, reduceCtorEq, Nat.reduceEqDiff, Nat.reduceBEq, Nat.reduceAdd, Nat.reduceLeDiff, Nat.reduceMul, Nat.reduceLT, Int.reduceEq, Int.reduceLT, Int.reduceLE, h2]
        refine retR_less (l := [.agg (rStart (stOf t R).1), B (stOf t R).2]) (H' := H) ?_ (le_set hb4) ⟨rfl, rfl⟩
        simp only [stOf, hv, h0, h2, hg, if_true, if_false, resA, go_sem, reduceIte, reduceCtorEq, Nat.reduceEqDiff, Nat.reduceBEq, Nat.reduceAdd, Nat.reduceLeDiff, Nat.reduceMul, Nat.reduceLT, Int.reduceEq, Int.reduceLT, Int.reduceLE]
        try rfl
      · have hg2 := hg
        rw [Bool.and_eq_true] at hg2
        have hi := inR_len.1 hg2.2
        have i2 : R.val.toNat < R.heap.length := by omega
        simp +contextual -dsimp -implicitDefEqProofs (maxSteps := 5000000) only [go_sem, reduceIte, reduceCtorEq, Nat.reduceEqDiff, Nat.reduceBEq, Nat.reduceAdd, Nat.reduceLeDiff, Nat.reduceMul, Nat.reduceLT, Int.reduceEq, Int.reduceLT, Int.reduceLE, h2, hi.1, hi.2, i2]
        rintro b6 ⟨s1, s2, hb6⟩
        refine retR_less (l := [.agg (rStart (stOf t R).1), B (stOf t R).2]) (H' := H) ?_ (le_s1 (le_s1 (AHeap.le_refl _) hb4) hb6) ⟨rfl, rfl⟩
        have e0 : ¬ (2 : Int) = 0 := by decide
        simp only [stOf, hv, h0, h2, hg, e0, and_self, if_true, if_false, resA, go_sem, reduceIte, reduceCtorEq, Nat.reduceEqDiff, Nat.reduceBEq, Nat.reduceAdd, Nat.reduceLeDiff, Nat.reduceMul, Nat.reduceLT, Int.reduceEq, Int.reduceLT, Int.reduceLE, s1, s2]
        try rfl
    ·
      refine retR_less (l := [.agg (rStart (stOf t R).1), B (stOf t R).2]) (H' := H) ?_ (le_set hb4) ⟨rfl, rfl⟩
      simp only [stOf, hv, h0, h2, false_and, if_true, if_false, resA, go_sem, reduceIte, reduceCtorEq, Nat.reduceEqDiff, Nat.reduceBEq, Nat.reduceAdd, Nat.reduceLeDiff, Nat.reduceMul, Nat.reduceLT, Int.reduceEq, Int.reduceLT, Int.reduceLE]
      try rfl
theorem c_sStartOf (t : List Class) (cl : Bool) (R : Res) (c1 c2 : Bool) (H : AHeap) (hn : namesOk t) (hl : R.heap.length ≤ 1000000) : ACalls Tryz.prog 23 [aTree t cl, aRes R c1 c2] H fun r H' => r = .tup [.agg (rStart (stOf t R).1), B (stOf t R).2] ∧ H' = H := by
  refine acalls_of1 Tryz.func23 rfl (by kernel_rfl) rfl rfl (awp_sound (fz := fun _ => []) (im := fun s => s == 2 || s == 3) mixed _ _ _ _ (by kernel_rfl) ?_)
  simp +contextual -dsimp -implicitDefEqProofs (maxSteps := 5000000) only [go_sem, reduceIte, reduceCtorEq, Nat.reduceEqDiff, Nat.reduceBEq, Nat.reduceAdd, Nat.reduceLeDiff, Nat.reduceMul, Nat.reduceLT, Int.reduceEq, Int.reduceLT, Int.reduceLE]
  intro b4 hb4
  refine (c_validTree t cl _ hn).det ?_
  cases hv : validT t
  ·
    simp +contextual -dsimp -implicitDefEqProofs (maxSteps := 5000000) only [go_sem, reduceIte, reduceCtorEq, Nat.reduceEqDiff, Nat.reduceBEq, Nat.reduceAdd, Nat.reduceLeDiff, Nat.reduceMul, Nat.reduceLT, Int.reduceEq, Int.reduceLT, Int.reduceLE]
    refine retR_less (l := [.agg (rStart (stOf t R).1), B (stOf t R).2]) (H' := H) ?_ (le_set hb4) ⟨rfl, rfl⟩
    simp only [stOf, hv, if_true, if_false, resA, go_sem, reduceIte, reduceCtorEq, Nat.reduceEqDiff, Nat.reduceBEq, Nat.reduceAdd, Nat.reduceLeDiff, Nat.reduceMul, Nat.reduceLT, Int.reduceEq, Int.reduceLT, Int.reduceLE]
    try rfl
  · simp +contextual -dsimp -implicitDefEqProofs (maxSteps := 5000000) only [go_sem, reduceIte, reduceCtorEq, Nat.reduceEqDiff, Nat.reduceBEq, Nat.reduceAdd, Nat.reduceLeDiff, Nat.reduceMul, Nat.reduceLT, Int.reduceEq, Int.reduceLT, Int.reduceLE]
    refine ⟨fun q => ?_, fun q => ⟨fun h0 => ?_, fun h0 => ?_⟩⟩
    · obtain ⟨h0, h2⟩ := q
      refine retR_less (l := [.agg (rStart (stOf t R).1), B (stOf t R).2]) (H' := H) ?_ (le_set hb4) ⟨rfl, rfl⟩
      simp only [stOf, hv, h0, h2, false_and, if_true, if_false, resA, go_sem, reduceIte, reduceCtorEq, Nat.reduceEqDiff, Nat.reduceBEq, Nat.reduceAdd, Nat.reduceLeDiff, Nat.reduceMul, Nat.reduceLT, Int.reduceEq, Int.reduceLT, Int.reduceLE]
      try rfl
    · refine retR_less (l := [.agg (rStart (stOf t R).1), B (stOf t R).2]) (H' := H) ?_ (le_set hb4) ⟨rfl, rfl⟩
      simp only [stOf, hv, h0, if_true, if_false, resA, go_sem, reduceIte, reduceCtorEq, Nat.reduceEqDiff, Nat.reduceBEq, Nat.reduceAdd, Nat.reduceLeDiff, Nat.reduceMul, Nat.reduceLT, Int.reduceEq, Int.reduceLT, Int.reduceLE]
      try rfl
    · have h2 : R.ed = 2 := by
        by_cases c : R.ed = 2
        · exact c
        · rw [decide_eq_false h0, decide_eq_false c] at q; cases q
      refine (c_goodFault t cl R.heap c2 R.val _ hn hl).det ?_
      cases hg : validH t R.heap && inR R.val 0 (R.heap.length - 1)
      · simp +contextual -dsimp -implicitDefEqProofs (maxSteps := 5000000) only [go_sem, reduceIte, reduceCtorEq, Nat.reduceEqDiff, Nat.reduceBEq, Nat.reduceAdd, Nat.reduceLeDiff, Nat.reduceMul, Nat.reduceLT, Int.reduceEq, Int.reduceLT, Int.reduceLE]
        refine retR_less (l := [.agg (rStart (stOf t R).1), B (stOf t R).2]) (H' := H) ?_ (le_set hb4) ⟨rfl, rfl⟩
        simp only [stOf, hv, h0, h2, hg, if_true, if_false, resA, go_sem, reduceIte, reduceCtorEq, Nat.reduceEqDiff, Nat.reduceBEq, Nat.reduceAdd, Nat.reduceLeDiff, Nat.reduceMul, Nat.reduceLT, Int.reduceEq, Int.reduceLT, Int.reduceLE]
        try rfl
      · have hg2 := hg
        rw [Bool.and_eq_true] at hg2
        have hi := inR_len.1 hg2.2
        have i2 : R.val.toNat < R.heap.length := by omega
        simp +contextual -dsimp -implicitDefEqProofs (maxSteps := 5000000) only [go_sem, reduceIte, reduceCtorEq, Nat.reduceEqDiff, Nat.reduceBEq, Nat.reduceAdd, Nat.reduceLeDiff, Nat.reduceMul, Nat.reduceLT, Int.reduceEq, Int.reduceLT, Int.reduceLE, hi.1, hi.2, i2]
        rintro b6 ⟨s1, s2, hb6⟩
        refine retR_less (l := [.agg (rStart (stOf t R).1), B (stOf t R).2]) (H' := H) ?_ (le_s1 (le_s1 (AHeap.le_refl _) hb4) hb6) ⟨rfl, rfl⟩
        have e0 : ¬ (2 : Int) = 0 := by decide
        simp only [stOf, hv, h0, h2, hg, e0, and_self, if_true, if_false, resA, go_sem, reduceIte, reduceCtorEq, Nat.reduceEqDiff, Nat.reduceBEq, Nat.reduceAdd, Nat.reduceLeDiff, Nat.reduceMul, Nat.reduceLT, Int.reduceEq, Int.reduceLT, Int.reduceLE, s1, s2]
        try rfl
end
section
open Go Go.Sim
set_option maxRecDepth 100000

theorem rel_res {c : Clo} {r : En × RS} (h : RelC c r) : resOf r = resM c := by
  obtain ⟨k1, k2, k3⟩ := h
  unfold resM
  by_cases q : 0 ≤ c.cur
  · have e3 : r.1 = ⟨2, c.cur⟩ := by rw [k1]; unfold enC; rw [if_pos q]
    rw [if_pos q, res_two (by rw [e3]), k2, k3, e3]
    rfl
  · have e3 : r.1 = .next := by rw [k1]; unfold enC; rw [if_neg q]
    rw [if_neg q, res_else (by rw [e3]; decide), k2, e3]
    rfl
theorem clo_step {t : List Class} {s : Clo} {e : Exi} {n : Nat} (he : exitOk t e = true) (hc : CloOk t s n) (hf : FsOk t s.fs) (hd : dep s.fs s.cur ≤ n + 1) : FsOk t (stepX t s e).fs ∧ dep (stepX t s e).fs (stepX t s e).cur ≤ n + 1 + 1 := by
  unfold stepX
  split
  · exact ⟨hf, Nat.le_succ_of_le hd⟩
  · split
    · split
      · exact ⟨hf, Nat.le_succ_of_le hd⟩
      · exact ⟨hf, Nat.le_succ_of_le hd⟩
    · split
      · split
        · exact ⟨hf, by show dep s.fs (-1) ≤ _; rw [dep_neg (by decide)]; omega⟩
        · exact ⟨hf, Nat.le_succ_of_le hd⟩
      · rename_i h0 h1 h2
        split
        · rename_i h3
          unfold exitOk at he
          rw [if_neg h0, if_neg h1, if_neg h2, if_pos h3, Bool.and_eq_true] at he
          refine ⟨hf.raise he.1 he.2 hc.cur, ?_⟩
          show dep (raiseF s.fs e.a e.b s.cur) s.fs.length ≤ _
          rw [dep_new hc.ho hc.cur]; omega
        · exact ⟨hf, Nat.le_succ_of_le hd⟩
theorem clo_fold {t : List Class} : ∀ (L : List Exi) (c : Clo) (n : Nat), (∀ e ∈ L, exitOk t e = true) → CloOk t c n → FsOk t c.fs → dep c.fs c.cur ≤ n + 1 → FsOk t (L.foldl (stepX t) c).fs ∧ dep (L.foldl (stepX t) c).fs (L.foldl (stepX t) c).cur ≤ n + L.length + 1
  | [], c, n, _, _, h, h' => ⟨h, h'⟩
  | e :: L, c, n, hL, hc, h, h' => by
    rw [List.foldl_cons, List.length_cons]
    have he := hL e (List.mem_cons_self ..)
    obtain ⟨a1, a2⟩ := clo_step he hc h h'
    have := clo_fold L _ (n + 1) (fun x hx => hL x (List.mem_cons_of_mem _ hx)) (hc.step he) a1 a2
    refine ⟨this.1, ?_⟩
    have := this.2
    omega
theorem clo_start {t : List Class} {x : Sta} (hx : startOk t x = true) : FsOk t (startX x).fs ∧ dep (startX x).fs (startX x).cur ≤ 1 := by
  unfold startX
  unfold startOk at hx
  cases h : x.has
  · rw [if_neg (by decide)]
    exact ⟨fsOk_nil t, by show dep [] (-1) ≤ 1; rw [dep_neg (by decide)]; omega⟩
  · rw [h, if_pos rfl, Bool.and_eq_true] at hx
    rw [if_pos rfl]
    refine ⟨(fsOk_nil t).raise hx.1 hx.2 (by decide), ?_⟩
    have := dep_new heapOk_nil (c := x.cls) (d := x.code) (g := -1) (by show (-1 : Int) < ((0 : Nat) : Int); decide)
    rw [dep_neg (v := -1) (by decide)] at this
    exact Nat.le_of_eq this
theorem clo_close {t : List Class} {l : List Exi} {x : Sta} (hl : validX t l = true) (hx : startOk t x = true) : FsOk t (closeX t l x).fs ∧ dep (closeX t l x).fs (closeX t l x).cur ≤ 24 := by
  obtain ⟨ht, h8⟩ := validX_T hl
  have hall : ∀ e ∈ l.reverse, exitOk t e = true := fun e he => by
    obtain ⟨i, hi, rfl⟩ := List.mem_iff_getElem.1 (List.mem_reverse.1 he)
    have := validX_at hl hi
    rwa [List.getD_eq_getElem?_getD, List.getElem?_eq_getElem hi] at this
  obtain ⟨a1, a2⟩ := clo_start hx
  have := clo_fold l.reverse (startX x) 0 hall (CloOk.start hx) a1 a2
  refine ⟨this.1, ?_⟩
  have h := this.2
  rw [List.length_reverse] at h
  show dep (l.reverse.foldl (stepX t) (startX x)).fs _ ≤ 24
  unfold closeX
  omega
/-- What starts behind exits. -/
theorem st_close {t : List Class} {l : List Exi} {x : Sta} (hl : validX t l = true) (hx : startOk t x = true) :
    stOf t (resM (closeX t l x)) = if 0 ≤ (closeX t l x).cur then (⟨true, ((closeX t l x).fs.getD (closeX t l x).cur.toNat default).cls, ((closeX t l x).fs.getD (closeX t l x).cur.toNat default).code⟩, true) else (⟨false, 0, 0⟩, true) := by
  have hok := closeX_ok hl hx
  obtain ⟨hf, hd⟩ := clo_close hl hx
  have ht := (validX_T hl).1
  generalize closeX t l x = c at hok hf hd
  have hr : RelC c (enC c, { rs0 with log := c.log, fs := c.fs }) := ⟨rfl, rfl, rfl⟩
  rw [← rel_res hr]
  by_cases q : 0 ≤ c.cur
  · have e : enC c = ⟨2, c.cur⟩ := by unfold enC; rw [if_pos q]
    rw [if_pos q, e]
    exact (st_out ht (run_out ht hf rfl q hok.cur hd) rfl).1
  · have e : enC c = .next := by unfold enC; rw [if_neg q]
    rw [if_neg q, e]
    exact st_else ht (by rw [res_ed]; show (0 : Int) ≠ 2; decide)
theorem validX_nil {t : List Class} (ht : validT t = true) : validX t [] = true := by
  simp [validX, ht]
/-- Starts are told by what they lead to. -/
theorem st_start {t : List Class} {x : Sta} (ht : validT t = true) (hx : startOk t x = true) : stOf t (resM (closeX t [] x)) = (x, true) := by
  rw [st_close (validX_nil ht) hx]
  have e : closeX t [] x = startX x := rfl
  rw [e]
  unfold startX
  obtain ⟨b, c, d⟩ := x
  cases b
  · unfold startOk at hx
    rw [if_neg (by show ¬ (false = true); decide), Bool.and_eq_true, decide_eq_true_eq, decide_eq_true_eq] at hx
    obtain ⟨h1, h2⟩ := hx
    simp only at h1 h2
    subst h1 h2
    rfl
  · rfl
/-- A start that is told is one. -/
theorem stOf_ok {t : List Class} {R : Res} (h : (stOf t R).2 = true) : validT t = true ∧ startOk t (stOf t R).1 = true ∧ ((stOf t R).1.has = decide (R.ed = 2)) := by
  unfold stOf at h ⊢
  split at h
  · rename_i ht
    refine ⟨ht, ?_⟩
    rw [if_pos ht]
    by_cases h0 : R.ed = 0
    · rw [if_pos h0]
      exact ⟨rfl, by rw [h0]; rfl⟩
    · rw [if_neg h0] at h ⊢
      by_cases h2 : R.ed = 2 ∧ (validH t R.heap && inR R.val 0 (R.heap.length - 1)) = true
      · rw [if_pos h2]
        obtain ⟨e2, hv⟩ := h2
        rw [Bool.and_eq_true] at hv
        have hi := inR_len.1 hv.2
        have hc := validH_cls hv.1 R.val.toNat (by omega)
        refine ⟨?_, by rw [e2]; rfl⟩
        simp only [startOk, if_true, hasF, inR, Bool.and_eq_true, decide_eq_true_eq]
        omega
      · rw [if_neg h2] at h; cases h
  · cases h
end
section
open Go Go.Sim
set_option maxRecDepth 100000
/-- States that are alike but for what is added to numbers that are told. -/
structure SimS (s s' : RS) : Prop where
  fs : s'.fs = s.fs
  log : lowDig s'.log = lowDig s.log
def SimR (r r' : En × RS) : Prop := r'.1 = r.1 ∧ SimS r.2 r'.2
theorem SimS.tell {s s' : RS} (h : SimS s s') {n n' : Int} (hn : n'.tmod 100 = n.tmod 100) : SimS (s.tell n) (s'.tell n') := by
  refine ⟨h.fs, ?_⟩
  have := h.log
  simp only [RS.tell, lowDig, List.map_append, List.map_cons, List.map_nil] at this ⊢
  rw [this, hn]
theorem SimS.jump {s s' : RS} (h : SimS s s') (k : Int) (i i' : Nat) : SimS (s.jump k i) (s'.jump k i') := by
  unfold RS.jump
  constructor
  · split <;> split <;> exact h.fs
  · split <;> split <;> exact h.log
theorem SimS.raise {s s' : RS} (h : SimS s s') (c d g : Int) : SimS (s.raise c d g) (s'.raise c d g) := by
  refine ⟨?_, h.log⟩
  show raiseF s'.fs c d g = raiseF s.fs c d g
  rw [h.fs]
theorem sim_loop {b b' : RS → En × RS} (hb : ∀ s s', SimS s s' → SimR (b s) (b' s')) : ∀ (n : Nat) (s s' : RS), SimS s s' → SimR (loopS b n s) (loopS b' n s')
  | 0, s, s', h => ⟨rfl, h⟩
  | n + 1, s, s', h => by
    have h1 := hb s s' h
    simp only [loopS]
    rw [h1.1]
    split
    · exact h1
    · split
      · exact ⟨rfl, h1.2⟩
      · exact sim_loop hb n _ _ h1.2
end
end
end Go.Proofs.YtckipeopgimenaaGreat
