/- Walks and plain laws that the claims of this seat lean on. No condition. -/
import Derived.Test.YtckipeopgimenaaGreatJ3
import Derived.Test.YtckipeopgimenaaGreatJ2
import Derived.Test.YtckipeopgimenaaGreatSimY
import Derived.Lib.ItoaNum
set_option linter.unusedVariables false
set_option linter.unusedSimpArgs false
namespace Go.Proofs.YtckipeopgimenaaGreat
open Go Go.Sim
section
set_option maxRecDepth 100000
attribute [local go_sem ↓] aw_skip aw_ret aw_exit aw_region aw_draw aw_seq aw_block aw_loop aw_cond frz_nil frz_cons sq_normal sq_ret sq_exit exB_normal exB_ret exB_same exB_other retQ_ret retQ_normal ret0_ret ret0_normal ao_nil go1 g_move g_assign g_pick g_build g_load g_binOp g_unOp g_convert g_fieldAddr g_field g_indexAddr g_index g_extract g_lookup g_slice g_nilCheck g_len g_makeFunc h_call h_append h_alloc h_box h_buildSlice h_makeSlice h_store gV i_box i_buildSlice i_move i_assign i_build i_load i_binOp i_unOp i_convert i_fieldAddr i_field i_indexAddr i_index i_extract i_lookup i_makeMap i_mapUpdate i_slice i_nilCheck i_makeFunc i_len i_max i_min i_alloc i_makeSlice i_store i_append i_call i_pick boxI boxA buildSliceI buildSliceA makeSliceA makeMapA allocA storeA p_move p_assign p_pick p_build p_load p_binOp p_unOp p_convert p_fieldAddr p_field p_indexAddr p_index p_extract p_lookup p_makeMap p_mapUpdate p_slice p_nilCheck p_makeFunc p_len p_max p_min p_alloc p_box p_buildSlice p_makeSlice p_store p_append p_call x_nil x_go1 x_g0 x_g1 x_g2 x_g3 x_s0 x_s1 x_s2 x_s3 u_move u_assign u_pick u_build u_load u_binOp u_unOp u_convert u_fieldAddr u_field u_indexAddr u_index u_extract u_lookup u_slice u_nilCheck u_makeFunc u_len u_buildSlice x_s4 x_g4 rq_normal rq_ret rq_exit aw_range
attribute [local go_sem] frzV_sl frzK_some set_none set_other AHeap.set_self set_del set_set cnd_t cnd_f cnd_b retA_one retA_two retA_three retA_four retA_nil gIf_b mrgV_b mrgV_wh mrgV_U gIf_U gIf_wh mrgB_f mrgB_some mrgB_if wh_true wh_false keepA_some keepA_if gD_zero gD_succ gT_some bxA_t bxA_f callA_fn ev_tmp ev_const ev_global ev_func oc_bool oc_int oc_string oc_nil oc_nilptr oc_nilfunc cl_bool cl_int cl_string cl_nil updO_some updO_none upd_same upd_other init_at pickA_b pickA_wh selA_t selA_f selA_and selA_or selA_orn selA_orm selA_bb selA_ii beqt b_add b_sub b_mul b_and b_or b_xor b_eql b_neq b_lss b_leq b_gtr b_geq b_quo b_rem b_shr b_seql b_sneq b_sadd b_beql b_bneq b_aeql b_aneq u_not u_neg isConstOp eqA eqCellV List.getD_cons_zero List.getD_cons_succ List.map_cons List.map_nil List.nil_append List.cons_append List.append_nil if_true if_false Option.map_some Option.map_none ne_eq not_false_eq_true oneA ldv ld1v ld1s wr1s ldRow stRow row_lit row_agg row_vsl row_sl row_ptr row_fn one_I one_B one_S one_vsl one_sl one_ptr one_fn extractA okA rI rS rU rClass rFault rExit rStart rLine Int.toNat_natCast List.length_cons List.length_nil List.length_map List.all_cons List.all_nil Bool.and_true Nat.zero_add List.getElem?_cons_zero List.getElem?_cons_succ List.take_succ_cons List.take_zero List.drop_succ_cons List.drop_zero and_self true_and and_true implies_true decide_eq_true_eq decide_eq_false_iff_not Bool.or_eq_true Bool.or_eq_false_iff Bool.and_eq_true Bool.not_eq_true' Bool.not_eq_false' beq_false decide_true decide_false Int.ofNat_lt Int.ofNat_le Int.natCast_nonneg Bool.or_true Bool.or_false Bool.true_or Bool.false_or beq_self_eq_true List.drop_one Bool.not_true Bool.not_false Bool.not_not Bool.false_eq_true Bool.true_eq_false false_implies true_implies Bool.true_and Bool.false_and Bool.and_false not_true_eq_false Int.natCast_eq_zero Int.natCast_pos Int.natCast_zero false_and and_false or_false false_or or_true true_or Bool.or_self none_le_iff List.replicate_zero Int.toNat_zero List.replicate_succ buildRows List.set_cons_zero List.set_cons_succ List.set_nil List.mapM_nil maxLen_eq Nat.zero_le Nat.mul_one Nat.one_mul bldA fillA spliceA List.take_nil List.drop_nil List.getElem?_nil ld1o wr1o bldSliceA le_same cv_i cvI_t quietT_fn qvd_some ld_o ldO_1 ldO_l wr_o wrO_1 set_2 set_3 set_4 putL_nil putL_cons List.zip_cons_cons List.zip_nil_left List.zip_nil_right List.toList_toArray frzV_set ti1 ti2 tk2 ti3 te3 ts3 tk3 tz3 ti4 tb4 ti5 tk5 tz5 ti9 te9 ts9 tk9 tz9 ti12 tk12 ti13 tp13 tf13_0 tf13_1 ti20 ti21 tk21 tz21 ti22 te22 tz22 ti23 te23 ti24 tp24 tf24_0 ti25 tp25 tf25_0 ti26 te26 ti28 ti29 te29 ti30 te30 ti31 tp31 tf31_0 ti32 tp32 tf32_0 ti33 tp33 tf33_0 tf33_1 tf33_2 tf33_3 ti34 tp34 tf34_0 tf34_1 tf34_2 tf34_3 ti35 ti36 ti37 ti38 ti40 ti42 ti43 ti44 tq44 tp44 tf44_0 tf44_1 tf44_2 ti45 tq45 tp45 tf45_0 tf45_1 tf45_2 ti47 ti48 ti49 tq49 tp49 tf49_0 tf49_1 tf49_2 tf49_3 ti50 tq50 tp50 tf50_0 tf50_1 tf50_2 tf50_3 ti51 ti52 ti54 ti55 ti56 ti57 te57 ti59 ti60 ti61 ti62 ti63 ti64 ti65 ti66 ti67 ti68 tq68 tp68 tf68_0 tf68_1 ti69 tq69 tp69 tf69_0 tf69_1 ti70 ti71 ti72 ti73 ti74 ti75 ti77 ti78 ti79 ti80 ti81 ti82 ti83 ti84 ti85 tq85 tp85 tf85_0 tf85_1 tf85_2 tf85_3 tf85_4 ti86 tq86 tp86 tf86_0 tf86_1 tf86_2 tf86_3 tf86_4 ti87 ti88 ti89 ti90 ti91 ti93 ti94 ti95 ti96 ti97 tq97 tp97 tf97_0 tf97_1 tf97_2 ti98 tq98 tp98 tf98_0 tf98_1 tf98_2 ti99 ti100 ti101 ti102 ti103 ti104 ti105 ti106 ti107 tp107 tf107_0 tf107_1 ti108 tp108 tf108_0 tf108_1 ti109 tp109 tf109_0 tf109_1 tf109_2 tf109_3 tf109_4 ti110 tp110 tf110_0 tf110_1 tf110_2 tf110_3 tf110_4 ti111 ti113 ti114 ti115 ti116 ti117 ti118 ti119 ti120 tp120 tf120_0 tf120_1 tf120_2 tf120_3 ti121 tp121 tf121_0 tf121_1 tf121_2 tf121_3 ti122 tq122 tp122 tf122_0 tf122_1 ti123 tq123 tp123 tf123_0 tf123_1 ti124 ti125 ti126 tq126 tp126 tf126_0 tf126_1 ti127 tq127 tp127 tf127_0 tf127_1 ti128 ti129 ti130 ti131 ti132 ti133 te133 ti134 ti135 ti136 ti137 ti138 ti139 ti140 ti141 ti142 ti143 ti144 tp144 tf144_0 tf144_1 tf144_2 ti145 tp145 tf145_0 tf145_1 tf145_2 ti146 ti147 ti148 ti149 ti150 te150 ti151 ti152 ti153 ti154 ti155 ti156 ti157 ti158 ti159 ti160 ti161 ti162 ti163 ti164 ti165 ti166 ti167 ti168 ti169 ti170 ti171 ti172 ti173 ti174 ti175 tk175 tz175 ti176 ti177 ti178 ti179 ti180 tk180 ti182 ti183 ti184 ti186 ti187 ti188 tk188 tz188 ti189 ti190 tk190 tz190 ti191 tk191 ti192 ti193 ti194 ti195 ti196 ti197 ti199 ti200 ti206 ti210 ti215 fp13_0 fv13_0 fp13_1 fv13_1 fp24_0 fv24_0 fp25_0 fv25_0 fp31_0 fv31_0 fp32_0 fv32_0 fp33_0 fv33_0 fp33_1 fv33_1 fp33_2 fv33_2 fp33_3 fv33_3 fp34_0 fv34_0 fp34_1 fv34_1 fp34_2 fv34_2 fp34_3 fv34_3 fp44_0 fv44_0 fp44_1 fv44_1 fp44_2 fv44_2 fp45_0 fv45_0 fp45_1 fv45_1 fp45_2 fv45_2 fp49_0 fv49_0 fp49_1 fv49_1 fp49_2 fv49_2 fp49_3 fv49_3 fp50_0 fv50_0 fp50_1 fv50_1 fp50_2 fv50_2 fp50_3 fv50_3 fp68_0 fv68_0 fp68_1 fv68_1 fp69_0 fv69_0 fp69_1 fv69_1 fp85_0 fv85_0 fp85_1 fv85_1 fp85_2 fv85_2 fp85_3 fv85_3 fp85_4 fv85_4 fp86_0 fv86_0 fp86_1 fv86_1 fp86_2 fv86_2 fp86_3 fv86_3 fp86_4 fv86_4 fp97_0 fv97_0 fp97_1 fv97_1 fp97_2 fv97_2 fp98_0 fv98_0 fp98_1 fv98_1 fp98_2 fv98_2 fp107_0 fv107_0 fp107_1 fv107_1 fp108_0 fv108_0 fp108_1 fv108_1 fp109_0 fv109_0 fp109_1 fv109_1 fp109_2 fv109_2 fp109_3 fv109_3 fp109_4 fv109_4 fp110_0 fv110_0 fp110_1 fv110_1 fp110_2 fv110_2 fp110_3 fv110_3 fp110_4 fv110_4 fp120_0 fv120_0 fp120_1 fv120_1 fp120_2 fv120_2 fp120_3 fv120_3 fp121_0 fv121_0 fp121_1 fv121_1 fp121_2 fv121_2 fp121_3 fv121_3 fp122_0 fv122_0 fp122_1 fv122_1 fp123_0 fv123_0 fp123_1 fv123_1 fp126_0 fv126_0 fp126_1 fv126_1 fp127_0 fv127_0 fp127_1 fv127_1 fp144_0 fv144_0 fp144_1 fv144_1 fp144_2 fv144_2 fp145_0 fv145_0 fp145_1 fv145_1 fp145_2 fv145_2 lv22 ll22 is22 ix22 sh22 so22 sb22 sm22 sp22 lv23 ll23 is23 ix23 sh23 so23 sb23 sm23 sp23 lv26 ll26 is26 ix26 sh26 so26 sb26 sm26 sp26 lv29 ll29 is29 ix29 sh29 so29 sb29 sm29 sp29 lv30 ll30 is30 ix30 sh30 so30 sb30 sm30 sp30 lv57 ll57 is57 ix57 sh57 so57 sb57 sm57 sp57 lv133 ll133 is133 sp133 lv150 ll150 is150 ix150 sh150 so150 sb150 sm150 sp150 xs9 ls9 sx9 sy9 sz9
section
open Go Go.Sim
set_option maxRecDepth 100000
set_option maxHeartbeats 4000000

def lastL (p : List Line) (k : Nat) : Line := if k = 0 then ⟨-1, 7, 0, 0⟩ else p.getD (k - 1) default
theorem lastL_rel (p : List Line) (k : Nat) : relOk p k = stepOk (lastL p k) (p.getD k default) := by
  unfold relOk lastL
  split
  · rfl
  · rfl
theorem lastL_succ (p : List Line) (k : Nat) : lastL p (k + 1) = p.getD k default := by unfold lastL; rw [if_neg (by omega), Nat.add_sub_cancel]
theorem c_ValidProgram (t : List Class) (cl : Bool) (p : List Line) (cl' : Bool) (H : AHeap) (hn : namesOk t) (hp : p.length ≤ 4398046511104) :
    ACalls Tryz.prog 13 [aTree t cl, aProg p cl'] H fun r H' => r = B (validB t p) ∧ H' = H := by
  refine acalls_of1 Tryz.func13 rfl (by kernel_rfl) rfl rfl (awp_sound (fz := fun r => if r = 6 then [7] else []) (im := fun s => s == 2) mixed _ _ _ _ (by kernel_rfl) ?_)
  simp +contextual -dsimp -implicitDefEqProofs (maxSteps := 5000000) only [go_sem, reduceIte, reduceCtorEq, Nat.reduceEqDiff, Nat.reduceBEq, Nat.reduceAdd, Nat.reduceLeDiff, Nat.reduceMul, Nat.reduceLT, Int.reduceEq, Int.reduceLT, Int.reduceLE]
  refine (c_ValidTree t cl _ hn).det ?_
  cases e1 : validT t
  · rw [validB_false.2 (fun q => by rw [q.1] at e1; cases e1)]
    simp +contextual -dsimp -implicitDefEqProofs (maxSteps := 5000000) only [go_sem, reduceIte, reduceCtorEq, Nat.reduceEqDiff, Nat.reduceBEq, Nat.reduceAdd, Nat.reduceLeDiff, Nat.reduceMul, Nat.reduceLT, Int.reduceEq, Int.reduceLT, Int.reduceLE]
    refine retR_less (l := [B false]) (H' := H) ?_ (AHeap.le_refl _) ⟨rfl, rfl⟩
    simp only [resA, go_sem, reduceIte, reduceCtorEq, Nat.reduceEqDiff, Nat.reduceBEq, Nat.reduceAdd, Nat.reduceLeDiff, Nat.reduceMul, Nat.reduceLT, Int.reduceEq, Int.reduceLT, Int.reduceLE]
  · by_cases h24 : (24 : Int) < p.length
    · rw [validB_false.2 (fun q => by have := q.2.1; omega)]
      simp +contextual -dsimp -implicitDefEqProofs (maxSteps := 5000000) only [go_sem, reduceIte, reduceCtorEq, Nat.reduceEqDiff, Nat.reduceBEq, Nat.reduceAdd, Nat.reduceLeDiff, Nat.reduceMul, Nat.reduceLT, Int.reduceEq, Int.reduceLT, Int.reduceLE, h24]
      refine retR_less (l := [B false]) (H' := H) ?_ (AHeap.le_refl _) ⟨rfl, rfl⟩
      simp only [resA, go_sem, reduceIte, reduceCtorEq, Nat.reduceEqDiff, Nat.reduceBEq, Nat.reduceAdd, Nat.reduceLeDiff, Nat.reduceMul, Nat.reduceLT, Int.reduceEq, Int.reduceLT, Int.reduceLE]
    · simp +contextual -dsimp -implicitDefEqProofs (maxSteps := 5000000) only [go_sem, reduceIte, reduceCtorEq, Nat.reduceEqDiff, Nat.reduceBEq, Nat.reduceAdd, Nat.reduceLeDiff, Nat.reduceMul, Nat.reduceLT, Int.reduceEq, Int.reduceLT, Int.reduceLE, h24]
      intro b5 hb5
      refine aloop mixed (fz := fun r => if r = 6 then [7] else []) (im := fun s => s == 2) (by kernel_rfl) (fun m tm H' => ∃ k : Nat, m = p.length - k ∧ k ≤ p.length ∧ H' = H.set b5 ⟨4, 50, [rLine (lastL p k)]⟩ ∧ tm 1 = aProg p cl' ∧ tm 2 = .vptr [[.vsl (t.map rClass) cl]] 0 0 ∧ tm 5 = .ptr b5 4 0 0 ∧ tm 17 = aProg p cl' ∧ tm 18 = I p.length ∧ tm 19 = I k ∧ ∀ i, i < k → (oneOk t (p.getD i default) && relOk p i) = true) p.length ⟨0, by omega, by omega, rfl, ?_⟩ ?_
      · simp +contextual -dsimp -implicitDefEqProofs (maxSteps := 5000000) only [go_sem, reduceIte, reduceCtorEq, Nat.reduceEqDiff, Nat.reduceBEq, Nat.reduceAdd, Nat.reduceLeDiff, Nat.reduceMul, Nat.reduceLT, Int.reduceEq, Int.reduceLT, Int.reduceLE]
        exact fun i hi => by omega
      · rintro m tm H' ⟨k, rfl, hk, rfl, t1, t2, t5, t17, t18, t19, hok⟩
        by_cases hlt : k < p.length
        · have hld : -1 ≤ (lastL p k).depth ∧ (lastL p k).depth ≤ 5 := by
            unfold lastL
            split
            · exact ⟨by show (-1 : Int) ≤ -1; omega, by show (-1 : Int) ≤ 5; omega⟩
            · have := hok (k - 1) (by omega)
              rw [Bool.and_eq_true] at this
              have := inR5 (oneOk_num this.1).2
              omega
          have hw : IntKind.i64.wrap ((lastL p k).depth + 1) = (lastL p k).depth + 1 := w64 (by omega) (by omega)
          have bad : (oneOk t (p.getD k default) && relOk p k) = false → B false = B (validB t p) := fun q => by
            rw [validB_false.2 (fun v => ?_)]
            have := ((validP_lines t p).1 v).1 k hlt
            simp only [lineOk, Bool.and_eq_true] at this
            rw [this.1, this.2.1.1] at q
            cases q
          have hrl := lastL_rel p k
          unfold oneOk at bad
          have nxt : numOk t (p.getD k default).kind (p.getD k default).a (p.getD k default).b = true → inR (p.getD k default).depth 0 5 = true → relOk p k = true → ∀ i, i < k + 1 → oneOk t (p.getD i default) = true ∧ relOk p i = true := fun q1 q2 q3 i hi => by
            rcases Nat.lt_or_ge i k with z | z
            · have := hok i z; rw [Bool.and_eq_true] at this; exact this
            · rw [show i = k by omega]; exact ⟨by unfold oneOk; rw [q1, q2]; rfl, q3⟩
          simp +contextual -dsimp -implicitDefEqProofs (maxSteps := 5000000) only [go_sem, reduceIte, reduceCtorEq, Nat.reduceEqDiff, Nat.reduceBEq, Nat.reduceAdd, Nat.reduceLeDiff, Nat.reduceMul, Nat.reduceLT, Int.reduceEq, Int.reduceLT, Int.reduceLE, t1, t2, t5, t17, t18, t19, hlt]
          intro b7 hb7
          refine (c_argued t cl (p.getD k default) _).det ?_
          cases h1 : numOk t (p.getD k default).kind (p.getD k default).a (p.getD k default).b
          · have hb := bad (by rw [h1]; rfl)
            simp +contextual -dsimp -implicitDefEqProofs (maxSteps := 5000000) only [go_sem, reduceIte, reduceCtorEq, Nat.reduceEqDiff, Nat.reduceBEq, Nat.reduceAdd, Nat.reduceLeDiff, Nat.reduceMul, Nat.reduceLT, Int.reduceEq, Int.reduceLT, Int.reduceLE, t1, t2, t5, t17, t18, t19, hb7]
            rw [hb]
            refine retR_less (l := [B (validB t p)]) (H' := H) ?_ (le_set hb5) ⟨rfl, rfl⟩
            simp only [resA, go_sem, reduceIte, reduceCtorEq, Nat.reduceEqDiff, Nat.reduceBEq, Nat.reduceAdd, Nat.reduceLeDiff, Nat.reduceMul, Nat.reduceLT, Int.reduceEq, Int.reduceLT, Int.reduceLE]
          · simp +contextual -dsimp -implicitDefEqProofs (maxSteps := 5000000) only [go_sem, reduceIte, reduceCtorEq, Nat.reduceEqDiff, Nat.reduceBEq, Nat.reduceAdd, Nat.reduceLeDiff, Nat.reduceMul, Nat.reduceLT, Int.reduceEq, Int.reduceLT, Int.reduceLE, t1, t2, t5, t17, t18, t19, hb7]
            refine (c_within _ _ _ _).det ?_
            cases h2 : inR (p.getD k default).depth 0 5
            · have hb := bad (by rw [h1, h2]; rfl)
              simp +contextual -dsimp -implicitDefEqProofs (maxSteps := 5000000) only [go_sem, reduceIte, reduceCtorEq, Nat.reduceEqDiff, Nat.reduceBEq, Nat.reduceAdd, Nat.reduceLeDiff, Nat.reduceMul, Nat.reduceLT, Int.reduceEq, Int.reduceLT, Int.reduceLE, t1, t2, t5, t17, t18, t19, hb7]
              rw [hb]
              refine retR_less (l := [B (validB t p)]) (H' := H) ?_ (le_set hb5) ⟨rfl, rfl⟩
              simp only [resA, go_sem, reduceIte, reduceCtorEq, Nat.reduceEqDiff, Nat.reduceBEq, Nat.reduceAdd, Nat.reduceLeDiff, Nat.reduceMul, Nat.reduceLT, Int.reduceEq, Int.reduceLT, Int.reduceLE]
            · simp +contextual -dsimp -implicitDefEqProofs (maxSteps := 5000000) only [go_sem, reduceIte, reduceCtorEq, Nat.reduceEqDiff, Nat.reduceBEq, Nat.reduceAdd, Nat.reduceLeDiff, Nat.reduceMul, Nat.reduceLT, Int.reduceEq, Int.reduceLT, Int.reduceLE, t1, t2, t5, t17, t18, t19, hb7]
              refine (c_lineOpens (lastL p k) _).det ?_
              cases ho : opensK (lastL p k).kind
              · simp +contextual -dsimp -implicitDefEqProofs (maxSteps := 5000000) only [go_sem, reduceIte, reduceCtorEq, Nat.reduceEqDiff, Nat.reduceBEq, Nat.reduceAdd, Nat.reduceLeDiff, Nat.reduceMul, Nat.reduceLT, Int.reduceEq, Int.reduceLT, Int.reduceLE, t1, t2, t5, t17, t18, t19, hb7]
                refine (c_lineOpens (lastL p k) _).det ?_
                rw [ho]
                by_cases e : (lastL p k).depth < (p.getD k default).depth
                · have hb := bad (by rw [h1, h2, hrl]; unfold stepOk; rw [ho, if_neg (by decide), decide_eq_false (by omega)]; rfl)
                  simp +contextual -dsimp -implicitDefEqProofs (maxSteps := 5000000) only [go_sem, reduceIte, reduceCtorEq, Nat.reduceEqDiff, Nat.reduceBEq, Nat.reduceAdd, Nat.reduceLeDiff, Nat.reduceMul, Nat.reduceLT, Int.reduceEq, Int.reduceLT, Int.reduceLE, t1, t2, t5, t17, t18, t19, hb7, e]
                  rw [hb]
                  refine retR_less (l := [B (validB t p)]) (H' := H) ?_ (le_set hb5) ⟨rfl, rfl⟩
                  simp only [resA, go_sem, reduceIte, reduceCtorEq, Nat.reduceEqDiff, Nat.reduceBEq, Nat.reduceAdd, Nat.reduceLeDiff, Nat.reduceMul, Nat.reduceLT, Int.reduceEq, Int.reduceLT, Int.reduceLE]
                · simp +contextual -dsimp -implicitDefEqProofs (maxSteps := 5000000) only [go_sem, reduceIte, reduceCtorEq, Nat.reduceEqDiff, Nat.reduceBEq, Nat.reduceAdd, Nat.reduceLeDiff, Nat.reduceMul, Nat.reduceLT, Int.reduceEq, Int.reduceLT, Int.reduceLE, t1, t2, t5, t17, t18, t19, hb7, e]
                  refine ⟨_, by omega, k + 1, rfl, hlt, by rw [lastL_succ], I_wrap (by omega) (by omega) (by omega), ?_⟩
                  exact nxt h1 h2 (by rw [hrl]; unfold stepOk; rw [ho, if_neg (by decide)]; exact decide_eq_true (by omega))
              · by_cases e : (p.getD k default).depth = (lastL p k).depth + 1
                · simp +contextual -dsimp -implicitDefEqProofs (maxSteps := 5000000) only [go_sem, reduceIte, reduceCtorEq, Nat.reduceEqDiff, Nat.reduceBEq, Nat.reduceAdd, Nat.reduceLeDiff, Nat.reduceMul, Nat.reduceLT, Int.reduceEq, Int.reduceLT, Int.reduceLE, t1, t2, t5, t17, t18, t19, hb7, hw, e]
                  refine (c_lineOpens (lastL p k) _).det ?_
                  rw [ho]
                  simp +contextual -dsimp -implicitDefEqProofs (maxSteps := 5000000) only [go_sem, reduceIte, reduceCtorEq, Nat.reduceEqDiff, Nat.reduceBEq, Nat.reduceAdd, Nat.reduceLeDiff, Nat.reduceMul, Nat.reduceLT, Int.reduceEq, Int.reduceLT, Int.reduceLE, t1, t2, t5, t17, t18, t19, hb7]
                  refine ⟨_, by omega, k + 1, rfl, hlt, by rw [lastL_succ], I_wrap (by omega) (by omega) (by omega), ?_⟩
                  exact nxt h1 h2 (by rw [hrl]; unfold stepOk; rw [ho, if_pos rfl]; exact decide_eq_true e)
                · have hb := bad (by rw [h1, h2, hrl]; unfold stepOk; rw [ho, if_pos rfl, decide_eq_false e]; rfl)
                  simp +contextual -dsimp -implicitDefEqProofs (maxSteps := 5000000) only [go_sem, reduceIte, reduceCtorEq, Nat.reduceEqDiff, Nat.reduceBEq, Nat.reduceAdd, Nat.reduceLeDiff, Nat.reduceMul, Nat.reduceLT, Int.reduceEq, Int.reduceLT, Int.reduceLE, t1, t2, t5, t17, t18, t19, hb7, hw, e]
                  rw [hb]
                  refine retR_less (l := [B (validB t p)]) (H' := H) ?_ (le_set hb5) ⟨rfl, rfl⟩
                  simp only [resA, go_sem, reduceIte, reduceCtorEq, Nat.reduceEqDiff, Nat.reduceBEq, Nat.reduceAdd, Nat.reduceLeDiff, Nat.reduceMul, Nat.reduceLT, Int.reduceEq, Int.reduceLT, Int.reduceLE]
        · have hke : k = p.length := by omega
          subst hke
          have hok1 : ∀ i, i < p.length → oneOk t (p.getD i default) = true := fun i hi => by have := hok i hi; rw [Bool.and_eq_true] at this; exact this.1
          have hok2 : ∀ i, i < p.length → relOk p i = true := fun i hi => by have := hok i hi; rw [Bool.and_eq_true] at this; exact this.2
          have h24' : p.length ≤ 24 := by omega
          by_cases hp0 : p.length = 0
          · have hpn : p = [] := List.eq_nil_of_length_eq_zero hp0
            have hat := at_top (f := .nil) (p := p) hpn
            have hblk := c_blockOk p cl' hp 1 .nil 0 0 false (H.set b5 ⟨4, 50, [rLine (lastL p 0)]⟩) (by simp [Fo.size]) hat
            have e0 : ((0 + Fo.nil.size : Nat) : Int) = 0 := rfl
            have e1' : ((0 : Nat) : Int) = 0 := rfl
            rw [e0, e1'] at hblk
            have hv : validB t p = true := validB_true.2 ⟨e1, h24', .nil, hpn, rfl, rfl⟩
            have hp0' : (p.length : Int) = 0 := by omega
            rw [hv]
            simp +contextual -dsimp -implicitDefEqProofs (maxSteps := 5000000) only [go_sem, reduceIte, reduceCtorEq, Nat.reduceEqDiff, Nat.reduceBEq, Nat.reduceAdd, Nat.reduceLeDiff, Nat.reduceMul, Nat.reduceLT, Int.reduceEq, Int.reduceLT, Int.reduceLE, t1, t2, t5, t17, t18, t19, hlt, hp0, hp0']
            refine hblk.det ?_
            simp +contextual -dsimp -implicitDefEqProofs (maxSteps := 5000000) only [go_sem, reduceIte, reduceCtorEq, Nat.reduceEqDiff, Nat.reduceBEq, Nat.reduceAdd, Nat.reduceLeDiff, Nat.reduceMul, Nat.reduceLT, Int.reduceEq, Int.reduceLT, Int.reduceLE, okF]
            refine retR_less (l := [B true]) (H' := H) ?_ (le_set hb5) ⟨rfl, rfl⟩
            simp only [resA, go_sem, reduceIte, reduceCtorEq, Nat.reduceEqDiff, Nat.reduceBEq, Nat.reduceAdd, Nat.reduceLeDiff, Nat.reduceMul, Nat.reduceLT, Int.reduceEq, Int.reduceLT, Int.reduceLE]
          · have hp0' : ¬ (p.length : Int) = 0 := by omega
            have hlast : lastL p p.length = p.getD (p.length - 1) default := by unfold lastL; rw [if_neg hp0]
            simp +contextual -dsimp -implicitDefEqProofs (maxSteps := 5000000) only [go_sem, reduceIte, reduceCtorEq, Nat.reduceEqDiff, Nat.reduceBEq, Nat.reduceAdd, Nat.reduceLeDiff, Nat.reduceMul, Nat.reduceLT, Int.reduceEq, Int.reduceLT, Int.reduceLE, t1, t2, t5, t17, t18, t19, hlt, hp0, hp0']
            refine (c_lineOpens (lastL p p.length) _).det ?_
            cases ho : opensK (lastL p p.length).kind
            · have hd : depT t p = true := (depT_iff t p).2 ⟨hok1, fun i hi => by
                have := hok2 (i + 1) hi
                unfold relOk at this
                rw [if_neg (by omega), Nat.add_sub_cancel] at this
                exact this, fun _ => by rw [← hlast]; exact ho⟩
              obtain ⟨f, hf, hnf⟩ := forest_top hd (fun hne => by
                have := hok2 0 (by omega)
                unfold relOk at this
                rw [if_pos rfl] at this
                simpa using this)
              have hat := at_top hf
              have hfs : f.size = p.length := by rw [hf, flat_len]
              have hblk := c_blockOk p cl' hp (f.size + 1) f 0 0 false (H.set b5 ⟨4, 50, [rLine (lastL p p.length)]⟩) (by omega) hat
              have e0 : ((0 + f.size : Nat) : Int) = p.length := by omega
              have e1' : ((0 : Nat) : Int) = 0 := rfl
              rw [e0, e1'] at hblk
              have hv : validB t p = okF f false false := validB_is (validP_blocks e1 h24' hf hnf)
              rw [hv]
              simp +contextual -dsimp -implicitDefEqProofs (maxSteps := 5000000) only [go_sem, reduceIte, reduceCtorEq, Nat.reduceEqDiff, Nat.reduceBEq, Nat.reduceAdd, Nat.reduceLeDiff, Nat.reduceMul, Nat.reduceLT, Int.reduceEq, Int.reduceLT, Int.reduceLE, t1, t2, t5, t17, t18, t19, hp0']
              refine hblk.det ?_
              simp +contextual -dsimp -implicitDefEqProofs (maxSteps := 5000000) only [go_sem, reduceIte, reduceCtorEq, Nat.reduceEqDiff, Nat.reduceBEq, Nat.reduceAdd, Nat.reduceLeDiff, Nat.reduceMul, Nat.reduceLT, Int.reduceEq, Int.reduceLT, Int.reduceLE]
              refine retR_less (l := [B (okF f false false)]) (H' := H) ?_ (le_set hb5) ⟨rfl, rfl⟩
              simp only [resA, go_sem, reduceIte, reduceCtorEq, Nat.reduceEqDiff, Nat.reduceBEq, Nat.reduceAdd, Nat.reduceLeDiff, Nat.reduceMul, Nat.reduceLT, Int.reduceEq, Int.reduceLT, Int.reduceLE]
            · have hv : validB t p = false := validB_false.2 fun v => by
                have := (lastI_eq (t := t) (p := p)).1 ((validP_lines t p).1 v).1
                have := ((depT_iff t p).1 this.1.1).2.2 (fun q => hp0 (by rw [q]; rfl))
                rw [← hlast, ho] at this
                cases this
              rw [hv]
              simp +contextual -dsimp -implicitDefEqProofs (maxSteps := 5000000) only [go_sem, reduceIte, reduceCtorEq, Nat.reduceEqDiff, Nat.reduceBEq, Nat.reduceAdd, Nat.reduceLeDiff, Nat.reduceMul, Nat.reduceLT, Int.reduceEq, Int.reduceLT, Int.reduceLE, t1, t2, t5, t17, t18, t19, hp0']
              refine retR_less (l := [B false]) (H' := H) ?_ (le_set hb5) ⟨rfl, rfl⟩
              simp only [resA, go_sem, reduceIte, reduceCtorEq, Nat.reduceEqDiff, Nat.reduceBEq, Nat.reduceAdd, Nat.reduceLeDiff, Nat.reduceMul, Nat.reduceLT, Int.reduceEq, Int.reduceLT, Int.reduceLE]
end
section
open Go Go.Sim
set_option maxRecDepth 100000
set_option maxHeartbeats 4000000

def rEn (e : En) : List AV := [I e.ed, I e.val]
abbrev MachS (F H : AHeap) (bm : Nat) (t : List Class) (cl : Bool) (P : List Line) (clp : Bool) (s : RS) : Prop := Mach F H bm (.vsl (t.map rClass) cl) (aProg P clp) s.log s.fs s.first
/-- Shorter lists of lines can be run. -/
def LinesOk (t : List Class) (cl : Bool) (P : List Line) (clp : Bool) (n : Nat) : Prop :=
  ∀ (f : Fo) (i : Nat) (d h : Int) (s : RS) (F H : AHeap) (bm : Nat), f.size < n → At P i d f → numsF t f d = true → FsOk t s.fs → h < s.fs.length → s.log.length + cost f ≤ 900000 → s.fs.length + cost f ≤ 900000 → MachS F H bm t cl P clp s →
    ACalls Tryz.prog 36 [.ptr bm 5 0 0, I i, I (i + f.size : Nat), I h] H fun r H' => r = .agg (rEn (runF t f i none h s).1) ∧ MachS F H' bm t cl P clp (runF t f i none h s).2
theorem c_block {t : List Class} {cl : Bool} {P : List Line} {clp : Bool} {n : Nat} (ih : LinesOk t cl P clp n) {i : Nat} {d k a b h : Int} {kids rest : Fo} {s : RS} {F H : AHeap} {bm : Nat}
    (hn : kids.size < n) (hat : At P i d (.node k a b kids rest)) (hk : numsF t kids (d + 1) = true) (hs : FsOk t s.fs) (hh : h < s.fs.length) (hl : s.log.length + cost kids ≤ 900000) (hf : s.fs.length + cost kids ≤ 900000) (hM : MachS F H bm t cl P clp s) (hp : P.length ≤ 4398046511104) :
    ACalls Tryz.prog 120 [.ptr bm 5 0 0, I i, I h] H fun r H' => r = .agg (rEn (runF t kids (i + 1) none h s).1) ∧ MachS F H' bm t cl P clp (runF t kids (i + 1) none h s).2 := by
  have hi := hat.head.1
  have hw : IntKind.i64.wrap ((i : Int) + 1) = ((i + 1 : Nat) : Int) := by rw [w64 (by omega) (by omega)]; rfl
  refine acalls_of1 Tryz.func120 rfl (by kernel_rfl) rfl rfl (awp_sound (fz := fun _ => []) (im := fun _ => false) mixed _ _ _ _ (by kernel_rfl) ?_)
  simp +contextual -dsimp -implicitDefEqProofs (maxSteps := 5000000) only [go_sem, reduceIte, reduceCtorEq, Nat.reduceEqDiff, Nat.reduceBEq, Nat.reduceAdd, Nat.reduceLeDiff, Nat.reduceMul, Nat.reduceLT, Int.reduceEq, Int.reduceLT, Int.reduceLE, hw]
  intro b6 hb6
  obtain ⟨xl, xf, H1, H2, hF, hg1, hg2, hb, rfl⟩ := id hM
  have hb6' := hb6
  rw [set_none] at hb6'
  obtain ⟨n1, n2, hn2⟩ := hb6'
  simp +contextual -dsimp -implicitDefEqProofs (maxSteps := 5000000) only [go_sem, reduceIte, reduceCtorEq, Nat.reduceEqDiff, Nat.reduceBEq, Nat.reduceAdd, Nat.reduceLeDiff, Nat.reduceMul, Nat.reduceLT, Int.reduceEq, Int.reduceLT, Int.reduceLE, hw, n1, n2]
  refine (c_endOf P clp i _ hi).det ?_
  rw [hat.endP]
  simp +contextual -dsimp -implicitDefEqProofs (maxSteps := 5000000) only [go_sem, reduceIte, reduceCtorEq, Nat.reduceEqDiff, Nat.reduceBEq, Nat.reduceAdd, Nat.reduceLeDiff, Nat.reduceMul, Nat.reduceLT, Int.reduceEq, Int.reduceLT, Int.reduceLE, hw, n1, n2]
  refine (ih kids (i + 1) (d + 1) h s _ _ bm hn hat.kids hk hs hh hl hf (mach_in (K := ⟨2, 69, [[I 0, I 0]]⟩) hM hb6)).mono ?_
  rintro _ H3 ⟨rfl, hM3⟩
  obtain ⟨H4, rfl, hM4, hn4⟩ := mach_out hM3 (mach_none hM hb6)
  simp +contextual -dsimp -implicitDefEqProofs (maxSteps := 5000000) only [go_sem, reduceIte, reduceCtorEq, Nat.reduceEqDiff, Nat.reduceBEq, Nat.reduceAdd, Nat.reduceLeDiff, Nat.reduceMul, Nat.reduceLT, Int.reduceEq, Int.reduceLT, Int.reduceLE, rEn]
  refine retR_less (l := [.agg (rEn (runF t kids (i + 1) none h s).1)]) (H' := H4) ?_ (le_set hn4) ⟨rfl, hM4⟩
  simp only [resA, go_sem, reduceIte, reduceCtorEq, Nat.reduceEqDiff, Nat.reduceBEq, Nat.reduceAdd, Nat.reduceLeDiff, Nat.reduceMul, Nat.reduceLT, Int.reduceEq, Int.reduceLT, Int.reduceLE, rEn]
end
section
open Go Go.Sim
set_option maxRecDepth 100000
set_option maxHeartbeats 4000000

theorem c_line {t : List Class} {cl : Bool} {P : List Line} {clp : Bool} {n : Nat} (ht : validT t = true) (ih : LinesOk t cl P clp n) {i : Nat} {d k a b h : Int} {kids rest : Fo} {s : RS} {F H : AHeap} {bm : Nat}
    (hn : kids.size < n) (hat : At P i d (.node k a b kids rest)) (hno : numOk t k a b = true) (hk : numsF t kids (d + 1) = true) (hs : FsOk t s.fs) (hh : h < s.fs.length) (hl : s.log.length + (2 + (if k = 12 then a.toNat * cost kids else cost kids)) ≤ 900000) (hf : s.fs.length + (2 + (if k = 12 then a.toNat * cost kids else cost kids)) ≤ 900000) (hM : MachS F H bm t cl P clp s) (hp : P.length ≤ 4398046511104) :
    ACalls Tryz.prog 80 [.ptr bm 5 0 0, I i, I h] H fun r H' => r = .agg (rEn (lineR k a b i h (fun s => runF t kids (i + 1) none h s) s).1) ∧ MachS F H' bm t cl P clp (lineR k a b i h (fun s => runF t kids (i + 1) none h s) s).2 := by
  have hi := hat.head.1
  have hx := hat.head.2
  obtain ⟨xl, xf, H1, H2, hF, hg1, hg2, hb, rfl⟩ := id hM
  refine acalls_of1 Tryz.func80 rfl (by kernel_rfl) rfl rfl (awp_sound (fz := fun r => if r = 1 then [7] else if r = 21 then [8] else if r = 29 then [9] else []) (im := fun _ => false) mixed _ _ _ _ (by kernel_rfl) ?_)
  simp +contextual -dsimp -implicitDefEqProofs (maxSteps := 5000000) only [go_sem, reduceIte, reduceCtorEq, Nat.reduceEqDiff, Nat.reduceBEq, Nat.reduceAdd, Nat.reduceLeDiff, Nat.reduceMul, Nat.reduceLT, Int.reduceEq, Int.reduceLT, Int.reduceLE, hi, hx]
  rintro b6 ⟨n1, n2, hn2⟩
  rintro b7 hb7
  refine (c_lineJumps ⟨d, k, a, b⟩ _).det ?_
  have nb6 : ∀ K, (H2.set bm K) b6 = none := fun K => by rw [set_other n1]; exact hn2
  have hF6 : F b6 = none := grow_none hg1 (grow_none hg2 hn2)
  have jump1 : s.first < 0 → jumpsK k = true → s.jump k i = ⟨s.log, s.fs, (i : Int)⟩ := fun q1 q2 => by unfold RS.jump; rw [if_pos ⟨q2, q1⟩]
  have jump0 : ¬ s.first < 0 → s.jump k i = ⟨s.log, s.fs, s.first⟩ := fun q1 => by unfold RS.jump; rw [if_neg (fun q => q1 q.2)]
  have jumpn : jumpsK k = false → s.jump k i = ⟨s.log, s.fs, s.first⟩ := fun q1 => by unfold RS.jump; rw [if_neg (fun q => by rw [q1] at q; cases q.1)]
  have hMi : ∀ v : Int, Mach F (H2.set bm ⟨5, 110, [[.vsl (t.map rClass) cl, aProg P clp, xl, xf, I v]]⟩) bm (.vsl (t.map rClass) cl) (aProg P clp) s.log s.fs v := fun v => ⟨xl, xf, H1, H2, hF, hg1, hg2, hb, rfl⟩
  have hfl : s.fs.length < 999999 := by omega
  by_cases k2 : k = 2
  · have hj : jumpsK k = true := by rw [k2]; rfl
    by_cases hf0 : s.first < 0
    · have e : lineR k a b i h (fun s => runF t kids (i + 1) none h s) s = (⟨2, s.fs.length⟩, ⟨s.log, raiseF s.fs a b h, (i : Int)⟩) := by
        unfold lineR lineS; rw [jump1 hf0 hj, if_neg (by omega), if_neg (by omega), if_neg (by omega), if_pos k2]; rfl
      rw [e]
      simp +contextual -dsimp -implicitDefEqProofs (maxSteps := 5000000) only [go_sem, reduceIte, reduceCtorEq, Nat.reduceEqDiff, Nat.reduceBEq, Nat.reduceAdd, Nat.reduceLeDiff, Nat.reduceMul, Nat.reduceLT, Int.reduceEq, Int.reduceLT, Int.reduceLE, hi, hx, n1, n2, k2, hf0, hj, show jumpsK 2 = true from rfl]
      refine (c_raise _ _ bm _ _ s.log s.fs (i : Int) a b h (mach_in (K := ⟨2, 69, [[I 0, I 0]]⟩) (hMi (i : Int)) (nb6 _)) hfl hs.ho (by omega)).mono ?_
      rintro _ H9 ⟨rfl, hM9⟩
      obtain ⟨H10, rfl, hM10, hn10⟩ := mach_out hM9 hF6
      simp +contextual -dsimp -implicitDefEqProofs (maxSteps := 5000000) only [go_sem, reduceIte, reduceCtorEq, Nat.reduceEqDiff, Nat.reduceBEq, Nat.reduceAdd, Nat.reduceLeDiff, Nat.reduceMul, Nat.reduceLT, Int.reduceEq, Int.reduceLT, Int.reduceLE, hi, hx, n1, n2, k2, hf0, hj, show jumpsK 2 = true from rfl]
      refine retR_less (l := [.agg (rEn ⟨2, s.fs.length⟩)]) (H' := H10) ?_ (le_set hn10) ⟨rfl, hM10⟩
      simp only [resA, go_sem, reduceIte, reduceCtorEq, Nat.reduceEqDiff, Nat.reduceBEq, Nat.reduceAdd, Nat.reduceLeDiff, Nat.reduceMul, Nat.reduceLT, Int.reduceEq, Int.reduceLT, Int.reduceLE, rEn]
    · have e : lineR k a b i h (fun s => runF t kids (i + 1) none h s) s = (⟨2, s.fs.length⟩, ⟨s.log, raiseF s.fs a b h, s.first⟩) := by
        unfold lineR lineS; rw [jump0 hf0, if_neg (by omega), if_neg (by omega), if_neg (by omega), if_pos k2]; rfl
      rw [e]
      simp +contextual -dsimp -implicitDefEqProofs (maxSteps := 5000000) only [go_sem, reduceIte, reduceCtorEq, Nat.reduceEqDiff, Nat.reduceBEq, Nat.reduceAdd, Nat.reduceLeDiff, Nat.reduceMul, Nat.reduceLT, Int.reduceEq, Int.reduceLT, Int.reduceLE, hi, hx, n1, n2, k2, hf0, hj, show jumpsK 2 = true from rfl]
      refine (c_raise _ _ bm _ _ s.log s.fs s.first a b h (mach_in (K := ⟨2, 69, [[I 0, I 0]]⟩) (hMi s.first) (nb6 _)) hfl hs.ho (by omega)).mono ?_
      rintro _ H9 ⟨rfl, hM9⟩
      obtain ⟨H10, rfl, hM10, hn10⟩ := mach_out hM9 hF6
      simp +contextual -dsimp -implicitDefEqProofs (maxSteps := 5000000) only [go_sem, reduceIte, reduceCtorEq, Nat.reduceEqDiff, Nat.reduceBEq, Nat.reduceAdd, Nat.reduceLeDiff, Nat.reduceMul, Nat.reduceLT, Int.reduceEq, Int.reduceLT, Int.reduceLE, hi, hx, n1, n2, k2, hf0, hj, show jumpsK 2 = true from rfl]
      refine retR_less (l := [.agg (rEn ⟨2, s.fs.length⟩)]) (H' := H10) ?_ (le_set hn10) ⟨rfl, hM10⟩
      simp only [resA, go_sem, reduceIte, reduceCtorEq, Nat.reduceEqDiff, Nat.reduceBEq, Nat.reduceAdd, Nat.reduceLeDiff, Nat.reduceMul, Nat.reduceLT, Int.reduceEq, Int.reduceLT, Int.reduceLE, rEn]
  by_cases k3 : k = 3
  · have hj : jumpsK k = true := by rw [k3]; rfl
    by_cases hf0 : s.first < 0
    · by_cases hh0 : h < 0
      · have e : lineR k a b i h (fun s => runF t kids (i + 1) none h s) s = (⟨2, s.fs.length⟩, ⟨s.log, raiseF s.fs 0 0 (-1), (i : Int)⟩) := by
          unfold lineR lineS; rw [jump1 hf0 hj, if_neg (by omega), if_neg (by omega), if_neg (by omega), if_neg (by omega), if_pos k3, if_pos hh0]; rfl
        rw [e]
        simp +contextual -dsimp -implicitDefEqProofs (maxSteps := 5000000) only [go_sem, reduceIte, reduceCtorEq, Nat.reduceEqDiff, Nat.reduceBEq, Nat.reduceAdd, Nat.reduceLeDiff, Nat.reduceMul, Nat.reduceLT, Int.reduceEq, Int.reduceLT, Int.reduceLE, hi, hx, n1, n2, k3, hf0, hj, show jumpsK 3 = true from rfl, hh0]
        refine (c_raise _ _ bm _ _ s.log s.fs (i : Int) 0 0 (-1) (mach_in (K := ⟨2, 69, [[I 0, I 0]]⟩) (hMi (i : Int)) (nb6 _)) hfl hs.ho (by omega)).mono ?_
        rintro _ H9 ⟨rfl, hM9⟩
        obtain ⟨H10, rfl, hM10, hn10⟩ := mach_out hM9 hF6
        simp +contextual -dsimp -implicitDefEqProofs (maxSteps := 5000000) only [go_sem, reduceIte, reduceCtorEq, Nat.reduceEqDiff, Nat.reduceBEq, Nat.reduceAdd, Nat.reduceLeDiff, Nat.reduceMul, Nat.reduceLT, Int.reduceEq, Int.reduceLT, Int.reduceLE, hi, hx, n1, n2, k3, hf0, hj, show jumpsK 3 = true from rfl, hh0]
        refine retR_less (l := [.agg (rEn ⟨2, s.fs.length⟩)]) (H' := H10) ?_ (le_set hn10) ⟨rfl, hM10⟩
        simp only [resA, go_sem, reduceIte, reduceCtorEq, Nat.reduceEqDiff, Nat.reduceBEq, Nat.reduceAdd, Nat.reduceLeDiff, Nat.reduceMul, Nat.reduceLT, Int.reduceEq, Int.reduceLT, Int.reduceLE, rEn]
      · have e : lineR k a b i h (fun s => runF t kids (i + 1) none h s) s = (⟨2, h⟩, ⟨s.log, s.fs, (i : Int)⟩) := by
          unfold lineR lineS; rw [jump1 hf0 hj, if_neg (by omega), if_neg (by omega), if_neg (by omega), if_neg (by omega), if_pos k3, if_neg hh0]
        rw [e]
        simp +contextual -dsimp -implicitDefEqProofs (maxSteps := 5000000) only [go_sem, reduceIte, reduceCtorEq, Nat.reduceEqDiff, Nat.reduceBEq, Nat.reduceAdd, Nat.reduceLeDiff, Nat.reduceMul, Nat.reduceLT, Int.reduceEq, Int.reduceLT, Int.reduceLE, hi, hx, n1, n2, k3, hf0, hj, show jumpsK 3 = true from rfl, hh0]
        refine retR_less (l := [.agg (rEn ⟨2, h⟩)]) (H' := H2.set bm _) ?_ (le_set (nb6 _)) ⟨rfl, hMi (i : Int)⟩
        simp only [resA, go_sem, reduceIte, reduceCtorEq, Nat.reduceEqDiff, Nat.reduceBEq, Nat.reduceAdd, Nat.reduceLeDiff, Nat.reduceMul, Nat.reduceLT, Int.reduceEq, Int.reduceLT, Int.reduceLE, rEn]
    · by_cases hh0 : h < 0
      · have e : lineR k a b i h (fun s => runF t kids (i + 1) none h s) s = (⟨2, s.fs.length⟩, ⟨s.log, raiseF s.fs 0 0 (-1), s.first⟩) := by
          unfold lineR lineS; rw [jump0 hf0, if_neg (by omega), if_neg (by omega), if_neg (by omega), if_neg (by omega), if_pos k3, if_pos hh0]; rfl
        rw [e]
        simp +contextual -dsimp -implicitDefEqProofs (maxSteps := 5000000) only [go_sem, reduceIte, reduceCtorEq, Nat.reduceEqDiff, Nat.reduceBEq, Nat.reduceAdd, Nat.reduceLeDiff, Nat.reduceMul, Nat.reduceLT, Int.reduceEq, Int.reduceLT, Int.reduceLE, hi, hx, n1, n2, k3, hf0, hj, show jumpsK 3 = true from rfl, hh0]
        refine (c_raise _ _ bm _ _ s.log s.fs s.first 0 0 (-1) (mach_in (K := ⟨2, 69, [[I 0, I 0]]⟩) (hMi s.first) (nb6 _)) hfl hs.ho (by omega)).mono ?_
        rintro _ H9 ⟨rfl, hM9⟩
        obtain ⟨H10, rfl, hM10, hn10⟩ := mach_out hM9 hF6
        simp +contextual -dsimp -implicitDefEqProofs (maxSteps := 5000000) only [go_sem, reduceIte, reduceCtorEq, Nat.reduceEqDiff, Nat.reduceBEq, Nat.reduceAdd, Nat.reduceLeDiff, Nat.reduceMul, Nat.reduceLT, Int.reduceEq, Int.reduceLT, Int.reduceLE, hi, hx, n1, n2, k3, hf0, hj, show jumpsK 3 = true from rfl, hh0]
        refine retR_less (l := [.agg (rEn ⟨2, s.fs.length⟩)]) (H' := H10) ?_ (le_set hn10) ⟨rfl, hM10⟩
        simp only [resA, go_sem, reduceIte, reduceCtorEq, Nat.reduceEqDiff, Nat.reduceBEq, Nat.reduceAdd, Nat.reduceLeDiff, Nat.reduceMul, Nat.reduceLT, Int.reduceEq, Int.reduceLT, Int.reduceLE, rEn]
      · have e : lineR k a b i h (fun s => runF t kids (i + 1) none h s) s = (⟨2, h⟩, ⟨s.log, s.fs, s.first⟩) := by
          unfold lineR lineS; rw [jump0 hf0, if_neg (by omega), if_neg (by omega), if_neg (by omega), if_neg (by omega), if_pos k3, if_neg hh0]
        rw [e]
        simp +contextual -dsimp -implicitDefEqProofs (maxSteps := 5000000) only [go_sem, reduceIte, reduceCtorEq, Nat.reduceEqDiff, Nat.reduceBEq, Nat.reduceAdd, Nat.reduceLeDiff, Nat.reduceMul, Nat.reduceLT, Int.reduceEq, Int.reduceLT, Int.reduceLE, hi, hx, n1, n2, k3, hf0, hj, show jumpsK 3 = true from rfl, hh0]
        refine retR_less (l := [.agg (rEn ⟨2, h⟩)]) (H' := H2.set bm _) ?_ (le_set (nb6 _)) ⟨rfl, hMi s.first⟩
        simp only [resA, go_sem, reduceIte, reduceCtorEq, Nat.reduceEqDiff, Nat.reduceBEq, Nat.reduceAdd, Nat.reduceLeDiff, Nat.reduceMul, Nat.reduceLT, Int.reduceEq, Int.reduceLT, Int.reduceLE, rEn]
  by_cases k4 : k = 4
  · have hj : jumpsK k = true := by rw [k4]; rfl
    by_cases hf0 : s.first < 0
    · have e : lineR k a b i h (fun s => runF t kids (i + 1) none h s) s = (⟨1, a⟩, ⟨s.log, s.fs, (i : Int)⟩) := by
        unfold lineR lineS; rw [jump1 hf0 hj, if_neg (by omega), if_neg (by omega), if_neg (by omega), if_neg (by omega), if_neg (by omega), if_pos k4]
      rw [e]
      simp +contextual -dsimp -implicitDefEqProofs (maxSteps := 5000000) only [go_sem, reduceIte, reduceCtorEq, Nat.reduceEqDiff, Nat.reduceBEq, Nat.reduceAdd, Nat.reduceLeDiff, Nat.reduceMul, Nat.reduceLT, Int.reduceEq, Int.reduceLT, Int.reduceLE, hi, hx, n1, n2, k4, hf0, hj, show jumpsK 4 = true from rfl]
      refine retR_less (l := [.agg (rEn ⟨1, a⟩)]) (H' := H2.set bm _) ?_ (le_set (nb6 _)) ⟨rfl, hMi (i : Int)⟩
      simp only [resA, go_sem, reduceIte, reduceCtorEq, Nat.reduceEqDiff, Nat.reduceBEq, Nat.reduceAdd, Nat.reduceLeDiff, Nat.reduceMul, Nat.reduceLT, Int.reduceEq, Int.reduceLT, Int.reduceLE, rEn]
    · have e : lineR k a b i h (fun s => runF t kids (i + 1) none h s) s = (⟨1, a⟩, ⟨s.log, s.fs, s.first⟩) := by
        unfold lineR lineS; rw [jump0 hf0, if_neg (by omega), if_neg (by omega), if_neg (by omega), if_neg (by omega), if_neg (by omega), if_pos k4]
      rw [e]
      simp +contextual -dsimp -implicitDefEqProofs (maxSteps := 5000000) only [go_sem, reduceIte, reduceCtorEq, Nat.reduceEqDiff, Nat.reduceBEq, Nat.reduceAdd, Nat.reduceLeDiff, Nat.reduceMul, Nat.reduceLT, Int.reduceEq, Int.reduceLT, Int.reduceLE, hi, hx, n1, n2, k4, hf0, hj, show jumpsK 4 = true from rfl]
      refine retR_less (l := [.agg (rEn ⟨1, a⟩)]) (H' := H2.set bm _) ?_ (le_set (nb6 _)) ⟨rfl, hMi s.first⟩
      simp only [resA, go_sem, reduceIte, reduceCtorEq, Nat.reduceEqDiff, Nat.reduceBEq, Nat.reduceAdd, Nat.reduceLeDiff, Nat.reduceMul, Nat.reduceLT, Int.reduceEq, Int.reduceLT, Int.reduceLE, rEn]
  by_cases k5 : k = 5
  · have hj : jumpsK k = true := by rw [k5]; rfl
    by_cases hf0 : s.first < 0
    · have e : lineR k a b i h (fun s => runF t kids (i + 1) none h s) s = (⟨3, 0⟩, ⟨s.log, s.fs, (i : Int)⟩) := by
        unfold lineR lineS; rw [jump1 hf0 hj, if_neg (by omega), if_neg (by omega), if_neg (by omega), if_neg (by omega), if_neg (by omega), if_neg (by omega), if_pos k5]
      rw [e]
      simp +contextual -dsimp -implicitDefEqProofs (maxSteps := 5000000) only [go_sem, reduceIte, reduceCtorEq, Nat.reduceEqDiff, Nat.reduceBEq, Nat.reduceAdd, Nat.reduceLeDiff, Nat.reduceMul, Nat.reduceLT, Int.reduceEq, Int.reduceLT, Int.reduceLE, hi, hx, n1, n2, k5, hf0, hj, show jumpsK 5 = true from rfl]
      refine retR_less (l := [.agg (rEn ⟨3, 0⟩)]) (H' := H2.set bm _) ?_ (le_set (nb6 _)) ⟨rfl, hMi (i : Int)⟩
      simp only [resA, go_sem, reduceIte, reduceCtorEq, Nat.reduceEqDiff, Nat.reduceBEq, Nat.reduceAdd, Nat.reduceLeDiff, Nat.reduceMul, Nat.reduceLT, Int.reduceEq, Int.reduceLT, Int.reduceLE, rEn]
    · have e : lineR k a b i h (fun s => runF t kids (i + 1) none h s) s = (⟨3, 0⟩, ⟨s.log, s.fs, s.first⟩) := by
        unfold lineR lineS; rw [jump0 hf0, if_neg (by omega), if_neg (by omega), if_neg (by omega), if_neg (by omega), if_neg (by omega), if_neg (by omega), if_pos k5]
      rw [e]
      simp +contextual -dsimp -implicitDefEqProofs (maxSteps := 5000000) only [go_sem, reduceIte, reduceCtorEq, Nat.reduceEqDiff, Nat.reduceBEq, Nat.reduceAdd, Nat.reduceLeDiff, Nat.reduceMul, Nat.reduceLT, Int.reduceEq, Int.reduceLT, Int.reduceLE, hi, hx, n1, n2, k5, hf0, hj, show jumpsK 5 = true from rfl]
      refine retR_less (l := [.agg (rEn ⟨3, 0⟩)]) (H' := H2.set bm _) ?_ (le_set (nb6 _)) ⟨rfl, hMi s.first⟩
      simp only [resA, go_sem, reduceIte, reduceCtorEq, Nat.reduceEqDiff, Nat.reduceBEq, Nat.reduceAdd, Nat.reduceLeDiff, Nat.reduceMul, Nat.reduceLT, Int.reduceEq, Int.reduceLT, Int.reduceLE, rEn]
  by_cases k6 : k = 6
  · have hj : jumpsK k = true := by rw [k6]; rfl
    by_cases hf0 : s.first < 0
    · have e : lineR k a b i h (fun s => runF t kids (i + 1) none h s) s = (⟨4, 0⟩, ⟨s.log, s.fs, (i : Int)⟩) := by
        unfold lineR lineS; rw [jump1 hf0 hj, if_neg (by omega), if_neg (by omega), if_neg (by omega), if_neg (by omega), if_neg (by omega), if_neg (by omega), if_neg (by omega), if_pos k6]
      rw [e]
      simp +contextual -dsimp -implicitDefEqProofs (maxSteps := 5000000) only [go_sem, reduceIte, reduceCtorEq, Nat.reduceEqDiff, Nat.reduceBEq, Nat.reduceAdd, Nat.reduceLeDiff, Nat.reduceMul, Nat.reduceLT, Int.reduceEq, Int.reduceLT, Int.reduceLE, hi, hx, n1, n2, k6, hf0, hj, show jumpsK 6 = true from rfl]
      refine retR_less (l := [.agg (rEn ⟨4, 0⟩)]) (H' := H2.set bm _) ?_ (le_set (nb6 _)) ⟨rfl, hMi (i : Int)⟩
      simp only [resA, go_sem, reduceIte, reduceCtorEq, Nat.reduceEqDiff, Nat.reduceBEq, Nat.reduceAdd, Nat.reduceLeDiff, Nat.reduceMul, Nat.reduceLT, Int.reduceEq, Int.reduceLT, Int.reduceLE, rEn]
    · have e : lineR k a b i h (fun s => runF t kids (i + 1) none h s) s = (⟨4, 0⟩, ⟨s.log, s.fs, s.first⟩) := by
        unfold lineR lineS; rw [jump0 hf0, if_neg (by omega), if_neg (by omega), if_neg (by omega), if_neg (by omega), if_neg (by omega), if_neg (by omega), if_neg (by omega), if_pos k6]
      rw [e]
      simp +contextual -dsimp -implicitDefEqProofs (maxSteps := 5000000) only [go_sem, reduceIte, reduceCtorEq, Nat.reduceEqDiff, Nat.reduceBEq, Nat.reduceAdd, Nat.reduceLeDiff, Nat.reduceMul, Nat.reduceLT, Int.reduceEq, Int.reduceLT, Int.reduceLE, hi, hx, n1, n2, k6, hf0, hj, show jumpsK 6 = true from rfl]
      refine retR_less (l := [.agg (rEn ⟨4, 0⟩)]) (H' := H2.set bm _) ?_ (le_set (nb6 _)) ⟨rfl, hMi s.first⟩
      simp only [resA, go_sem, reduceIte, reduceCtorEq, Nat.reduceEqDiff, Nat.reduceBEq, Nat.reduceAdd, Nat.reduceLeDiff, Nat.reduceMul, Nat.reduceLT, Int.reduceEq, Int.reduceLT, Int.reduceLE, rEn]
  have hj : jumpsK k = false := by
    simp only [jumpsK, inR, Bool.and_eq_false_iff, decide_eq_false_iff_not]; omega
  by_cases k1 : k = 1
  · have e : lineR k a b i h (fun s => runF t kids (i + 1) none h s) s = (.next, ⟨s.log ++ [a], s.fs, s.first⟩) := by
      unfold lineR lineS; rw [jumpn hj, if_neg (by omega), if_neg (by omega), if_pos k1]; rfl
    rw [e]
    simp +contextual -dsimp -implicitDefEqProofs (maxSteps := 5000000) only [go_sem, reduceIte, reduceCtorEq, Nat.reduceEqDiff, Nat.reduceBEq, Nat.reduceAdd, Nat.reduceLeDiff, Nat.reduceMul, Nat.reduceLT, Int.reduceEq, Int.reduceLT, Int.reduceLE, hi, hx, n1, n2, k1, show jumpsK 1 = false from rfl]
    refine draw_intro [0, 0, 0, 0, 0, 0, 0, 0, 2, 0, 0, 2] AHeap.none (by kernel_rfl) none_le ?_
    simp +contextual -dsimp -implicitDefEqProofs (maxSteps := 5000000) only [go_sem, reduceIte, reduceCtorEq, Nat.reduceEqDiff, Nat.reduceBEq, Nat.reduceAdd, Nat.reduceLeDiff, Nat.reduceMul, Nat.reduceLT, Int.reduceEq, Int.reduceLT, Int.reduceLE, hi, hx, n1, n2, k1]
    refine mach_app1 hg1 hg2 hb n1 hn2 (by omega) fun x2 G G1 y1 y2 y3 y4 y5 => ?_
    obtain ⟨r1, r2⟩ := y5
    simp +contextual -dsimp -implicitDefEqProofs (maxSteps := 5000000) only [go_sem, reduceIte, reduceCtorEq, Nat.reduceEqDiff, Nat.reduceBEq, Nat.reduceAdd, Nat.reduceLeDiff, Nat.reduceMul, Nat.reduceLT, Int.reduceEq, Int.reduceLT, Int.reduceLE, n1, n2, r1, r2]
    refine retR_less (l := [.agg (rEn .next)]) (H' := G.set bm _) ?_ (le_set (by rw [set_other n1]; exact y4)) ⟨rfl, ⟨x2, xf, G1, G, hF, y1, y2, y3, rfl⟩⟩
    simp only [resA, go_sem, reduceIte, reduceCtorEq, Nat.reduceEqDiff, Nat.reduceBEq, Nat.reduceAdd, Nat.reduceLeDiff, Nat.reduceMul, Nat.reduceLT, Int.reduceEq, Int.reduceLT, Int.reduceLE, rEn, En.next]
  by_cases k11 : k = 11
  · simp +contextual -dsimp -implicitDefEqProofs (maxSteps := 5000000) only [go_sem, reduceIte, reduceCtorEq, Nat.reduceEqDiff, Nat.reduceBEq, Nat.reduceAdd, Nat.reduceLeDiff, Nat.reduceMul, Nat.reduceLT, Int.reduceEq, Int.reduceLT, Int.reduceLE, hi, hx, n1, n2, k11, show jumpsK 11 = false from rfl]
    refine draw_intro [0, 0, 0, 0, 0, 0, 0, 0, 0, 2, 0, 0, 2] AHeap.none (by kernel_rfl) none_le ?_
    have ha := hno
    unfold numOk at ha
    rw [if_neg (by omega), if_neg (by omega), if_neg (by omega), if_pos k11, Bool.and_eq_true] at ha
    simp only [inR, Bool.and_eq_true, decide_eq_true_eq] at ha
    rw [if_neg (by omega)] at hl hf
    have hw1 : IntKind.i64.wrap (100 + a) = 100 + a := w64 (by omega) (by omega)
    have hw2 : IntKind.i64.wrap (200 + a) = 200 + a := w64 (by omega) (by omega)
    simp +contextual -dsimp -implicitDefEqProofs (maxSteps := 5000000) only [go_sem, reduceIte, reduceCtorEq, Nat.reduceEqDiff, Nat.reduceBEq, Nat.reduceAdd, Nat.reduceLeDiff, Nat.reduceMul, Nat.reduceLT, Int.reduceEq, Int.reduceLT, Int.reduceLE, hi, hx, n1, n2, k11, hw1]
    refine mach_app1 hg1 hg2 hb n1 hn2 (by omega) fun x2 G G1 y1 y2 y3 y4 y5 => ?_
    obtain ⟨r1, r2⟩ := y5
    simp +contextual -dsimp -implicitDefEqProofs (maxSteps := 5000000) only [go_sem, reduceIte, reduceCtorEq, Nat.reduceEqDiff, Nat.reduceBEq, Nat.reduceAdd, Nat.reduceLeDiff, Nat.reduceMul, Nat.reduceLT, Int.reduceEq, Int.reduceLT, Int.reduceLE, n1, n2, r1, r2]
    have hMt : MachS F (G.set bm ⟨5, 110, [[.vsl (t.map rClass) cl, aProg P clp, x2, xf, I s.first]]⟩) bm t cl P clp (s.tell (100 + a)) := ⟨x2, xf, G1, G, hF, y1, y2, y3, rfl⟩
    have hGb6 : (G.set bm ⟨5, 110, [[.vsl (t.map rClass) cl, aProg P clp, x2, xf, I s.first]]⟩) b6 = none := by rw [set_other n1]; exact y4
    have tl : (s.tell (100 + a)).log.length = s.log.length + 1 := by simp [RS.tell]
    have hgo := goes_run ht kids (i + 1) none (d + 1) h (s.tell (100 + a)) hk hs hh trivial
    have hgl := hgo.len
    refine (c_block ih hn hat hk (s := s.tell (100 + a)) hs hh (by rw [tl]; omega) (by show s.fs.length + _ ≤ _; omega) (mach_in (K := ⟨2, 69, [[I 0, I 0]]⟩) hMt hGb6) hp).mono ?_
    rintro _ H3 ⟨rfl, hM3⟩
    have e : lineR k a b i h (fun s => runF t kids (i + 1) none h s) s = withS a b (runF t kids (i + 1) none h (s.tell (100 + a))) := by
      unfold lineR; rw [if_pos k11]
    rw [e]
    generalize runF t kids (i + 1) none h (s.tell (100 + a)) = r at hM3 hgo hgl ⊢
    obtain ⟨H4, rfl, hM4, hn4⟩ := mach_out hM3 hF6
    obtain ⟨xl', xf', G2, G3, hF', hg1', hg2', hb', rfl⟩ := id hM4
    have hn5 := hn4
    rw [set_none] at hn5
    have hn6 := hn5.2.2
    simp +contextual -dsimp -implicitDefEqProofs (maxSteps := 5000000) only [go_sem, reduceIte, reduceCtorEq, Nat.reduceEqDiff, Nat.reduceBEq, Nat.reduceAdd, Nat.reduceLeDiff, Nat.reduceMul, Nat.reduceLT, Int.reduceEq, Int.reduceLT, Int.reduceLE, rEn, n1, n2, hi, hx]
    rintro b8 hb8
    refine draw_intro [0, 0, 0, 0, 0, 0, 0, 0, 0, 2, 0, 0, 2] AHeap.none (by kernel_rfl) none_le ?_
    simp +contextual -dsimp -implicitDefEqProofs (maxSteps := 5000000) only [go_sem, reduceIte, reduceCtorEq, Nat.reduceEqDiff, Nat.reduceBEq, Nat.reduceAdd, Nat.reduceLeDiff, Nat.reduceMul, Nat.reduceLT, Int.reduceEq, Int.reduceLT, Int.reduceLE, rEn, n1, n2, hi, hx, hw2]
    refine mach_app1 hg1' hg2' hb' n1 hn6 (by omega) fun x3 G4 G5 z1 z2 z3 z4 z5 => ?_
    obtain ⟨q1, q2⟩ := z5
    simp +contextual -dsimp -implicitDefEqProofs (maxSteps := 5000000) only [go_sem, reduceIte, reduceCtorEq, Nat.reduceEqDiff, Nat.reduceBEq, Nat.reduceAdd, Nat.reduceLeDiff, Nat.reduceMul, Nat.reduceLT, Int.reduceEq, Int.reduceLT, Int.reduceLE, n1, n2, q1, q2]
    have hMf : MachS F (G4.set bm ⟨5, 110, [[.vsl (t.map rClass) cl, aProg P clp, x3, xf', I r.2.first]]⟩) bm t cl P clp (r.2.tell (200 + a)) := ⟨x3, xf', G5, G4, hF', z1, z2, z3, rfl⟩
    unfold withS
    have hGf : (G4.set bm ⟨5, 110, [[.vsl (t.map rClass) cl, aProg P clp, x3, xf', I r.2.first]]⟩) b6 = none := by rw [set_other n1]; exact z4
    by_cases hc : r.1.ed = 2 ∧ b = 1
    · rw [if_pos hc]
      simp +contextual -dsimp -implicitDefEqProofs (maxSteps := 5000000) only [go_sem, reduceIte, reduceCtorEq, Nat.reduceEqDiff, Nat.reduceBEq, Nat.reduceAdd, Nat.reduceLeDiff, Nat.reduceMul, Nat.reduceLT, Int.reduceEq, Int.reduceLT, Int.reduceLE, n1, n2, q1, q2, hc.1, hc.2]
      refine retR_less (l := [.agg (rEn .next)]) (H' := G4.set bm _) ?_ (le_set hGf) ⟨rfl, hMf⟩
      simp only [resA, go_sem, reduceIte, reduceCtorEq, Nat.reduceEqDiff, Nat.reduceBEq, Nat.reduceAdd, Nat.reduceLeDiff, Nat.reduceMul, Nat.reduceLT, Int.reduceEq, Int.reduceLT, Int.reduceLE, rEn, En.next]
    · rw [if_neg hc]
      by_cases hc1 : r.1.ed = 2
      · have hc2 : ¬ b = 1 := fun q => hc ⟨hc1, q⟩
        simp +contextual -dsimp -implicitDefEqProofs (maxSteps := 5000000) only [go_sem, reduceIte, reduceCtorEq, Nat.reduceEqDiff, Nat.reduceBEq, Nat.reduceAdd, Nat.reduceLeDiff, Nat.reduceMul, Nat.reduceLT, Int.reduceEq, Int.reduceLT, Int.reduceLE, n1, n2, q1, q2, hc1, hc2]
        refine retR_less (l := [.agg (rEn r.1)]) (H' := G4.set bm _) ?_ (le_set hGf) ⟨rfl, hMf⟩
        simp only [resA, go_sem, reduceIte, reduceCtorEq, Nat.reduceEqDiff, Nat.reduceBEq, Nat.reduceAdd, Nat.reduceLeDiff, Nat.reduceMul, Nat.reduceLT, Int.reduceEq, Int.reduceLT, Int.reduceLE, rEn, hc1]
      · simp +contextual -dsimp -implicitDefEqProofs (maxSteps := 5000000) only [go_sem, reduceIte, reduceCtorEq, Nat.reduceEqDiff, Nat.reduceBEq, Nat.reduceAdd, Nat.reduceLeDiff, Nat.reduceMul, Nat.reduceLT, Int.reduceEq, Int.reduceLT, Int.reduceLE, n1, n2, q1, q2, hc1]
        refine retR_less (l := [.agg (rEn r.1)]) (H' := G4.set bm _) ?_ (le_set hGf) ⟨rfl, hMf⟩
        simp only [resA, go_sem, reduceIte, reduceCtorEq, Nat.reduceEqDiff, Nat.reduceBEq, Nat.reduceAdd, Nat.reduceLeDiff, Nat.reduceMul, Nat.reduceLT, Int.reduceEq, Int.reduceLT, Int.reduceLE, rEn]
  by_cases k12 : k = 12
  · have ha := hno
    unfold numOk at ha
    rw [if_neg (by omega), if_neg (by omega), if_neg (by omega), if_neg (by omega), if_pos k12, Bool.and_eq_true] at ha
    simp only [inR, Bool.and_eq_true, decide_eq_true_eq] at ha
    rw [if_pos k12] at hl hf
    have e : lineR k a b i h (fun s => runF t kids (i + 1) none h s) s = loopS (fun s => runF t kids (i + 1) none h s) a.toNat s := by
      unfold lineR; rw [if_neg (by omega), if_pos k12]
    rw [e]
    simp +contextual -dsimp -implicitDefEqProofs (maxSteps := 5000000) only [go_sem, reduceIte, reduceCtorEq, Nat.reduceEqDiff, Nat.reduceBEq, Nat.reduceAdd, Nat.reduceLeDiff, Nat.reduceMul, Nat.reduceLT, Int.reduceEq, Int.reduceLT, Int.reduceLE, hi, hx, n1, n2, k12, show jumpsK 12 = false from rfl]
    refine aloop mixed (fz := fun r => if r = 1 then [7] else if r = 21 then [8] else if r = 29 then [9] else []) (im := fun _ => false) (by kernel_rfl) (fun m tm H' => ∃ (s' : RS) (H'' : AHeap), m ≤ a.toNat ∧ H' = H''.set b6 ⟨2, 69, [[I 0, I 0]]⟩ ∧ H'' b6 = none ∧ MachS F H'' bm t cl P clp s' ∧ FsOk t s'.fs ∧ s.fs.length ≤ s'.fs.length ∧ s'.fs.length ≤ s.fs.length + (a.toNat - m) * cost kids ∧ s'.log.length ≤ s.log.length + (a.toNat - m) * cost kids ∧ loopS (fun s => runF t kids (i + 1) none h s) a.toNat s = loopS (fun s => runF t kids (i + 1) none h s) m s' ∧ tm 0 = .ptr bm 5 0 0 ∧ tm 1 = I i ∧ tm 2 = I h ∧ tm 6 = .ptr b6 2 0 0 ∧ tm 117 = I a ∧ tm 118 = I (a.toNat - m : Nat)) a.toNat ⟨s, H2.set bm _, Nat.le_refl _, rfl, nb6 _, hM, hs, Nat.le_refl _, by omega, by omega, rfl, ?_⟩ ?_
    · simp +contextual -dsimp -implicitDefEqProofs (maxSteps := 5000000) only [go_sem, reduceIte, reduceCtorEq, Nat.reduceEqDiff, Nat.reduceBEq, Nat.reduceAdd, Nat.reduceLeDiff, Nat.reduceMul, Nat.reduceLT, Int.reduceEq, Int.reduceLT, Int.reduceLE, n1, n2]
      rw [Nat.sub_self]; rfl
    · rintro m tm _ ⟨s', H'', hm, rfl, hb6, hM', hs', g1, g2, g3, he, t0, t1, t2, t6, t117, t118⟩
      cases m with
      | zero =>
        have z : ¬ ((a.toNat - 0 : Nat) : Int) < a := by omega
        simp +contextual -dsimp -implicitDefEqProofs (maxSteps := 5000000) only [go_sem, reduceIte, reduceCtorEq, Nat.reduceEqDiff, Nat.reduceBEq, Nat.reduceAdd, Nat.reduceLeDiff, Nat.reduceMul, Nat.reduceLT, Int.reduceEq, Int.reduceLT, Int.reduceLE, n1, n2, t0, t1, t2, t6, t117, t118, z]
        rw [he]
        refine retR_less (l := [.agg (rEn .next)]) (H' := H'') ?_ (le_set hb6) ⟨rfl, hM'⟩
        simp only [resA, go_sem, reduceIte, reduceCtorEq, Nat.reduceEqDiff, Nat.reduceBEq, Nat.reduceAdd, Nat.reduceLeDiff, Nat.reduceMul, Nat.reduceLT, Int.reduceEq, Int.reduceLT, Int.reduceLE, rEn, En.next, t6]
      | succ m =>
        have z : ((a.toNat - (m + 1) : Nat) : Int) < a := by omega
        have w1 : (a.toNat - (m + 1)) * cost kids + cost kids ≤ a.toNat * cost kids := by
          rw [← Nat.succ_mul]; exact Nat.mul_le_mul_right _ (by omega)
        have w2 : (a.toNat - m) * cost kids = (a.toNat - (m + 1)) * cost kids + cost kids := by
          rw [← Nat.succ_mul]; congr 1; omega
        simp +contextual -dsimp -implicitDefEqProofs (maxSteps := 5000000) only [go_sem, reduceIte, reduceCtorEq, Nat.reduceEqDiff, Nat.reduceBEq, Nat.reduceAdd, Nat.reduceLeDiff, Nat.reduceMul, Nat.reduceLT, Int.reduceEq, Int.reduceLT, Int.reduceLE, n1, n2, t0, t1, t2, t6, t117, t118, z]
        have hgo := goes_run ht kids (i + 1) none (d + 1) h s' hk hs' (by omega) trivial
        have hgl := hgo.len
        refine (c_block ih hn hat hk (s := s') hs' (by omega) (by omega) (by omega) (mach_in (K := ⟨2, 69, [[I 0, I 0]]⟩) hM' hb6) hp).mono ?_
        rintro _ H3 ⟨rfl, hM3⟩
        simp only [loopS] at he
        generalize runF t kids (i + 1) none h s' = r at hM3 hgo hgl he ⊢
        obtain ⟨H4, rfl, hM4, hn4⟩ := mach_out hM3 hF6
        by_cases c1 : r.1.ed = 1
        · rw [if_pos (.inl c1)] at he
          simp +contextual -dsimp -implicitDefEqProofs (maxSteps := 5000000) only [go_sem, reduceIte, reduceCtorEq, Nat.reduceEqDiff, Nat.reduceBEq, Nat.reduceAdd, Nat.reduceLeDiff, Nat.reduceMul, Nat.reduceLT, Int.reduceEq, Int.reduceLT, Int.reduceLE, rEn, n1, n2, t0, t1, t2, t6, t117, t118, c1]
          rintro b9 hb9
          rw [he]
          refine retR_less (l := [.agg (rEn r.1)]) (H' := H4) ?_ (le_set hn4) ⟨rfl, hM4⟩
          simp only [resA, go_sem, reduceIte, reduceCtorEq, Nat.reduceEqDiff, Nat.reduceBEq, Nat.reduceAdd, Nat.reduceLeDiff, Nat.reduceMul, Nat.reduceLT, Int.reduceEq, Int.reduceLT, Int.reduceLE, rEn, c1, t6]
        by_cases c2 : r.1.ed = 2
        · rw [if_pos (.inr c2)] at he
          simp +contextual -dsimp -implicitDefEqProofs (maxSteps := 5000000) only [go_sem, reduceIte, reduceCtorEq, Nat.reduceEqDiff, Nat.reduceBEq, Nat.reduceAdd, Nat.reduceLeDiff, Nat.reduceMul, Nat.reduceLT, Int.reduceEq, Int.reduceLT, Int.reduceLE, rEn, n1, n2, t0, t1, t2, t6, t117, t118, c2]
          rintro b9 hb9
          rw [he]
          refine retR_less (l := [.agg (rEn r.1)]) (H' := H4) ?_ (le_set hn4) ⟨rfl, hM4⟩
          simp only [resA, go_sem, reduceIte, reduceCtorEq, Nat.reduceEqDiff, Nat.reduceBEq, Nat.reduceAdd, Nat.reduceLeDiff, Nat.reduceMul, Nat.reduceLT, Int.reduceEq, Int.reduceLT, Int.reduceLE, rEn, c2, t6]
        rw [if_neg (fun q => q.elim c1 c2)] at he
        by_cases c3 : r.1.ed = 3
        · rw [if_pos c3] at he
          simp +contextual -dsimp -implicitDefEqProofs (maxSteps := 5000000) only [go_sem, reduceIte, reduceCtorEq, Nat.reduceEqDiff, Nat.reduceBEq, Nat.reduceAdd, Nat.reduceLeDiff, Nat.reduceMul, Nat.reduceLT, Int.reduceEq, Int.reduceLT, Int.reduceLE, rEn, n1, n2, t0, t1, t2, t6, t117, t118, c3]
          rintro b9 hb9
          rw [he]
          refine retR_less (l := [.agg (rEn .next)]) (H' := H4) ?_ (le_set hn4) ⟨rfl, hM4⟩
          simp only [resA, go_sem, reduceIte, reduceCtorEq, Nat.reduceEqDiff, Nat.reduceBEq, Nat.reduceAdd, Nat.reduceLeDiff, Nat.reduceMul, Nat.reduceLT, Int.reduceEq, Int.reduceLT, Int.reduceLE, rEn, En.next, t6]
        · rw [if_neg c3] at he
          simp +contextual -dsimp -implicitDefEqProofs (maxSteps := 5000000) only [go_sem, reduceIte, reduceCtorEq, Nat.reduceEqDiff, Nat.reduceBEq, Nat.reduceAdd, Nat.reduceLeDiff, Nat.reduceMul, Nat.reduceLT, Int.reduceEq, Int.reduceLT, Int.reduceLE, rEn, n1, n2, t0, t1, t2, t6, t117, t118, c1, c2, c3]
          rintro b9 hb9
          exact ⟨m, by omega, r.2, H4, by omega, rfl, hn4, hM4, hgo.ok, by omega, by omega, by omega, he, I_wrap (by omega) (by omega) (by omega)⟩
  · have e : lineR k a b i h (fun s => runF t kids (i + 1) none h s) s = (.next, ⟨s.log, s.fs, s.first⟩) := by
      unfold lineR lineS; rw [jumpn hj, if_neg k11, if_neg k12, if_neg k1, if_neg k2, if_neg k3, if_neg k4, if_neg k5, if_neg k6]
    rw [e]
    simp +contextual -dsimp -implicitDefEqProofs (maxSteps := 5000000) only [go_sem, reduceIte, reduceCtorEq, Nat.reduceEqDiff, Nat.reduceBEq, Nat.reduceAdd, Nat.reduceLeDiff, Nat.reduceMul, Nat.reduceLT, Int.reduceEq, Int.reduceLT, Int.reduceLE, hi, hx, n1, n2, k1, k2, k3, k4, k5, k6, k11, k12, hj]
    refine retR_less (l := [.agg (rEn .next)]) (H' := H2.set bm _) ?_ (le_set (nb6 _)) ⟨rfl, hMi s.first⟩
    simp only [resA, go_sem, reduceIte, reduceCtorEq, Nat.reduceEqDiff, Nat.reduceBEq, Nat.reduceAdd, Nat.reduceLeDiff, Nat.reduceMul, Nat.reduceLT, Int.reduceEq, Int.reduceLT, Int.reduceLE, rEn, En.next]
end
section
open Go Go.Sim
set_option maxRecDepth 100000
set_option maxHeartbeats 4000000

section
variable {F H : AHeap} {bm c6 c7 c8 : Nat} {t p : AV} {log : List Int} {fs : List Fault} {first : Int} {K6 K7 K8 : ABlk}
theorem mach_in3 (hM : Mach F H bm t p log fs first) (h6 : H c6 = none) (h7 : H c7 = none) (h8 : H c8 = none) (d67 : ¬ c7 = c6) (d68 : ¬ c8 = c6) (d78 : ¬ c8 = c7) :
    Mach (((F.set c6 K6).set c7 K7).set c8 K8) (((H.set c6 K6).set c7 K7).set c8 K8) bm t p log fs first :=
  mach_in (mach_in (mach_in hM h6) (by rw [set_other d67]; exact h7)) (by rw [set_other d78, set_other d68]; exact h8)
theorem mach_out3 (hM : Mach (((F.set c6 K6).set c7 K7).set c8 K8) H bm t p log fs first) (h6 : F c6 = none) (h7 : F c7 = none) (h8 : F c8 = none) (d67 : ¬ c7 = c6) (d68 : ¬ c8 = c6) (d78 : ¬ c8 = c7) :
    ∃ H', H = ((H'.set c6 K6).set c7 K7).set c8 K8 ∧ Mach F H' bm t p log fs first ∧ H' c6 = none ∧ H' c7 = none ∧ H' c8 = none := by
  obtain ⟨H1, rfl, m1, n1⟩ := mach_out hM (by rw [set_other d78, set_other d68]; exact h8)
  obtain ⟨H2, rfl, m2, n2⟩ := mach_out m1 (by rw [set_other d67]; exact h7)
  obtain ⟨H3, rfl, m3, n3⟩ := mach_out m2 h6
  rw [set_other d78, set_other d68] at n1
  rw [set_other d67] at n2
  exact ⟨H3, rfl, m3, n3, n2, n1⟩
end
theorem c_try {t : List Class} {cl : Bool} {P : List Line} {clp : Bool} {n : Nat} (ht : validT t = true) (ih : LinesOk t cl P clp n) {i : Nat} {d k a b h : Int} {kids rest : Fo} {s : RS} {F H : AHeap} {bm : Nat} (cl2 : Bool)
    (hn : kids.size + rest.size < n) (hat : At P i d (.node k a b kids rest)) (hk : numsF t kids (d + 1) = true) (hr : numsF t rest d = true) (hs : FsOk t s.fs) (hh : h < s.fs.length) (hl : s.log.length + (cost kids + cost rest) ≤ 900000) (hf : s.fs.length + (cost kids + cost rest) ≤ 900000) (hM : MachS F H bm t cl P clp s) (hp : P.length ≤ 4398046511104) :
    ACalls Tryz.prog 79 [.ptr bm 5 0 0, .vsl ((toI (i :: chainN rest (i + 1 + kids.size))).map rI) cl2, I h] H fun r H' =>
      r = .agg (rEn (chainR t rest (i + 1 + kids.size) (runF t kids (i + 1) none h s).1 (runF t kids (i + 1) none h s).1 h (runF t kids (i + 1) none h s).2).1) ∧
      MachS F H' bm t cl P clp (chainR t rest (i + 1 + kids.size) (runF t kids (i + 1) none h s).1 (runF t kids (i + 1) none h s).1 h (runF t kids (i + 1) none h s).2).2 := by
  have ed : ∀ k : Nat, (toI (i :: chainN rest (i + 1 + kids.size))).drop k = toI ((i :: chainN rest (i + 1 + kids.size)).drop k) := fun k => toI_drop _ _
  have e0 : (i :: chainN rest (i + 1 + kids.size)).getD 0 default = i := rfl
  refine acalls_of1 Tryz.func79 rfl (by kernel_rfl) rfl rfl (awp_sound (fz := fun r => if r = 6 then [11] else if r = 19 then [13] else []) (im := fun _ => false) mixed _ _ _ _ (by kernel_rfl) ?_)
  simp +contextual -dsimp -implicitDefEqProofs (maxSteps := 5000000) only [go_sem, reduceIte, reduceCtorEq, Nat.reduceEqDiff, Nat.reduceBEq, Nat.reduceAdd, Nat.reduceLeDiff, Nat.reduceMul, Nat.reduceLT, Int.reduceEq, Int.reduceLT, Int.reduceLE, toI_len, toI_at, List.length_cons, e0]
  intro b6 hb6
  have hF6 := mach_none hM hb6
  have hgo := goes_run ht kids (i + 1) none (d + 1) h s hk hs hh trivial
  have hgl := hgo.len
  refine ⟨by omega, by omega, ?_⟩
  refine (c_block ih (by omega) hat hk hs hh (by omega) (by omega) (mach_in (K := ⟨2, 69, [[I 0, I 0]]⟩) hM hb6) hp).mono ?_
  rintro _ H3 ⟨rfl, hM3⟩
  generalize runF t kids (i + 1) none h s = r at hM3 hgo hgl ⊢
  obtain ⟨H4, rfl, hM4, hn4⟩ := mach_out hM3 hF6
  simp +contextual -dsimp -implicitDefEqProofs (maxSteps := 5000000) only [go_sem, reduceIte, reduceCtorEq, Nat.reduceEqDiff, Nat.reduceBEq, Nat.reduceAdd, Nat.reduceLeDiff, Nat.reduceMul, Nat.reduceLT, Int.reduceEq, Int.reduceLT, Int.reduceLE, rEn]
  rintro b7 ⟨d76, d67, n7⟩ b8 ⟨d87, d78, d86, d68, n8⟩
  rw [show (1 : Int).toNat = 1 from rfl, ed, List.drop_succ_cons, List.drop_zero, toI_len]
  refine ⟨by rw [List.length_cons]; omega, ?_⟩
  have hrat := hat.rest
  have hF7 : F b7 = none := mach_none hM4 n7
  have hF8 : F b8 = none := mach_none hM4 n8
  generalize i + 1 + kids.size = j at hrat ⊢
  have hch := chain_len rest j
  have hrl := hrat.len
  refine aloop mixed (fz := fun r => if r = 6 then [11] else if r = 19 then [13] else []) (im := fun _ => false) (by kernel_rfl) (fun m tm H' => ∃ (g : Fo) (q x : Nat) (st e : En) (s' : RS) (H'' : AHeap), m = g.size ∧ At P q d g ∧ numsF t g d = true ∧ g.size ≤ rest.size ∧ (chainN rest j).drop x = chainN g q ∧ x ≤ (chainN rest j).length ∧ FsOk t s'.fs ∧ s.fs.length ≤ s'.fs.length ∧ PdOk s' (some (st, e)) ∧ s'.log.length + cost g ≤ 900000 ∧ s'.fs.length + cost g ≤ 900000 ∧ chainR t rest j r.1 r.1 h r.2 = chainR t g q st e h s' ∧
      H' = ((H''.set b6 ⟨2, 69, [[I 0, I 0]]⟩).set b7 ⟨2, 69, [rEn e]⟩).set b8 ⟨2, 69, [rEn st]⟩ ∧ H'' b6 = none ∧ H'' b7 = none ∧ H'' b8 = none ∧ MachS F H'' bm t cl P clp s' ∧
      tm 0 = .ptr bm 5 0 0 ∧ tm 2 = I h ∧ tm 6 = .ptr b6 2 0 0 ∧ tm 7 = .ptr b7 2 0 0 ∧ tm 8 = .ptr b8 2 0 0 ∧ tm 22 = .vsl ((toI (chainN rest j)).map rI) cl2 ∧ tm 23 = I (chainN rest j).length ∧ tm 24 = I x) rest.size ⟨rest, j, 0, r.1, r.1, r.2, H4, rfl, hrat, hr, Nat.le_refl _, rfl, Nat.zero_le _, hgo.ok, hgl.1, ⟨hgo.val, hgo.val⟩, by omega, by omega, rfl, rfl, hn4, n7, n8, hM4, ?_⟩ ?_
  · simp +contextual -dsimp -implicitDefEqProofs (maxSteps := 5000000) only [go_sem, reduceIte, reduceCtorEq, Nat.reduceEqDiff, Nat.reduceBEq, Nat.reduceAdd, Nat.reduceLeDiff, Nat.reduceMul, Nat.reduceLT, Int.reduceEq, Int.reduceLT, Int.reduceLE, rEn]
    rw [toI_len]
  · rintro m tm _ ⟨g, q, x, st, e, s', H'', rfl, hgat, hgn, hgs, hdx, hxl, hs', hsl, hpd, bl, bf, he, rfl, h6, h7, h8, hM', t0, t2, t6, t7, t8, t22, t23, t24⟩
    have hexit : chainN g q = [] → chainR t g q st e h s' = (e, s') := by
      intro hq
      cases g with
      | nil => rfl
      | node k2 a2 b2 ks re =>
        simp only [chainN] at hq
        split at hq
        · cases hq
        · rename_i hk2
          simp only [chainR]; rw [if_neg hk2]
    cases hcq : chainN g q with
    | nil =>
      rw [hcq] at hdx
      have hx := drop_nil hdx
      rw [he, hexit hcq]
      simp +contextual -dsimp -implicitDefEqProofs (maxSteps := 5000000) only [go_sem, reduceIte, reduceCtorEq, Nat.reduceEqDiff, Nat.reduceBEq, Nat.reduceAdd, Nat.reduceLeDiff, Nat.reduceMul, Nat.reduceLT, Int.reduceEq, Int.reduceLT, Int.reduceLE, rEn, d76, d67, d87, d78, d86, d68, t0, t2, t6, t7, t8, t22, t23, t24, hx]
      refine retR_less (l := [.agg (rEn e)]) (H' := H'') ?_ (le_s1 (le_s1 (le_s1 (AHeap.le_refl _) h6) h7) h8) ⟨rfl, hM'⟩
      simp only [resA, go_sem, reduceIte, reduceCtorEq, Nat.reduceEqDiff, Nat.reduceBEq, Nat.reduceAdd, Nat.reduceLeDiff, Nat.reduceMul, Nat.reduceLT, Int.reduceEq, Int.reduceLT, Int.reduceLE, rEn, d76, d67, d87, d78, d86, d68, t6]
    | cons q' tl =>
      cases g with
      | nil => simp [chainN] at hcq
      | node k2 a2 b2 ks re =>
        have hk2 : followsK k2 = true := by
          simp only [chainN] at hcq
          split at hcq
          · assumption
          · cases hcq
        have hdx' : (chainN rest j).drop x = q :: chainN re (q + 1 + ks.size) := by
          rw [hdx]; simp only [chainN]; rw [if_pos hk2]
        obtain ⟨hx1, hx2, hx3⟩ := drop_cons hdx'
        have hf' := hk2
        simp only [followsK, inR, Bool.and_eq_true, decide_eq_true_eq] at hf'
        obtain ⟨n1, n2, n3, n4, n5⟩ := numsF_node hgn
        have hc := cost_node_le (k := k2) (a := a2) (b := b2) (kids := ks) (rest := re) (by omega)
        have hh2 := hgat.head
        have hsz : (Fo.node k2 a2 b2 ks re).size = 1 + ks.size + re.size := rfl
        have hch2 : chainR t (.node k2 a2 b2 ks re) q st e h s' = chainR t (.node k2 a2 b2 ks re) q st e h s' := rfl
        conv at hch2 => rhs; simp only [chainR]; rw [if_pos hk2]
        obtain ⟨xl, xf, H1, H2, hFm, hg1, hg2, hb, rfl⟩ := id hM'
        have h6' := h6
        have h7' := h7
        have h8' := h8
        rw [set_none] at h6' h7' h8'
        obtain ⟨m1, m2, m3⟩ := h6'
        obtain ⟨m4, m5, m6⟩ := h7'
        obtain ⟨m7, m8, m9⟩ := h8'
        have hgol : h < s'.fs.length := by omega
        have adv : ∀ (SZ : Nat) (st' e' : En) (s'' : RS) (H3 : AHeap), re.size < SZ → chainR t (.node k2 a2 b2 ks re) q st e h s' = chainR t re (q + 1 + ks.size) st' e' h s'' → FsOk t s''.fs → s.fs.length ≤ s''.fs.length → PdOk s'' (some (st', e')) → s''.log.length + cost re ≤ 900000 → s''.fs.length + cost re ≤ 900000 → H3 b6 = none → H3 b7 = none → H3 b8 = none → MachS F H3 bm t cl P clp s'' →
            ∃ m', m' < SZ ∧ ∃ (g : Fo) (q x_1 : Nat) (st_1 e_1 : En) (s'_1 : RS) (H'' : AHeap), m' = g.size ∧ At P q d g ∧ numsF t g d = true ∧ g.size ≤ rest.size ∧ (chainN rest j).drop x_1 = chainN g q ∧ x_1 ≤ (chainN rest j).length ∧ FsOk t s'_1.fs ∧ s.fs.length ≤ s'_1.fs.length ∧ PdOk s'_1 (some (st_1, e_1)) ∧ s'_1.log.length + cost g ≤ 900000 ∧ s'_1.fs.length + cost g ≤ 900000 ∧ chainR t rest j r.1 r.1 h r.2 = chainR t g q st_1 e_1 h s'_1 ∧
              ((H3.set b6 ⟨2, 69, [[I 0, I 0]]⟩).set b7 ⟨2, 69, [[I e'.ed, I e'.val]]⟩).set b8 ⟨2, 69, [[I st'.ed, I st'.val]]⟩ = ((H''.set b6 ⟨2, 69, [[I 0, I 0]]⟩).set b7 ⟨2, 69, [[I e_1.ed, I e_1.val]]⟩).set b8 ⟨2, 69, [[I st_1.ed, I st_1.val]]⟩ ∧ H'' b6 = none ∧ H'' b7 = none ∧ H'' b8 = none ∧ MachS F H'' bm t cl P clp s'_1 ∧ AV.lit (.int .i64 (IntKind.i64.wrap ((x : Int) + 1))) = I x_1 :=
          fun SZ st' e' s'' H3 q1 q2 q3 q4 q5 q6 q7 q8 q9 q10 q11 => ⟨re.size, q1, re, q + 1 + ks.size, x + 1, st', e', s'', H3, rfl, hgat.rest, n5, by omega, hx3, hx1, q3, q4, q5, q6, q7, by rw [he]; exact q2, rfl, q8, q9, q10, q11, I_wrap (by omega) (by omega) (by omega)⟩
        have szl : ∀ k : Int, re.size < (Fo.node k a2 b2 ks re).size := fun k => by simp only [Fo.size]; omega
        by_cases k9 : k2 = 9
        · rw [if_neg (by omega), if_pos k9] at hch2
          by_cases c0 : st.ed = 0
          · rw [if_pos c0] at hch2
            simp +contextual -dsimp -implicitDefEqProofs (maxSteps := 5000000) only [go_sem, reduceIte, reduceCtorEq, Nat.reduceEqDiff, Nat.reduceBEq, Nat.reduceAdd, Nat.reduceLeDiff, Nat.reduceMul, Nat.reduceLT, Int.reduceEq, Int.reduceLT, Int.reduceLE, rEn, d76, d67, d87, d78, d86, d68, m1, m2, m4, m5, m7, m8, t0, t2, t6, t7, t8, t22, t23, t24, toI_len, toI_at, hx1, hx2, hh2.1, hh2.2, k9, c0]
            rintro b11 hb11
            have hgo2 := goes_run ht ks (q + 1) none (d + 1) h s' n4 hs' hgol trivial
            have hgl2 := hgo2.len
            refine (c_block ih (by omega) hgat n4 hs' hgol (by omega) (by omega) (mach_in3 (K6 := ⟨2, 69, [[I 0, I 0]]⟩) (K7 := ⟨2, 69, [rEn e]⟩) (K8 := ⟨2, 69, [[I 0, I st.val]]⟩) hM' h6 h7 h8 d76 d86 d87) hp).mono ?_
            rintro _ H3 ⟨rfl, hM3⟩
            generalize runF t ks (q + 1) none h s' = r2 at hM3 hgo2 hgl2 hch2
            obtain ⟨H5, rfl, hM5, w6, w7, w8⟩ := mach_out3 hM3 hF6 hF7 hF8 d76 d86 d87
            simp +contextual -dsimp -implicitDefEqProofs (maxSteps := 5000000) only [go_sem, reduceIte, reduceCtorEq, Nat.reduceEqDiff, Nat.reduceBEq, Nat.reduceAdd, Nat.reduceLeDiff, Nat.reduceMul, Nat.reduceLT, Int.reduceEq, Int.reduceLT, Int.reduceLE, rEn, d76, d67, d87, d78, d86, d68, m1, m2, m4, m5, m7, m8, t0, t2, t6, t7, t8, t22, t23, t24, toI_len, toI_at, hx1, hx2, hh2.1, hh2.2, k9, c0]
            have fin := adv _ st r2.1 r2.2 H5 (szl 9) hch2 hgo2.ok (by omega) ⟨fun z => absurd (show st.ed = 2 from z) (by omega), hgo2.val⟩ (by omega) (by omega) w6 w7 w8 hM5
            rw [c0] at fin
            exact fin
          · rw [if_neg c0] at hch2
            simp +contextual -dsimp -implicitDefEqProofs (maxSteps := 5000000) only [go_sem, reduceIte, reduceCtorEq, Nat.reduceEqDiff, Nat.reduceBEq, Nat.reduceAdd, Nat.reduceLeDiff, Nat.reduceMul, Nat.reduceLT, Int.reduceEq, Int.reduceLT, Int.reduceLE, rEn, d76, d67, d87, d78, d86, d68, m1, m2, m4, m5, m7, m8, t0, t2, t6, t7, t8, t22, t23, t24, toI_len, toI_at, hx1, hx2, hh2.1, hh2.2, k9, c0]
            rintro b11 hb11
            exact adv _ st e s' _ (szl 9) hch2 hs' hsl hpd (by omega) (by omega) h6 h7 h8 hM'
        · by_cases k8 : k2 = 8
          · rw [if_pos k8] at hch2
            by_cases c2 : st.ed = 2
            · have hsv := hpd.1 c2
              simp only at hsv
              have sv0 := hsv.1
              have sv1 := hsv.2
              have sv2 : st.val.toNat < s'.fs.length := by omega
              have hcl := (hs'.cls st.val.toNat sv2).1
              have hcl2 := hasF_spec hcl
              simp +contextual -dsimp -implicitDefEqProofs (maxSteps := 5000000) only [go_sem, reduceIte, reduceCtorEq, Nat.reduceEqDiff, Nat.reduceBEq, Nat.reduceAdd, Nat.reduceLeDiff, Nat.reduceMul, Nat.reduceLT, Int.reduceEq, Int.reduceLT, Int.reduceLE, rEn, d76, d67, d87, d78, d86, d68, m1, m2, m4, m5, m7, m8, t0, t2, t6, t7, t8, t22, t23, t24, toI_len, toI_at, hx1, hx2, hh2.1, hh2.2, k8, c2]
              rintro b11 hb11
              refine draw_intro [0, 0, 0, 0, 0, 0, 0, 0, 0, 0, 0, 0, 0, 0, 0, 0, 0, 0, 0, 0, 2, 0] AHeap.none (by kernel_rfl) none_le ?_
              rcases hg2 with ⟨ee, _, _⟩ | ⟨bf, clf, hbf, rfl, rfl⟩
              · rw [ee] at sv1; simp at sv1; omega
              have ub := hb
              have u6 := m3
              have u7 := m6
              have u8 := m9
              rw [set_none] at ub u6 u7 u8
              obtain ⟨v1, v2, _⟩ := ub
              obtain ⟨v3, v4, _⟩ := u6
              obtain ⟨v5, v6, _⟩ := u7
              obtain ⟨v7, v8, _⟩ := u8
              simp +contextual -dsimp -implicitDefEqProofs (maxSteps := 5000000) only [go_sem, reduceIte, reduceCtorEq, Nat.reduceEqDiff, Nat.reduceBEq, Nat.reduceAdd, Nat.reduceLeDiff, Nat.reduceMul, Nat.reduceLT, Int.reduceEq, Int.reduceLT, Int.reduceLE, rEn, d76, d67, d87, d78, d86, d68, m1, m2, m4, m5, m7, m8, t0, t2, t6, t7, t8, t22, t23, t24, toI_len, toI_at, hx1, hx2, hh2.1, hh2.2, k8, c2, v1, v2, v3, v4, v5, v6, v7, v8, sv0, sv1, sv2]
              refine (c_is t cl _ a2 _ ht hcl2.2).det ?_
              simp +contextual -dsimp -implicitDefEqProofs (maxSteps := 5000000) only [go_sem, reduceIte, reduceCtorEq, Nat.reduceEqDiff, Nat.reduceBEq, Nat.reduceAdd, Nat.reduceLeDiff, Nat.reduceMul, Nat.reduceLT, Int.reduceEq, Int.reduceLT, Int.reduceLE, rEn, d76, d67, d87, d78, d86, d68, m1, m2, m4, m5, m7, m8, t0, t2, t6, t7, t8, t22, t23, t24, toI_len, toI_at, hx1, hx2, hh2.1, hh2.2, k8, c2, v1, v2, v3, v4, v5, v6, v7, v8, sv0, sv1, sv2]
              refine ⟨fun hq => ?_, fun hq => ?_⟩
              · rw [if_pos ⟨c2, hq⟩] at hch2
                have hgo2 := goes_run ht ks (q + 1) none (d + 1) st.val s' n4 hs' sv1 trivial
                have hgl2 := hgo2.len
                refine (c_block ih (by omega) hgat n4 hs' sv1 (by omega) (by omega) (mach_in3 (K6 := ⟨2, 69, [[I 0, I 0]]⟩) (K7 := ⟨2, 69, [rEn e]⟩) (K8 := ⟨2, 69, [[I 2, I st.val]]⟩) hM' h6 h7 h8 d76 d86 d87) hp).mono ?_
                rintro _ H3 ⟨rfl, hM3⟩
                generalize runF t ks (q + 1) none st.val s' = r2 at hM3 hgo2 hgl2 hch2
                obtain ⟨H5, rfl, hM5, w6, w7, w8⟩ := mach_out3 hM3 hF6 hF7 hF8 d76 d86 d87
                simp +contextual -dsimp -implicitDefEqProofs (maxSteps := 5000000) only [go_sem, reduceIte, reduceCtorEq, Nat.reduceEqDiff, Nat.reduceBEq, Nat.reduceAdd, Nat.reduceLeDiff, Nat.reduceMul, Nat.reduceLT, Int.reduceEq, Int.reduceLT, Int.reduceLE, rEn, d76, d67, d87, d78, d86, d68, m1, m2, m4, m5, m7, m8, t0, t2, t6, t7, t8, t22, t23, t24, toI_len, toI_at, hx1, hx2, hh2.1, hh2.2, k8, c2]
                exact adv _ ⟨-1, 0⟩ r2.1 r2.2 H5 (szl 8) hch2 hgo2.ok (by omega) ⟨(fun z => by cases z), hgo2.val⟩ (by omega) (by omega) w6 w7 w8 hM5
              · rw [if_neg (fun z => by have := z.2; unfold isF clsOf at this; rw [hq] at this; cases this)] at hch2
                have fin := adv _ st e s' _ (szl 8) hch2 hs' hsl hpd (by omega) (by omega) h6 h7 h8 hM'
                rw [c2] at fin
                exact fin
            · rw [if_neg (fun z => c2 z.1)] at hch2
              simp +contextual -dsimp -implicitDefEqProofs (maxSteps := 5000000) only [go_sem, reduceIte, reduceCtorEq, Nat.reduceEqDiff, Nat.reduceBEq, Nat.reduceAdd, Nat.reduceLeDiff, Nat.reduceMul, Nat.reduceLT, Int.reduceEq, Int.reduceLT, Int.reduceLE, rEn, d76, d67, d87, d78, d86, d68, m1, m2, m4, m5, m7, m8, t0, t2, t6, t7, t8, t22, t23, t24, toI_len, toI_at, hx1, hx2, hh2.1, hh2.2, k8, c2]
              rintro b11 hb11
              refine draw_intro [0, 0, 0, 0, 0, 0, 0, 0, 0, 0, 0, 0, 0, 0, 0, 0, 0, 0, 0, 0, 2, 0] AHeap.none (by kernel_rfl) none_le ?_
              simp +contextual -dsimp -implicitDefEqProofs (maxSteps := 5000000) only [go_sem, reduceIte, reduceCtorEq, Nat.reduceEqDiff, Nat.reduceBEq, Nat.reduceAdd, Nat.reduceLeDiff, Nat.reduceMul, Nat.reduceLT, Int.reduceEq, Int.reduceLT, Int.reduceLE, rEn, d76, d67, d87, d78, d86, d68, m1, m2, m4, m5, m7, m8, t0, t2, t6, t7, t8, t22, t23, t24, toI_len, toI_at, hx1, hx2, hh2.1, hh2.2, k8, c2]
              exact adv _ st e s' _ (szl 8) hch2 hs' hsl hpd (by omega) (by omega) h6 h7 h8 hM'
          · have k10 : k2 = 10 := by omega
            rw [if_neg k8, if_neg k9] at hch2
            by_cases c2 : e.ed = 2
            · have hev := hpd.2 c2
              simp only at hev
              rw [if_pos c2] at hch2
              simp +contextual -dsimp -implicitDefEqProofs (maxSteps := 5000000) only [go_sem, reduceIte, reduceCtorEq, Nat.reduceEqDiff, Nat.reduceBEq, Nat.reduceAdd, Nat.reduceLeDiff, Nat.reduceMul, Nat.reduceLT, Int.reduceEq, Int.reduceLT, Int.reduceLE, rEn, d76, d67, d87, d78, d86, d68, m1, m2, m4, m5, m7, m8, t0, t2, t6, t7, t8, t22, t23, t24, toI_len, toI_at, hx1, hx2, hh2.1, hh2.2, k10, c2]
              rintro b11 hb11
              have hgo2 := goes_run ht ks (q + 1) none (d + 1) e.val s' n4 hs' hev.2 trivial
              have hgl2 := hgo2.len
              refine (c_block ih (by omega) hgat n4 hs' hev.2 (by omega) (by omega) (mach_in3 (K6 := ⟨2, 69, [[I 0, I 0]]⟩) (K7 := ⟨2, 69, [[I 2, I e.val]]⟩) (K8 := ⟨2, 69, [rEn st]⟩) hM' h6 h7 h8 d76 d86 d87) hp).mono ?_
              rintro _ H3 ⟨rfl, hM3⟩
              generalize runF t ks (q + 1) none e.val s' = r2 at hM3 hgo2 hgl2 hch2
              obtain ⟨H5, rfl, hM5, w6, w7, w8⟩ := mach_out3 hM3 hF6 hF7 hF8 d76 d86 d87
              by_cases c0 : r2.1.ed = 0
              · rw [if_pos c0] at hch2
                simp +contextual -dsimp -implicitDefEqProofs (maxSteps := 5000000) only [go_sem, reduceIte, reduceCtorEq, Nat.reduceEqDiff, Nat.reduceBEq, Nat.reduceAdd, Nat.reduceLeDiff, Nat.reduceMul, Nat.reduceLT, Int.reduceEq, Int.reduceLT, Int.reduceLE, rEn, d76, d67, d87, d78, d86, d68, m1, m2, m4, m5, m7, m8, t0, t2, t6, t7, t8, t22, t23, t24, toI_len, toI_at, hx1, hx2, hh2.1, hh2.2, k10, c2, c0]
                rintro b13 hb13
                have fin := adv _ st e r2.2 H5 (szl 10) hch2 hgo2.ok (by omega) ⟨fun z => by have := hpd.1 z; simp only at this; show 0 ≤ st.val ∧ st.val < (r2.2.fs.length : Int); omega, fun z => by have := hpd.2 z; simp only at this; show 0 ≤ e.val ∧ e.val < (r2.2.fs.length : Int); omega⟩ (by omega) (by omega) w6 w7 w8 hM5
                rw [c2] at fin
                exact fin
              · rw [if_neg c0] at hch2
                simp +contextual -dsimp -implicitDefEqProofs (maxSteps := 5000000) only [go_sem, reduceIte, reduceCtorEq, Nat.reduceEqDiff, Nat.reduceBEq, Nat.reduceAdd, Nat.reduceLeDiff, Nat.reduceMul, Nat.reduceLT, Int.reduceEq, Int.reduceLT, Int.reduceLE, rEn, d76, d67, d87, d78, d86, d68, m1, m2, m4, m5, m7, m8, t0, t2, t6, t7, t8, t22, t23, t24, toI_len, toI_at, hx1, hx2, hh2.1, hh2.2, k10, c2, c0]
                rintro b13 hb13
                exact adv _ st r2.1 r2.2 H5 (szl 10) hch2 hgo2.ok (by omega) ⟨fun z => by have := hpd.1 z; simp only at this; show 0 ≤ st.val ∧ st.val < (r2.2.fs.length : Int); omega, hgo2.val⟩ (by omega) (by omega) w6 w7 w8 hM5
            · rw [if_neg c2] at hch2
              simp +contextual -dsimp -implicitDefEqProofs (maxSteps := 5000000) only [go_sem, reduceIte, reduceCtorEq, Nat.reduceEqDiff, Nat.reduceBEq, Nat.reduceAdd, Nat.reduceLeDiff, Nat.reduceMul, Nat.reduceLT, Int.reduceEq, Int.reduceLT, Int.reduceLE, rEn, d76, d67, d87, d78, d86, d68, m1, m2, m4, m5, m7, m8, t0, t2, t6, t7, t8, t22, t23, t24, toI_len, toI_at, hx1, hx2, hh2.1, hh2.2, k10, c2]
              rintro b11 hb11
              have hgo2 := goes_run ht ks (q + 1) none (d + 1) h s' n4 hs' hgol trivial
              have hgl2 := hgo2.len
              refine (c_block ih (by omega) hgat n4 hs' hgol (by omega) (by omega) (mach_in3 (K6 := ⟨2, 69, [[I 0, I 0]]⟩) (K7 := ⟨2, 69, [rEn e]⟩) (K8 := ⟨2, 69, [rEn st]⟩) hM' h6 h7 h8 d76 d86 d87) hp).mono ?_
              rintro _ H3 ⟨rfl, hM3⟩
              generalize runF t ks (q + 1) none h s' = r2 at hM3 hgo2 hgl2 hch2
              obtain ⟨H5, rfl, hM5, w6, w7, w8⟩ := mach_out3 hM3 hF6 hF7 hF8 d76 d86 d87
              by_cases c0 : r2.1.ed = 0
              · rw [if_pos c0] at hch2
                simp +contextual -dsimp -implicitDefEqProofs (maxSteps := 5000000) only [go_sem, reduceIte, reduceCtorEq, Nat.reduceEqDiff, Nat.reduceBEq, Nat.reduceAdd, Nat.reduceLeDiff, Nat.reduceMul, Nat.reduceLT, Int.reduceEq, Int.reduceLT, Int.reduceLE, rEn, d76, d67, d87, d78, d86, d68, m1, m2, m4, m5, m7, m8, t0, t2, t6, t7, t8, t22, t23, t24, toI_len, toI_at, hx1, hx2, hh2.1, hh2.2, k10, c2, c0]
                rintro b13 hb13
                exact adv _ st e r2.2 H5 (szl 10) hch2 hgo2.ok (by omega) ⟨fun z => by have := hpd.1 z; simp only at this; show 0 ≤ st.val ∧ st.val < (r2.2.fs.length : Int); omega, fun z => absurd z c2⟩ (by omega) (by omega) w6 w7 w8 hM5
              · rw [if_neg c0] at hch2
                simp +contextual -dsimp -implicitDefEqProofs (maxSteps := 5000000) only [go_sem, reduceIte, reduceCtorEq, Nat.reduceEqDiff, Nat.reduceBEq, Nat.reduceAdd, Nat.reduceLeDiff, Nat.reduceMul, Nat.reduceLT, Int.reduceEq, Int.reduceLT, Int.reduceLE, rEn, d76, d67, d87, d78, d86, d68, m1, m2, m4, m5, m7, m8, t0, t2, t6, t7, t8, t22, t23, t24, toI_len, toI_at, hx1, hx2, hh2.1, hh2.2, k10, c2, c0]
                rintro b13 hb13
                exact adv _ st r2.1 r2.2 H5 (szl 10) hch2 hgo2.ok (by omega) ⟨fun z => by have := hpd.1 z; simp only at this; show 0 ≤ st.val ∧ st.val < (r2.2.fs.length : Int); omega, hgo2.val⟩ (by omega) (by omega) w6 w7 w8 hM5
end
section
open Go Go.Sim
set_option maxRecDepth 100000
set_option maxHeartbeats 4000000

theorem goes_chain {t : List Class} (ht : validT t = true) : ∀ (f : Fo) (i : Nat) (st e : En) (d h : Int) (s : RS), numsF t f d = true → FsOk t s.fs → h < s.fs.length → PdOk s (some (st, e)) →
    ∃ c, c + cost (skipF f) ≤ cost f ∧ Goes t c s (chainR t f i st e h s).1 (chainR t f i st e h s).2
  | .nil, i, st, e, d, h, s, _, hs, _, hp => ⟨0, Nat.le_refl _, goes_self hs hp.2⟩
  | .node k a b kids rest, i, st, e, d, h, s, hn, hs, hh, hp => by
    obtain ⟨n1, n2, n3, n4, n5⟩ := numsF_node hn
    simp only [chainR, skipF]
    by_cases hk : followsK k = true
    · simp only [hk, if_true]
      have hk' := hk
      simp only [followsK, inR, Bool.and_eq_true, decide_eq_true_eq] at hk'
      have hc := cost_node_le (k := k) (a := a) (b := b) (kids := kids) (rest := rest) (by omega)
      have pass : ∀ (q : En × En), PdOk s (some q) → ∃ c, c + cost (skipF rest) ≤ cost (.node k a b kids rest) ∧ Goes t c s (chainR t rest (i + 1 + kids.size) q.1 q.2 h s).1 (chainR t rest (i + 1 + kids.size) q.1 q.2 h s).2 := by
        intro q hq
        obtain ⟨c, h1, h2⟩ := goes_chain ht rest (i + 1 + kids.size) q.1 q.2 d h s n5 hs hh hq
        exact ⟨c, by omega, h2⟩
      have go : ∀ (g : Int) (st : En) (e : En × RS → En), g < s.fs.length → (st.ed = 2 → 0 ≤ st.val ∧ st.val < s.fs.length) → (∀ r : En × RS, (r.1.ed = 2 → 0 ≤ r.1.val ∧ r.1.val < r.2.fs.length) → s.fs.length ≤ r.2.fs.length → (e r).ed = 2 → 0 ≤ (e r).val ∧ (e r).val < r.2.fs.length) →
          ∃ c, c + cost (skipF rest) ≤ cost (.node k a b kids rest) ∧ Goes t c s ((fun r : En × RS => chainR t rest (i + 1 + kids.size) st (e r) h r.2) (runF t kids (i + 1) none g s)).1 ((fun r : En × RS => chainR t rest (i + 1 + kids.size) st (e r) h r.2) (runF t kids (i + 1) none g s)).2 := by
        intro g st e hg hst he
        have h1 := goes_run ht kids (i + 1) none (d + 1) g s n4 hs hg trivial
        generalize runF t kids (i + 1) none g s = r at h1 ⊢
        have hl := h1.len
        obtain ⟨c, h2, h3⟩ := goes_chain ht rest (i + 1 + kids.size) st (e r) d h r.2 n5 h1.ok (by omega) ⟨fun q => by have := hst q; show 0 ≤ st.val ∧ st.val < (r.2.fs.length : Int); omega, he r h1.val hl.1⟩
        exact ⟨cost kids + c, by omega, h1.trans h3 (Nat.le_refl _)⟩
      split
      · split
        · rename_i hq
          exact go st.val ⟨-1, 0⟩ (fun r => r.1) (hp.1 hq.1).2 (fun q => by cases q) (fun r hr _ => hr)
        · exact pass (st, e) hp
      · split
        · split
          · exact go h st (fun r => r.1) hh hp.1 (fun r hr _ => hr)
          · exact pass (st, e) hp
        · refine go _ st (fun r => if r.1.ed = 0 then e else r.1) ?_ hp.1 (fun r hr hl => ?_)
          · split
            · exact (hp.2 ‹_›).2
            · exact hh
          · split
            · exact fun z => by have := hp.2 z; simp only at this; omega
            · exact hr
    · rw [if_neg hk, if_neg hk]
      exact ⟨0, by omega, goes_self hs hp.2⟩
theorem numsF_skip {t : List Class} {d : Int} : ∀ (f : Fo), numsF t f d = true → numsF t (skipF f) d = true
  | .nil, h => h
  | .node k a b kids rest, h => by
    simp only [skipF]
    split
    · exact numsF_skip rest (numsF_node h).2.2.2.2
    · exact h
theorem getD_last (i : Nat) (l : List Nat) : (i :: l).getD l.length default = (i :: l).getLastD 0 := by
  rw [List.getLastD_cons]
  induction l generalizing i with
  | nil => rfl
  | cons x l ih => rw [List.length_cons, List.getD_cons_succ, List.getLastD_cons]; exact ih x
theorem c_linesStep {t : List Class} {cl : Bool} {P : List Line} {clp : Bool} {n : Nat} (ht : validT t = true) (hp : P.length ≤ 4398046511104) (ih : LinesOk t cl P clp n) : LinesOk t cl P clp (n + 1) := by
  intro f i d h s F H bm hfn hat hnf hs hh hl hf hM
  have hfl := hat.len
  refine acalls_of1 Tryz.func36 rfl (by kernel_rfl) rfl rfl (awp_sound (fz := fun r => if r = 12 then [11] else []) (im := fun _ => false) mixed _ _ _ _ (by kernel_rfl) ?_)
  simp +contextual -dsimp -implicitDefEqProofs (maxSteps := 5000000) only [go_sem, reduceIte, reduceCtorEq, Nat.reduceEqDiff, Nat.reduceBEq, Nat.reduceAdd, Nat.reduceLeDiff, Nat.reduceMul, Nat.reduceLT, Int.reduceEq, Int.reduceLT, Int.reduceLE]
  intro b8 hb8
  have hF8 := mach_none hM hb8
  refine aloop mixed (fz := fun r => if r = 12 then [11] else []) (im := fun _ => false) (by kernel_rfl) (fun m tm H' => ∃ (g : Fo) (q : Nat) (s' : RS) (H'' : AHeap), m = g.size ∧ At P q d g ∧ numsF t g d = true ∧ g.size ≤ f.size ∧ q + g.size = i + f.size ∧ FsOk t s'.fs ∧ s.fs.length ≤ s'.fs.length ∧ s'.log.length + cost g ≤ 900000 ∧ s'.fs.length + cost g ≤ 900000 ∧ runF t f i none h s = runF t g q none h s' ∧ H' = H''.set b8 ⟨2, 69, [[I 0, I 0]]⟩ ∧ H'' b8 = none ∧ MachS F H'' bm t cl P clp s' ∧ tm 0 = .ptr bm 5 0 0 ∧ tm 2 = I (i + f.size : Nat) ∧ tm 3 = I h ∧ tm 8 = .ptr b8 2 0 0 ∧ tm 9 = I q) f.size ⟨f, i, s, H, rfl, hat, hnf, Nat.le_refl _, rfl, hs, Nat.le_refl _, hl, hf, rfl, rfl, hb8, hM, ?_⟩ ?_
  · simp +contextual -dsimp -implicitDefEqProofs (maxSteps := 5000000) only [go_sem, reduceIte, reduceCtorEq, Nat.reduceEqDiff, Nat.reduceBEq, Nat.reduceAdd, Nat.reduceLeDiff, Nat.reduceMul, Nat.reduceLT, Int.reduceEq, Int.reduceLT, Int.reduceLE]
  · rintro m tm _ ⟨g, q, s', H'', rfl, hgat, hgn, hgs, hgq, hs', hsl, bl, bf, he, rfl, h8, hM', t0, t2, t3, t8, t9⟩
    cases g with
    | nil =>
      have z : ¬ q < i + f.size := by simp only [Fo.size] at hgq; omega
      rw [he]
      simp +contextual -dsimp -implicitDefEqProofs (maxSteps := 5000000) only [go_sem, reduceIte, reduceCtorEq, Nat.reduceEqDiff, Nat.reduceBEq, Nat.reduceAdd, Nat.reduceLeDiff, Nat.reduceMul, Nat.reduceLT, Int.reduceEq, Int.reduceLT, Int.reduceLE, t0, t2, t3, t8, t9, z]
      refine retR_less (l := [.agg (rEn .next)]) (H' := H'') ?_ (le_set h8) ⟨rfl, hM'⟩
      simp only [resA, go_sem, reduceIte, reduceCtorEq, Nat.reduceEqDiff, Nat.reduceBEq, Nat.reduceAdd, Nat.reduceLeDiff, Nat.reduceMul, Nat.reduceLT, Int.reduceEq, Int.reduceLT, Int.reduceLE, rEn, En.next, t8]
    | node k a b kids rest =>
      have hsz : (Fo.node k a b kids rest).size = 1 + kids.size + rest.size := rfl
      have z : q < i + f.size := by omega
      have hq := hgat.head
      obtain ⟨xl, xf, H1, H2, hFm, hg1, hg2, hb, rfl⟩ := id hM'
      have h8' := h8
      rw [set_none] at h8'
      obtain ⟨m1, m2, m3⟩ := h8'
      obtain ⟨n1, n2, n3, n4, n5⟩ := numsF_node hgn
      simp +contextual -dsimp -implicitDefEqProofs (maxSteps := 5000000) only [go_sem, reduceIte, reduceCtorEq, Nat.reduceEqDiff, Nat.reduceBEq, Nat.reduceAdd, Nat.reduceLeDiff, Nat.reduceMul, Nat.reduceLT, Int.reduceEq, Int.reduceLT, Int.reduceLE, t0, t2, t3, t8, t9, z, m1, m2]
      refine (c_endOf P clp q _ hq.1).det ?_
      rw [hgat.endP]
      simp +contextual -dsimp -implicitDefEqProofs (maxSteps := 5000000) only [go_sem, reduceIte, reduceCtorEq, Nat.reduceEqDiff, Nat.reduceBEq, Nat.reduceAdd, Nat.reduceLeDiff, Nat.reduceMul, Nat.reduceLT, Int.reduceEq, Int.reduceLT, Int.reduceLE, t0, t2, t3, t8, t9, z, m1, m2, hq.1, hq.2]
      rintro b11 ⟨d1, d2, d3, d4, m4⟩
      have h11 : (H2.set bm ⟨5, 110, [[.vsl (t.map rClass) cl, aProg P clp, xl, xf, I s'.first]]⟩) b11 = none := by rw [set_other d3]; exact m4
      have hF11 := mach_none hM' h11
      have adv : ∀ (SZ : Nat) (g' : Fo) (q' : Nat) (s'' : RS) (H3 : AHeap), g'.size < SZ → g'.size ≤ rest.size → At P q' d g' → numsF t g' d = true → q' + g'.size = i + f.size → runF t (.node k a b kids rest) q none h s' = runF t g' q' none h s'' → FsOk t s''.fs → s.fs.length ≤ s''.fs.length → s''.log.length + cost g' ≤ 900000 → s''.fs.length + cost g' ≤ 900000 → H3 b8 = none → MachS F H3 bm t cl P clp s'' →
          ∃ m', m' < SZ ∧ ∃ (g : Fo) (q : Nat) (s' : RS) (H'' : AHeap), m' = g.size ∧ At P q d g ∧ numsF t g d = true ∧ g.size ≤ f.size ∧ q + g.size = i + f.size ∧ FsOk t s'.fs ∧ s.fs.length ≤ s'.fs.length ∧ s'.log.length + cost g ≤ 900000 ∧ s'.fs.length + cost g ≤ 900000 ∧ runF t f i none h s = runF t g q none h s' ∧ H3.set b8 ⟨2, 69, [[I 0, I 0]]⟩ = H''.set b8 ⟨2, 69, [[I 0, I 0]]⟩ ∧ H'' b8 = none ∧ MachS F H'' bm t cl P clp s' ∧ I q' = I q :=
        fun SZ g' q' s'' H3 w1 w0 w2 w3 w4 w5 w6 w7 w8 w9 w10 w11 => ⟨g'.size, w1, g', q', s'', H3, rfl, w2, w3, by omega, w4, w6, w7, w8, w9, by rw [he]; exact w5, rfl, w10, w11, rfl⟩
      have hMin := mach_in (K := ⟨2, 69, [[I 0, I 0]]⟩) (mach_in (K := ⟨2, 69, [[I 0, I 0]]⟩) hM' h8) (show ((H2.set bm _).set b8 _) b11 = none by rw [set_other d1]; exact h11)
      have mout : ∀ (s'' : RS) (H3 : AHeap), MachS ((F.set b8 ⟨2, 69, [[I 0, I 0]]⟩).set b11 ⟨2, 69, [[I 0, I 0]]⟩) H3 bm t cl P clp s'' → ∃ H4, H3 = (H4.set b8 ⟨2, 69, [[I 0, I 0]]⟩).set b11 ⟨2, 69, [[I 0, I 0]]⟩ ∧ MachS F H4 bm t cl P clp s'' ∧ H4 b8 = none ∧ H4 b11 = none := by
        intro s'' H3 hM3
        obtain ⟨H4, rfl, hM4, w1⟩ := mach_out hM3 (by rw [set_other d1]; exact hF11)
        obtain ⟨H5, rfl, hM5, w2⟩ := mach_out hM4 hF8
        rw [set_other d1] at w1
        exact ⟨H5, rfl, hM5, w2, w1⟩
      by_cases k7 : k = 7
      · subst k7
        have hc : cost (.node 7 a b kids rest) = 2 + cost kids + cost rest := cost_node_le (by omega)
        simp +contextual -dsimp -implicitDefEqProofs (maxSteps := 5000000) only [go_sem, reduceIte, reduceCtorEq, Nat.reduceEqDiff, Nat.reduceBEq, Nat.reduceAdd, Nat.reduceLeDiff, Nat.reduceMul, Nat.reduceLT, Int.reduceEq, Int.reduceLT, Int.reduceLE, t0, t2, t3, t8, t9, z, m1, m2, hq.1, hq.2, d1, d2, d3, d4]
        refine acalls_frz (c_tryFrom P clp q _ hq.1 hp) fun cl2 => ?_
        rw [chainP_at hgat]
        simp +contextual -dsimp -implicitDefEqProofs (maxSteps := 5000000) only [go_sem, reduceIte, reduceCtorEq, Nat.reduceEqDiff, Nat.reduceBEq, Nat.reduceAdd, Nat.reduceLeDiff, Nat.reduceMul, Nat.reduceLT, Int.reduceEq, Int.reduceLT, Int.reduceLE, t0, t2, t3, t8, t9, z, m1, m2, hq.1, hq.2, d1, d2, d3, d4]
        refine draw_intro [0, 0, 0, 0, 0, 0, 0, 0, 0, 0, 2, 0] AHeap.none (by kernel_rfl) none_le ?_
        have hce := chain_end rest (q + 1 + kids.size) q hgat.rest hgat.endP
        have hgl := getD_last q (chainN rest (q + 1 + kids.size))
        have hmem := chainP_mem hq.1 ((q :: chainN rest (q + 1 + kids.size)).getLastD 0) (by
          rw [chainP_at hgat, ← hgl, List.getD_eq_getElem?_getD, List.getElem?_eq_getElem (by simp)]
          exact List.getElem_mem _)
        have hwl : IntKind.i64.wrap (((chainN rest (q + 1 + kids.size)).length + 1 : Nat) - 1) = ((chainN rest (q + 1 + kids.size)).length : Int) := by
          have := chain_len rest (q + 1 + kids.size)
          rw [w64 (by omega) (by omega)]; omega
        have hlt1 : ((chainN rest (q + 1 + kids.size)).length : Int) < (((chainN rest (q + 1 + kids.size)).length + 1 : Nat) : Int) := by omega
        have hlt2 : (chainN rest (q + 1 + kids.size)).length < (chainN rest (q + 1 + kids.size)).length + 1 := by omega
        simp +contextual -dsimp -implicitDefEqProofs (maxSteps := 5000000) only [go_sem, reduceIte, reduceCtorEq, Nat.reduceEqDiff, Nat.reduceBEq, Nat.reduceAdd, Nat.reduceLeDiff, Nat.reduceMul, Nat.reduceLT, Int.reduceEq, Int.reduceLT, Int.reduceLE, t0, t2, t3, t8, t9, z, m1, m2, hq.1, hq.2, d1, d2, d3, d4, toI_len, toI_at, List.length_cons, hwl, hgl, hlt1, hlt2]
        refine (c_endOf P clp _ _ hmem).det ?_
        rw [hce]
        simp +contextual -dsimp -implicitDefEqProofs (maxSteps := 5000000) only [go_sem, reduceIte, reduceCtorEq, Nat.reduceEqDiff, Nat.reduceBEq, Nat.reduceAdd, Nat.reduceLeDiff, Nat.reduceMul, Nat.reduceLT, Int.reduceEq, Int.reduceLT, Int.reduceLE, t0, t2, t3, t8, t9, z, m1, m2, hq.1, hq.2, d1, d2, d3, d4]
        have hgo0 := goes_run ht kids (q + 1) none (d + 1) h s' n4 hs' (by omega) trivial
        have hgl0 := hgo0.len
        have hss := skipN_add rest (q + 1 + kids.size)
        have hsf := skipF_size rest
        refine (c_try ht ih cl2 (by omega) hgat n4 n5 hs' (by omega) (by omega) (by omega) hMin hp).mono ?_
        rintro _ H3 ⟨rfl, hM3⟩
        have hrun := runF_try (t := t) (a := a) (b := b) (kids := kids) (rest := rest) (i := q) (h := h) (s := s')
        simp only [runF_some] at hrun
        generalize runF t kids (q + 1) none h s' = r0 at hM3 hgo0 hgl0 hrun ⊢
        obtain ⟨c, hc1, hgo⟩ := goes_chain ht rest (q + 1 + kids.size) r0.1 r0.1 d h r0.2 n5 hgo0.ok (by omega) ⟨hgo0.val, hgo0.val⟩
        have hgl := hgo.len
        generalize chainR t rest (q + 1 + kids.size) r0.1 r0.1 h r0.2 = r at hM3 hgo hgl hrun ⊢
        obtain ⟨H4, rfl, hM4, w1, w2⟩ := mout _ _ hM3
        by_cases c0 : r.1.ed = 0
        · simp only [c0, if_true] at hrun
          simp +contextual -dsimp -implicitDefEqProofs (maxSteps := 5000000) only [go_sem, reduceIte, reduceCtorEq, Nat.reduceEqDiff, Nat.reduceBEq, Nat.reduceAdd, Nat.reduceLeDiff, Nat.reduceMul, Nat.reduceLT, Int.reduceEq, Int.reduceLT, Int.reduceLE, rEn, t0, t2, t3, t8, t9, z, m1, m2, hq.1, hq.2, d1, d2, d3, d4, c0, w2]
          exact adv _ (skipF rest) (skipN rest (q + 1 + kids.size)) r.2 H4 (by simp only [Fo.size]; omega) hsf hgat.rest.skip (numsF_skip rest n5) (by omega) hrun hgo.ok (by omega) (by omega) (by omega) w1 hM4
        · simp only [c0, if_false] at hrun
          simp +contextual -dsimp -implicitDefEqProofs (maxSteps := 5000000) only [go_sem, reduceIte, reduceCtorEq, Nat.reduceEqDiff, Nat.reduceBEq, Nat.reduceAdd, Nat.reduceLeDiff, Nat.reduceMul, Nat.reduceLT, Int.reduceEq, Int.reduceLT, Int.reduceLE, rEn, t0, t2, t3, t8, t9, z, m1, m2, hq.1, hq.2, d1, d2, d3, d4, c0]
          rw [he, hrun]
          refine retR_less (l := [.agg (rEn r.1)]) (H' := H4) ?_ (le_s1 (le_s1 (AHeap.le_refl _) w1) w2) ⟨rfl, hM4⟩
          simp only [resA, go_sem, reduceIte, reduceCtorEq, Nat.reduceEqDiff, Nat.reduceBEq, Nat.reduceAdd, Nat.reduceLeDiff, Nat.reduceMul, Nat.reduceLT, Int.reduceEq, Int.reduceLT, Int.reduceLE, rEn, d1, d2, t8]
      · have hgo := goes_lineR (h := h) (i := q) (body := fun s => runF t kids (q + 1) none h s) (n := cost kids) ht hs' n1 (by omega) (fun s2 hs2 hl2 => goes_run ht kids (q + 1) none (d + 1) h s2 n4 hs2 (by omega) trivial)
        have hgl := hgo.len
        have hrun := runF_line (t := t) (a := a) (b := b) (kids := kids) (rest := rest) (i := q) (h := h) (s := s') k7
        have hcn : cost (.node k a b kids rest) = 2 + (if k = 12 then a.toNat * cost kids else cost kids) + cost rest := rfl
        simp +contextual -dsimp -implicitDefEqProofs (maxSteps := 5000000) only [go_sem, reduceIte, reduceCtorEq, Nat.reduceEqDiff, Nat.reduceBEq, Nat.reduceAdd, Nat.reduceLeDiff, Nat.reduceMul, Nat.reduceLT, Int.reduceEq, Int.reduceLT, Int.reduceLE, t0, t2, t3, t8, t9, z, m1, m2, hq.1, hq.2, d1, d2, d3, d4, k7]
        refine (c_line ht ih (by omega) hgat n1 n4 hs' (by omega) (by omega) (by omega) hMin hp).mono ?_
        rintro _ H3 ⟨rfl, hM3⟩
        generalize lineR k a b q h (fun s => runF t kids (q + 1) none h s) s' = r at hM3 hgo hgl hrun ⊢
        obtain ⟨H4, rfl, hM4, w1, w2⟩ := mout _ _ hM3
        by_cases c0 : r.1.ed = 0
        · simp only [c0, if_true] at hrun
          simp +contextual -dsimp -implicitDefEqProofs (maxSteps := 5000000) only [go_sem, reduceIte, reduceCtorEq, Nat.reduceEqDiff, Nat.reduceBEq, Nat.reduceAdd, Nat.reduceLeDiff, Nat.reduceMul, Nat.reduceLT, Int.reduceEq, Int.reduceLT, Int.reduceLE, rEn, t0, t2, t3, t8, t9, z, m1, m2, hq.1, hq.2, d1, d2, d3, d4, c0, w2]
          exact adv _ rest (q + 1 + kids.size) r.2 H4 (by simp only [Fo.size]; omega) (Nat.le_refl _) hgat.rest n5 (by omega) hrun hgo.ok (by omega) (by omega) (by omega) w1 hM4
        · simp only [c0, if_false] at hrun
          simp +contextual -dsimp -implicitDefEqProofs (maxSteps := 5000000) only [go_sem, reduceIte, reduceCtorEq, Nat.reduceEqDiff, Nat.reduceBEq, Nat.reduceAdd, Nat.reduceLeDiff, Nat.reduceMul, Nat.reduceLT, Int.reduceEq, Int.reduceLT, Int.reduceLE, rEn, t0, t2, t3, t8, t9, z, m1, m2, hq.1, hq.2, d1, d2, d3, d4, c0]
          rw [he, hrun]
          refine retR_less (l := [.agg (rEn r.1)]) (H' := H4) ?_ (le_s1 (le_s1 (AHeap.le_refl _) w1) w2) ⟨rfl, hM4⟩
          simp only [resA, go_sem, reduceIte, reduceCtorEq, Nat.reduceEqDiff, Nat.reduceBEq, Nat.reduceAdd, Nat.reduceLeDiff, Nat.reduceMul, Nat.reduceLT, Int.reduceEq, Int.reduceLT, Int.reduceLE, rEn, d1, d2, t8]
theorem c_linesAll {t : List Class} {cl : Bool} {P : List Line} {clp : Bool} (ht : validT t = true) (hp : P.length ≤ 4398046511104) : ∀ n, LinesOk t cl P clp n
  | 0 => fun f i d h s F H bm hn => by omega
  | n + 1 => c_linesStep ht hp (c_linesAll ht hp n)
end
section
open Go Go.Sim
set_option maxRecDepth 100000
set_option maxHeartbeats 4000000

/-- The lines of a program, with their blocks. -/
noncomputable def forestP (p : List Line) : Fo := @dite _ (∃ f : Fo, p = f.flat 0) (Classical.propDecidable _) (fun h => h.choose) (fun _ => .nil)
theorem forestP_flat (f : Fo) : forestP (f.flat 0) = f := by
  have h : ∃ g : Fo, f.flat 0 = g.flat 0 := ⟨f, rfl⟩
  unfold forestP
  rw [dif_pos h]
  exact (flat_one h.choose_spec).symm
def rs0 : RS := ⟨[], [], -1⟩
noncomputable def runP (t : List Class) (p : List Line) : En × RS := runF t (forestP p) 0 none (-1) rs0
/-- The result of a run, as the program tells it. -/
def resOf (r : En × RS) : Res :=
  if r.1.ed = 2 then ⟨r.2.log, 2, idxF (fun x => decide (r.1.val = x)) (sortI (bfsF r.2.fs r.1.val)), isoL r.2.fs (sortI (bfsF r.2.fs r.1.val))⟩ else ⟨r.2.log, r.1.ed, r.1.val, []⟩
theorem validP_forest {t : List Class} {p : List Line} (h : ValidP t p) : validT t = true ∧ p = (forestP p).flat 0 ∧ numsF t (forestP p) 0 = true ∧ okF (forestP p) false false = true ∧ (forestP p).size = p.length ∧ (forestP p).size ≤ 24 := by
  obtain ⟨h1, h2, f, rfl, h3, h4⟩ := h
  rw [forestP_flat]
  rw [flat_len] at h2
  exact ⟨h1, rfl, h3, h4, (flat_len f 0).symm, h2⟩
theorem runP_goes {t : List Class} {p : List Line} (h : ValidP t p) : Goes t 34992 rs0 (runP t p).1 (runP t p).2 := by
  obtain ⟨h1, h2, h3, h4, h5, h6⟩ := validP_forest h
  exact (goes_run h1 (forestP p) 0 none 0 (-1) rs0 h3 (fsOk_nil t) (by show (-1 : Int) < 0; omega) trivial).le (cost_small h3 h6)
theorem c_mRunProgram (t : List Class) (cl : Bool) (p : List Line) (cl' : Bool) (H : AHeap) (hn : namesOk t) (hp : p.length ≤ 4398046511104) :
    ACalls Tryz.prog 10 [aTree t cl, aProg p cl'] H fun r H' => OwnRes H H' r (if validB t p = true then resOf (runP t p) else res0) := by
  refine acalls_of1 Tryz.func10 rfl (by kernel_rfl) rfl rfl (awp_sound (fz := fun _ => []) (im := fun s => s == 2) mixed _ _ _ _ (by kernel_rfl) ?_)
  simp +contextual -dsimp -implicitDefEqProofs (maxSteps := 5000000) only [go_sem, reduceIte, reduceCtorEq, Nat.reduceEqDiff, Nat.reduceBEq, Nat.reduceAdd, Nat.reduceLeDiff, Nat.reduceMul, Nat.reduceLT, Int.reduceEq, Int.reduceLT, Int.reduceLE]
  intro b4 hb4
  refine (c_ValidProgram t cl p cl' _ hn hp).det ?_
  cases hv : validB t p
  · simp +contextual -dsimp -implicitDefEqProofs (maxSteps := 5000000) only [go_sem, reduceIte, reduceCtorEq, Nat.reduceEqDiff, Nat.reduceBEq, Nat.reduceAdd, Nat.reduceLeDiff, Nat.reduceMul, Nat.reduceLT, Int.reduceEq, Int.reduceLT, Int.reduceLE]
    refine retR_less (l := [.agg [.vsl [] true, I 0, I 0, .vsl [] true]]) (H' := H) ?_ (le_set hb4) (own0 H)
    simp only [resA, go_sem, reduceIte, reduceCtorEq, Nat.reduceEqDiff, Nat.reduceBEq, Nat.reduceAdd, Nat.reduceLeDiff, Nat.reduceMul, Nat.reduceLT, Int.reduceEq, Int.reduceLT, Int.reduceLE]
  · have hval := validB_true.1 hv
    obtain ⟨h1, h2, h3, h4, h5, h6⟩ := validP_forest hval
    have hgo := runP_goes hval
    have hgl := hgo.len
    have hat := at_top h2
    have hcs := cost_small h3 h6
    have hlen : ((0 + (forestP p).size : Nat) : Int) = (p.length : Int) := by omega
    simp +contextual -dsimp -implicitDefEqProofs (maxSteps := 5000000) only [go_sem, reduceIte, reduceCtorEq, Nat.reduceEqDiff, Nat.reduceBEq, Nat.reduceAdd, Nat.reduceLeDiff, Nat.reduceMul, Nat.reduceLT, Int.reduceEq, Int.reduceLT, Int.reduceLE]
    refine (c_machineOf t cl _ (p.map rLine) cl').mono ?_
    rintro _ H1 ⟨bm, rfl, hM⟩
    simp +contextual -dsimp -implicitDefEqProofs (maxSteps := 5000000) only [go_sem, reduceIte, reduceCtorEq, Nat.reduceEqDiff, Nat.reduceBEq, Nat.reduceAdd, Nat.reduceLeDiff, Nat.reduceMul, Nat.reduceLT, Int.reduceEq, Int.reduceLT, Int.reduceLE]
    have key := c_linesAll (cl := cl) (P := p) (clp := cl') h1 hp ((forestP p).size + 1) (forestP p) 0 0 (-1) rs0 (H.set b4 ⟨4, 34, [[.vsl [] true, I 0, I 0, .vsl [] true]]⟩) H1 bm (by omega) hat h3 (fsOk_nil t) (by show (-1 : Int) < 0; omega) (by show 0 + _ ≤ _; omega) (by show 0 + _ ≤ _; omega) hM
    rw [hlen, show ((0 : Nat) : Int) = 0 from rfl] at key
    refine key.mono ?_
    rintro _ H2 ⟨rfl, hM2⟩
    have er : runF t (forestP p) 0 none (-1) rs0 = runP t p := rfl
    rw [er] at hM2 ⊢
    generalize runP t p = r at hM2 hgo hgl ⊢
    simp +contextual -dsimp -implicitDefEqProofs (maxSteps := 5000000) only [go_sem, reduceIte, reduceCtorEq, Nat.reduceEqDiff, Nat.reduceBEq, Nat.reduceAdd, Nat.reduceLeDiff, Nat.reduceMul, Nat.reduceLT, Int.reduceEq, Int.reduceLT, Int.reduceLE, rEn]
    refine (c_mresult _ H2 bm _ _ r.2.log r.2.fs r.2.first r.1.ed r.1.val hM2 hgo.ok.ho (by have : (rs0 : RS).fs.length = 0 := rfl; omega) hgo.val).mono ?_
    rintro x H3 hr
    have hr' : OwnRes (H.set b4 ⟨4, 34, [[.vsl [] true, I 0, I 0, .vsl [] true]]⟩) H3 x (resOf r) := by
      obtain ⟨xl, xh, G1, e1, e2, e3⟩ := hr
      refine ⟨xl, xh, G1, ?_, ?_, ?_⟩
      · rw [e1]; unfold resOf; split
        · rename_i q; rw [q]
        · rfl
      · unfold resOf; split <;> exact e2
      · unfold resOf; split
        · rename_i q; rw [if_pos q] at e3; exact e3
        · rename_i q; rw [if_neg q] at e3; exact e3
    obtain ⟨H4, rfl, hown, hn4⟩ := own_out hr' hb4
    obtain ⟨xl, xh, rfl, o1, o2⟩ := own_row hown
    simp +contextual -dsimp -implicitDefEqProofs (maxSteps := 5000000) only [go_sem, reduceIte, reduceCtorEq, Nat.reduceEqDiff, Nat.reduceBEq, Nat.reduceAdd, Nat.reduceLeDiff, Nat.reduceMul, Nat.reduceLT, Int.reduceEq, Int.reduceLT, Int.reduceLE, o1, o2]
    refine retR_less (l := [.agg [xl, I (resOf r).ed, I (resOf r).val, xh]]) (H' := H4) ?_ (le_set hn4) hown
    simp only [resA, go_sem, reduceIte, reduceCtorEq, Nat.reduceEqDiff, Nat.reduceBEq, Nat.reduceAdd, Nat.reduceLeDiff, Nat.reduceMul, Nat.reduceLT, Int.reduceEq, Int.reduceLT, Int.reduceLE]
end
section
open Go Go.Sim
set_option maxRecDepth 100000

/-- The first 'else' of a try. -/
def elseF : Fo → Nat → Option (Nat × Fo)
  | .nil, _ => none
  | .node k _ _ kids rest, i => if followsK k = true then (if k = 9 then some (i, kids) else elseF rest (i + 1 + kids.size)) else none
/-- The last line that goes on with a try. -/
def lastB : Fo → Nat → Option (Nat × Int × Fo)
  | .nil, _ => none
  | .node k _ _ kids rest, i => if followsK k = true then (match lastB rest (i + 1 + kids.size) with | some x => some x | none => some (i, k, kids)) else none
/-- The first line of a try that catches a class. -/
def catchF (t : List Class) (c : Int) : Fo → Nat → Option (Nat × Fo)
  | .nil, _ => none
  | .node k a _ kids rest, i => if followsK k = true then (if k = 8 ∧ isF t c a = true then some (i, kids) else catchF t c rest (i + 1 + kids.size)) else none
def finR (t : List Class) (f : Fo) (i : Nat) (e : En) (h : Int) (s : RS) : En × RS :=
  match lastB f i with
  | some (q, k, ks) => if k = 10 then (fun l : En × RS => (if l.1.ed = 0 then e else l.1, l.2)) (runF t ks (q + 1) none (if e.ed = 2 then e.val else h) s) else (e, s)
  | none => (e, s)
def midR (t : List Class) (f : Fo) (i : Nat) (e : En) (h : Int) (s : RS) : En × RS :=
  if e.ed = 0 then (match elseF f i with | some (q, ks) => runF t ks (q + 1) none h s | none => (e, s))
  else if e.ed = 2 then (match catchF t (clsOf s e.val) f i with | some (q, ks) => runF t ks (q + 1) none e.val s | none => (e, s))
  else (e, s)
theorem headsK_mem {k : Int} : ∀ {f : Fo}, k ∈ headsK f → followsK k = true
  | .nil, h => by cases h
  | .node k' a b kids rest, h => by
    simp only [headsK] at h
    split at h
    · rename_i hk
      rcases List.mem_cons.1 h with rfl | h
      · exact hk
      · exact headsK_mem h
    · cases h
theorem tryG_ten {ks : List Int} (hf : ∀ k ∈ ks, followsK k = true) (h : tryG 10 ks = true) : ks = [] := by
  cases ks with
  | nil => rfl
  | cons k ks =>
    simp only [tryG, Bool.and_eq_true, Bool.or_eq_true, decide_eq_true_eq] at h
    omega
theorem chain_empty {t : List Class} {f : Fo} (h : headsK f = []) {i : Nat} {st e : En} {g : Int} {s : RS} : chainR t f i st e g s = (e, s) ∧ lastB f i = none ∧ elseF f i = none ∧ ∀ c, catchF t c f i = none := by
  cases f with
  | nil => exact ⟨rfl, rfl, rfl, fun _ => rfl⟩
  | node k a b kids rest =>
    simp only [headsK] at h
    split at h
    · cases h
    · rename_i hk
      simp [chainR, lastB, elseF, catchF, hk]
/-- Behind what has been run of a try. -/
theorem chain_fin {t : List Class} : ∀ (f : Fo) (i : Nat) (st e : En) (h : Int) (s : RS) (last : Int), tryG last (headsK f) = true → (st.ed ≠ 2 ∨ 8 < last) → (st.ed ≠ 0 ∨ 9 ≤ last) → chainR t f i st e h s = finR t f i e h s
  | .nil, i, st, e, h, s, last, _, _, _ => rfl
  | .node k a b kids rest, i, st, e, h, s, last, hg, c1, c2 => by
    by_cases hk : followsK k = true
    · have hk' := hk
      simp only [followsK, inR, Bool.and_eq_true, decide_eq_true_eq] at hk'
      simp only [headsK, hk, if_true, tryG, Bool.and_eq_true, Bool.or_eq_true, decide_eq_true_eq] at hg
      obtain ⟨g1, g2⟩ := hg
      by_cases k10 : k = 10
      · subst k10
        have he := tryG_ten (fun k hk => headsK_mem hk) g2
        simp only [chainR, hk, if_true, show ¬ (10 : Int) = 8 by decide, show ¬ (10 : Int) = 9 by decide, if_false]
        rw [(chain_empty (t := t) he).1]
        have hl : lastB (.node 10 a b kids rest) i = some (i, 10, kids) := by
          simp only [lastB, hk, if_true]; rw [(chain_empty (t := t) (e := e) (st := st) (g := h) (s := s) he).2.1]
        unfold finR
        rw [hl]
        simp
      · have hrest : chainR t (.node k a b kids rest) i st e h s = chainR t rest (i + 1 + kids.size) st e h s := by
          simp only [chainR, hk, if_true]
          by_cases k8 : k = 8
          · rw [if_pos k8, if_neg (by omega)]
          · have k9 : k = 9 := by omega
            rw [if_neg k8, if_pos k9, if_neg (by omega)]
        rw [hrest]
        have hfin : finR t (.node k a b kids rest) i e h s = finR t rest (i + 1 + kids.size) e h s := by
          unfold finR
          simp only [lastB, hk, if_true]
          cases hl : lastB rest (i + 1 + kids.size) with
          | none => simp [k10]
          | some x => rfl
        rw [hfin]
        exact chain_fin rest _ st e h s k g2 (by omega) (by omega)
    · have he : headsK (.node k a b kids rest) = [] := by simp [headsK, hk]
      have := chain_empty (t := t) (i := i) (st := st) (e := e) (g := h) (s := s) he
      rw [this.1]
      unfold finR
      rw [this.2.1]
theorem finR_skip {t : List Class} {k a b : Int} {kids rest : Fo} {i : Nat} {e : En} {h : Int} {s : RS} (hk : followsK k = true) (k10 : k ≠ 10) : finR t (.node k a b kids rest) i e h s = finR t rest (i + 1 + kids.size) e h s := by
  unfold finR
  simp only [lastB, hk, if_true]
  cases hl : lastB rest (i + 1 + kids.size) with
  | none => simp [k10]
  | some x => rfl
/-- What goes on with a try, as the reference takes it. -/
theorem chain_spec {t : List Class} : ∀ (f : Fo) (i : Nat) (e : En) (h : Int) (s : RS) (last : Int), tryG last (headsK f) = true → chainR t f i e e h s = finR t f i (midR t f i e h s).1 h (midR t f i e h s).2
  | .nil, i, e, h, s, last, _ => by
    unfold midR; simp [elseF, catchF, chainR, finR, lastB]
  | .node k a b kids rest, i, e, h, s, last, hg => by
    by_cases hk : followsK k = true
    · have hk' := hk
      simp only [followsK, inR, Bool.and_eq_true, decide_eq_true_eq] at hk'
      simp only [headsK, hk, if_true, tryG, Bool.and_eq_true, Bool.or_eq_true, decide_eq_true_eq] at hg
      obtain ⟨g1, g2⟩ := hg
      by_cases k8 : k = 8
      · subst k8
        by_cases hc : e.ed = 2 ∧ isF t (clsOf s e.val) a = true
        · have hm : midR t (.node 8 a b kids rest) i e h s = runF t kids (i + 1) none e.val s := by
            unfold midR
            rw [if_neg (by omega), if_pos hc.1]
            simp only [catchF, hk, if_true, hc.2, and_self]
          rw [hm, finR_skip hk (by decide)]
          simp only [chainR, hk, if_true, hc, and_self]
          exact chain_fin rest _ ⟨-1, 0⟩ _ h _ 8 g2 (.inl (by show (-1 : Int) ≠ 2; decide)) (.inl (by show (-1 : Int) ≠ 0; decide))
        · have hm : midR t (.node 8 a b kids rest) i e h s = midR t rest (i + 1 + kids.size) e h s := by
            unfold midR
            by_cases e0 : e.ed = 0
            · rw [if_pos e0, if_pos e0]
              simp only [elseF, hk, if_true, show ¬ (8 : Int) = 9 by decide, if_false]
            · rw [if_neg e0, if_neg e0]
              by_cases e2 : e.ed = 2
              · rw [if_pos e2, if_pos e2]
                have hn : ¬ (isF t (clsOf s e.val) a = true) := fun q => hc ⟨e2, q⟩
                simp only [catchF, hk, if_true, hn, Bool.false_eq_true, and_false, if_false]
              · rw [if_neg e2, if_neg e2]
          rw [hm, finR_skip hk (by decide)]
          have hr : chainR t (.node 8 a b kids rest) i e e h s = chainR t rest (i + 1 + kids.size) e e h s := by
            simp only [chainR, hk, if_true]; rw [if_neg hc]
          rw [hr]
          exact chain_spec rest _ e h s 8 g2
      · by_cases k9 : k = 9
        · subst k9
          by_cases e0 : e.ed = 0
          · have hm : midR t (.node 9 a b kids rest) i e h s = runF t kids (i + 1) none h s := by
              unfold midR
              rw [if_pos e0]
              simp only [elseF, hk, if_true]
            rw [hm, finR_skip hk (by decide)]
            simp only [chainR, hk, if_true, show ¬ (9 : Int) = 8 by decide, if_false, e0]
            exact chain_fin rest _ e _ h _ 9 g2 (.inl (by omega)) (.inr (by omega))
          · have hr : chainR t (.node 9 a b kids rest) i e e h s = chainR t rest (i + 1 + kids.size) e e h s := by
              simp only [chainR, hk, if_true, show ¬ (9 : Int) = 8 by decide, if_false]; rw [if_neg e0]
            have hm : midR t (.node 9 a b kids rest) i e h s = midR t rest (i + 1 + kids.size) e h s := by
              unfold midR
              rw [if_neg e0, if_neg e0]
              split
              · simp only [catchF, hk, if_true, show ¬ (9 : Int) = 8 by decide, false_and, if_false]
              · rfl
            rw [hm, hr, finR_skip hk (by decide)]
            exact chain_spec rest _ e h s 9 g2
        · have k10 : k = 10 := by omega
          subst k10
          have he := tryG_ten (fun k hk => headsK_mem hk) g2
          have ce := chain_empty (t := t) (i := i + 1 + kids.size) (st := e) (e := e) (g := h) (s := s) he
          have hm : midR t (.node 10 a b kids rest) i e h s = (e, s) := by
            unfold midR
            simp only [elseF, catchF, hk, if_true, show ¬ (10 : Int) = 9 by decide, show ¬ (10 : Int) = 8 by decide, false_and, if_false, ce.2.2.1, ce.2.2.2]
            split
            · rfl
            · split <;> rfl
          rw [hm]
          exact chain_fin (.node 10 a b kids rest) i e e h s 9 (by simp [headsK, hk, tryG, g2]) (.inr (by omega)) (.inr (by omega))
    · have he : headsK (.node k a b kids rest) = [] := by simp [headsK, hk]
      have ce := chain_empty (t := t) (i := i) (st := e) (e := e) (g := h) (s := s) he
      have hm : midR t (.node k a b kids rest) i e h s = (e, s) := by
        unfold midR
        simp only [ce.2.2.1, ce.2.2.2]
        split
        · rfl
        · split <;> rfl
      rw [hm, ce.1]
      unfold finR
      rw [ce.2.1]
theorem lastB_pos : ∀ (f : Fo) (i : Nat) (j : Nat), (j :: chainN f i).getLastD 0 = match lastB f i with | some (q, _, _) => q | none => j
  | .nil, i, j => rfl
  | .node k a b kids rest, i, j => by
    simp only [chainN, lastB]
    split
    · have := lastB_pos rest (i + 1 + kids.size) i
      rw [List.getLastD_cons] at this
      rw [List.getLastD_cons, List.getLastD_cons, this]
      cases lastB rest (i + 1 + kids.size) <;> rfl
    · rfl
/-- The lines of a block that is right. -/
theorem okF_node {k a b : Int} {kids rest : Fo} {lp m : Bool} (h : okF (.node k a b kids rest) lp m = true) :
    (followsK k = true ∧ m = true ∧ okF kids lp false = true ∧ okF rest lp true = true) ∨
    (followsK k = false ∧ ((k = 7 ∧ tryOkF (headsK rest) = true ∧ okF kids lp false = true ∧ okF rest lp true = true) ∨
      (k ≠ 7 ∧ okF rest lp false = true ∧ (k = 11 → okF kids lp false = true) ∧ (k = 12 → okF kids true false = true) ∧ (k = 5 ∨ k = 6 → lp = true)))) := by
  simp only [okF] at h
  by_cases hf : followsK k = true
  · rw [if_pos hf] at h
    simp only [Bool.and_eq_true] at h
    exact .inl ⟨hf, h.1, h.2.1, h.2.2⟩
  · right
    refine ⟨by simpa using hf, ?_⟩
    rw [if_neg hf] at h
    by_cases h56 : k = 5 ∨ k = 6
    · rw [if_pos h56, Bool.and_eq_true] at h
      exact .inr ⟨by omega, h.2, fun q => by omega, fun q => by omega, fun _ => h.1⟩
    · rw [if_neg h56] at h
      by_cases h7 : k = 7
      · rw [if_pos h7] at h
        simp only [Bool.and_eq_true] at h
        exact .inl ⟨h7, h.1, h.2.1, h.2.2⟩
      · rw [if_neg h7] at h
        by_cases h11 : k = 11
        · rw [if_pos h11, Bool.and_eq_true] at h
          exact .inr ⟨h7, h.2, fun _ => h.1, fun q => by omega, fun q => absurd q h56⟩
        · rw [if_neg h11] at h
          by_cases h12 : k = 12
          · rw [if_pos h12, Bool.and_eq_true] at h
            exact .inr ⟨h7, h.2, fun q => absurd q h11, fun _ => h.1, fun q => absurd q h56⟩
          · rw [if_neg h12] at h
            exact .inr ⟨h7, h, fun q => absurd q h11, fun q => absurd q h12, fun q => absurd q h56⟩
end
section
open Go Go.Sim
set_option maxRecDepth 100000

/-- A number of a fault, further on. -/
def shv (n : Nat) (v : Int) : Int := if 0 ≤ v then v + n else v
def shf (n : Nat) (x : Fault) : Fault := { x with cause := shv n x.cause, ctx := shv n x.ctx }
/-- How two runs are alike: logs as 'LR' says, faults behind 'F'; 'wk': but for what was handled. -/
structure SimP where
  LR : List Int → List Int → Prop
  F : List Fault
  wk : Bool
structure SR (P : SimP) (s s' : RS) : Prop where
  log : P.LR s.log s'.log
  fs : ∃ X, s'.fs = P.F ++ X ∧ (P.wk = true → X.map (·.cls) = s.fs.map (·.cls)) ∧ (P.wk = false → X = s.fs.map (shf P.F.length))
def HR (P : SimP) (h h' : Int) : Prop := (0 ≤ h ∧ h' = h + P.F.length) ∨ (h < 0 ∧ (P.wk = true ∨ h' < 0))
section
variable {P : SimP}
theorem SR.len {s s' : RS} (h : SR P s s') : s'.fs.length = P.F.length + s.fs.length := by
  obtain ⟨X, e, h1, h2⟩ := h.fs
  have : X.length = s.fs.length := by
    cases hw : P.wk
    · rw [h2 hw, List.length_map]
    · have := congrArg List.length (h1 hw)
      simpa using this
  rw [e, List.length_append, this]
theorem SR.cls {s s' : RS} (h : SR P s s') {v : Int} (hv : 0 ≤ v) : clsOf s' (v + P.F.length) = clsOf s v := by
  obtain ⟨X, e, h1, h2⟩ := h.fs
  have hc : X.map (·.cls) = s.fs.map (·.cls) := by
    cases hw : P.wk
    · rw [h2 hw, List.map_map]; rfl
    · exact h1 hw
  have hg : ∀ (l : List Fault) (k : Nat), (l.getD k default).cls = (l.map (·.cls)).getD k (default : Fault).cls := fun l k => by
    simp only [List.getD_eq_getElem?_getD, List.getElem?_map]
    cases l[k]? <;> rfl
  unfold clsOf
  have e2 : (v + (P.F.length : Int)).toNat = P.F.length + v.toNat := by omega
  rw [e, e2]
  have e3 : (P.F ++ X).getD (P.F.length + v.toNat) default = X.getD v.toNat default := by
    simp only [List.getD_eq_getElem?_getD]
    rw [List.getElem?_append_right (by omega), Nat.add_sub_cancel_left]
  rw [e3, hg, hg, hc]
theorem SR.tell {s s' : RS} (h : SR P s s') {n n' : Int} (hl : P.LR s.log s'.log → P.LR (s.log ++ [n]) (s'.log ++ [n'])) : SR P (s.tell n) (s'.tell n') := ⟨hl h.log, h.fs⟩
theorem SR.jump {s s' : RS} (h : SR P s s') (k : Int) (i i' : Nat) : SR P (s.jump k i) (s'.jump k i') := by
  unfold RS.jump
  constructor
  · split <;> split <;> exact h.log
  · split <;> split <;> exact h.fs
theorem SR.raise {s s' : RS} (h : SR P s s') (c d : Int) {g g' : Int} (hg : HR P g g') : SR P (s.raise c d g) (s'.raise c d g') := by
  refine ⟨h.log, ?_⟩
  obtain ⟨X, e, h1, h2⟩ := h.fs
  refine ⟨X ++ [⟨c, d, -1, if 0 ≤ g' then g' else -1, false⟩], ?_, fun q => ?_, fun q => ?_⟩
  · show raiseF s'.fs c d g' = _
    unfold raiseF
    rw [e, List.append_assoc]
  · show _ = (raiseF s.fs c d g).map (·.cls)
    unfold raiseF
    rw [List.map_append, List.map_append, h1 q]; rfl
  · show _ = (raiseF s.fs c d g).map (shf P.F.length)
    unfold raiseF
    rw [List.map_append, ← h2 q]
    congr 1
    rcases hg with ⟨g0, rfl⟩ | ⟨g0, g1⟩
    · have h3 : 0 ≤ g + (P.F.length : Int) := by omega
      simp [shf, shv, g0, h3]
    · have g2 : g' < 0 := by
        rcases g1 with g1 | g1
        · rw [q] at g1; cases g1
        · exact g1
      have n1 : ¬ 0 ≤ g := by omega
      have n2 : ¬ 0 ≤ g' := by omega
      simp [shf, shv, n1, n2]
end
end
section
open Go Go.Sim
set_option maxRecDepth 100000

/-- Runs that are the same but for where the first jump is. -/
def REq (r r' : En × RS) : Prop := r'.1 = r.1 ∧ r'.2.log = r.2.log ∧ r'.2.fs = r.2.fs
theorem REq.refl (r : En × RS) : REq r r := ⟨rfl, rfl, rfl⟩
theorem REq.symm {r r' : En × RS} (h : REq r r') : REq r' r := ⟨h.1.symm, h.2.1.symm, h.2.2.symm⟩
theorem REq.trans {r r' r'' : En × RS} (h : REq r r') (g : REq r' r'') : REq r r'' := ⟨g.1.trans h.1, g.2.1.trans h.2.1, g.2.2.trans h.2.2⟩
theorem REq.res {r r' : En × RS} (h : REq r r') : resOf r' = resOf r := by
  unfold resOf
  rw [h.1, h.2.1, h.2.2]
/-- Logs and faults go on behind others. -/
abbrev behind (L : List Int) (F : List Fault) (wk : Bool) : SimP := ⟨fun l l' => l' = L ++ l, F, wk⟩
end
section
open Go Go.Sim
set_option maxRecDepth 100000
def linkF (n : Nat) (f to : Int) : Bool := decide (to = -1) || (inR to 0 (n - 1) && !decide (to = f))
theorem chainF_in {h : List Fault} (hc : ∀ k, k < h.length → (h.getD k default).ctx < h.length) {f : Int} (hf : f < h.length) {a : Int} (ha : a ∈ chainF h f) : 0 ≤ a ∧ a < h.length := by
  have := walkG_mem (nx := ctxOf h) (p := fun a => a < h.length) (fun a a0 a1 => hc a.toNat (by omega)) (h.length + 1) [] f hf a ha
  simpa using this
def lastI (l : List Int) : Int := l.getD (l.length - 1) default
theorem lastI_in {h : List Fault} (hc : ∀ k, k < h.length → (h.getD k default).ctx < h.length) {f : Int} (h0 : 0 ≤ f) (hf : f < h.length) : 0 ≤ lastI (chainF h f) ∧ lastI (chainF h f) < h.length := by
  have hne := List.length_pos_iff.2 (chainF_ne (h := h) h0)
  apply chainF_in hc hf
  have : (chainF h f).length - 1 < (chainF h f).length := by omega
  unfold lastI
  rw [List.getD_eq_getElem?_getD, List.getElem?_eq_getElem this]
  exact List.getElem_mem this
def faultOk (t : List Class) (h : List Fault) (k : Nat) : Bool := hasF t (h.getD k default).cls && inR (h.getD k default).code 0 99 && linkF h.length k (h.getD k default).cause && linkF h.length k (h.getD k default).ctx
def lastOk (h : List Fault) (k : Nat) : Bool := decide (ctxOf h (lastI (chainF h k)) = -1)
def validH (t : List Class) (h : List Fault) : Bool := (List.range h.length).all (faultOk t h) && ((List.range h.length).all (lastOk h) && (validT t && decide (h.length ≤ 24)))
end
section
open Go Go.Sim
set_option maxRecDepth 100000

theorem getD_app {α : Type} {a b : List α} {d : α} {i : Nat} (h : i < a.length) : (a ++ b).getD i d = a.getD i d := by
  rw [List.getD_eq_getElem?_getD, List.getD_eq_getElem?_getD, List.getElem?_append_left h]
theorem walkG_step {nx : Int → Int} : ∀ (n : Nat) (out : List Int) (f : Int), (∀ i, i + 1 < out.length → out.getD (i + 1) default = nx (out.getD i default)) → (∀ i, i + 1 = out.length → nx (out.getD i default) = f) →
    ∀ i, i + 1 < (walkG nx n out f).length → (walkG nx n out f).getD (i + 1) default = nx ((walkG nx n out f).getD i default)
  | 0, out, f, h, _, i, hi => h i hi
  | n + 1, out, f, h, h2, i, hi => by
    simp only [walkG] at hi ⊢
    by_cases c : 0 ≤ f ∧ (out.any fun x => decide (f = x)) = false
    · rw [if_pos c] at hi ⊢
      refine walkG_step n (out ++ [f]) (nx f) ?_ ?_ i hi
      · intro j hj
        rw [List.length_append, List.length_singleton] at hj
        rcases Nat.lt_or_ge (j + 1) out.length with q | q
        · rw [getD_app q, getD_app (show j < out.length by omega)]
          exact h j q
        · have e : j + 1 = out.length := by omega
          rw [getD_app (show j < out.length by omega), h2 j e, e]
          simp [List.getD_eq_getElem?_getD]
      · intro j hj
        rw [List.length_append, List.length_singleton] at hj
        have e : j = out.length := by omega
        subst e
        simp [List.getD_eq_getElem?_getD]
    · rw [if_neg c] at hi ⊢
      exact h i hi
theorem walkG_pre {nx : Int → Int} : ∀ (n : Nat) (out : List Int) (f : Int) (i : Nat), i < out.length → (walkG nx n out f).getD i default = out.getD i default
  | 0, out, f, i, hi => rfl
  | n + 1, out, f, i, hi => by
    simp only [walkG]
    split
    · rw [walkG_pre n (out ++ [f]) (nx f) i (by simp; omega), getD_app hi]
    · rfl
theorem chain_step {h : List Fault} {g : Int} {i : Nat} (hi : i + 1 < (chainF h g).length) : (chainF h g).getD (i + 1) default = ctxOf h ((chainF h g).getD i default) :=
  walkG_step (h.length + 1) [] g (fun i q => by simp at q) (fun i q => by simp at q) i hi
theorem chain_head {h : List Fault} {g : Int} (h0 : 0 ≤ g) : (chainF h g).getD 0 default = g := by
  unfold chainF walkF
  simp only [walkG]
  rw [if_pos ⟨h0, rfl⟩, walkG_pre _ _ _ 0 (by simp)]
  rfl
/-- Contexts of faults that come to an end. -/
structure Calm (h : List Fault) : Prop where
  ctx : ∀ k, k < h.length → -1 ≤ (h.getD k default).ctx ∧ (h.getD k default).ctx < h.length
  last : ∀ k, k < h.length → lastOk h k = true
theorem Calm.at {h : List Fault} (hc : Calm h) {g : Int} (h0 : 0 ≤ g) (hg : g < h.length) {i : Nat} (hi : i < (chainF h g).length) : (i + 1 < (chainF h g).length ∧ 0 ≤ ctxOf h ((chainF h g).getD i default)) ∨ (i + 1 = (chainF h g).length ∧ ctxOf h ((chainF h g).getD i default) = -1) := by
  rcases Nat.lt_or_ge (i + 1) (chainF h g).length with q | q
  · left
    refine ⟨q, ?_⟩
    rw [← chain_step q, List.getD_eq_getElem?_getD, List.getElem?_eq_getElem q]
    exact (chainF_in (fun k hk => (hc.ctx k hk).2) hg (List.getElem_mem q)).1
  · right
    have e : i + 1 = (chainF h g).length := by omega
    refine ⟨e, ?_⟩
    have := hc.last g.toNat (by omega)
    rw [lastOk, decide_eq_true_eq, lastI, Int.toNat_of_nonneg h0, ← e] at this
    simpa using this
end
section
open Go Go.Sim
set_option maxRecDepth 100000

/-- In so many steps there is nothing more. -/
def EndsAt (nx : Int → Int) : Nat → Int → Prop
  | 0, a => a < 0
  | m + 1, a => 0 ≤ a ∧ EndsAt nx m (nx a)
theorem EndsAt.uniq {nx : Int → Int} : ∀ {m m' : Nat} {a : Int}, EndsAt nx m a → EndsAt nx m' a → m = m'
  | 0, 0, _, _, _ => rfl
  | 0, m' + 1, a, h, h' => by have := h'.1; simp only [EndsAt] at h; omega
  | m + 1, 0, a, h, h' => by have := h.1; simp only [EndsAt] at h'; omega
  | m + 1, m' + 1, a, h, h' => by rw [EndsAt.uniq h.2 h'.2]
def Ends (nx : Int → Int) (a : Int) : Prop := ∃ m, EndsAt nx m a
theorem Ends.neg {nx : Int → Int} {a : Int} (h : a < 0) : Ends nx a := ⟨0, h⟩
theorem Ends.step {nx : Int → Int} {a : Int} (h : Ends nx (nx a)) : Ends nx a := by
  obtain ⟨m, hm⟩ := h
  by_cases c : a < 0
  · exact .neg c
  · exact ⟨m + 1, by omega, hm⟩
theorem Ends.ind {nx : Int → Int} {p : Int → Prop} (h0 : ∀ a, a < 0 → p a) (h1 : ∀ a, 0 ≤ a → p (nx a) → p a) {a : Int} (h : Ends nx a) : p a := by
  obtain ⟨m, hm⟩ := h
  induction m generalizing a with
  | zero => exact h0 a hm
  | succ m ih => exact h1 a hm.1 (ih hm.2)
theorem walkG_end {nx : Int → Int} {n : Nat} (hnx : ∀ a : Int, 0 ≤ a → a < n → nx a < n) : ∀ (m fuel : Nat) (out : List Int) (f : Int), EndsAt nx m f → f < n → (∀ a ∈ out, ∃ m', m < m' ∧ EndsAt nx m' a) → freeN n out < fuel → (out ≠ [] → nx (lastI out) = f) → walkG nx fuel out f ≠ [] → nx (lastI (walkG nx fuel out f)) < 0
  | m, 0, out, f, _, _, _, hfr, _, _ => by omega
  | 0, fuel + 1, out, f, he, hf, ho, hfr, hl, hne => by
    have hf0 : f < 0 := he
    simp only [walkG] at hne ⊢
    rw [if_neg (by omega)] at hne ⊢
    rw [hl hne]; exact hf0
  | m + 1, fuel + 1, out, f, he, hf, ho, hfr, hl, hne => by
    have hany : (out.any fun x => decide (f = x)) = false := by
      rw [List.any_eq_false]
      intro a ha
      obtain ⟨m', h1, h2⟩ := ho a ha
      have : ¬ f = a := by
        rintro rfl
        have := he.uniq h2
        omega
      simpa using this
    simp only [walkG] at hne ⊢
    rw [if_pos ⟨he.1, hany⟩] at hne ⊢
    have := freeN_lt he.1 hf hany
    refine walkG_end hnx m fuel (out ++ [f]) (nx f) he.2 (hnx f he.1 hf) ?_ (by omega) ?_ hne
    · intro a ha
      rcases List.mem_append.1 ha with q | q
      · obtain ⟨m', h1, h2⟩ := ho a q
        exact ⟨m', by omega, h2⟩
      · simp at q; subst q
        exact ⟨m + 1, by omega, he⟩
    · intro _
      congr 1
      simp [lastI, List.getD_eq_getElem?_getD]
theorem Calm.of_ends {h : List Fault} (hc : ∀ k, k < h.length → -1 ≤ (h.getD k default).ctx ∧ (h.getD k default).ctx < h.length) (he : ∀ k : Nat, k < h.length → Ends (ctxOf h) k) : Calm h := by
  refine ⟨hc, fun k hk => ?_⟩
  obtain ⟨m, hm⟩ := he k hk
  have hne := chainF_ne (h := h) (g := k) (by omega)
  have hnx : ∀ a : Int, 0 ≤ a → a < h.length → ctxOf h a < h.length := fun a a0 a1 => (hc a.toNat (by omega)).2
  have := walkG_end hnx m (h.length + 1) [] k hm (by omega) (fun a ha => by cases ha) (by have := freeN_nil h.length; omega) (fun q => absurd rfl q) hne
  have hin := lastI_in (fun k hk => (hc k hk).2) (f := k) (by omega) (by omega)
  have h1 := hc (lastI (chainF h k)).toNat (by omega)
  rw [lastOk, decide_eq_true_eq]
  unfold ctxOf at this ⊢
  unfold chainF walkF at h1 ⊢
  unfold ctxOf at h1 ⊢
  omega
theorem Calm.ends {h : List Fault} (hc : Calm h) {k : Int} (h0 : 0 ≤ k) (hk : k < h.length) : Ends (ctxOf h) k := by
  have hne := List.length_pos_iff.2 (chainF_ne (h := h) h0)
  have key : ∀ j, j < (chainF h k).length → Ends (ctxOf h) ((chainF h k).getD ((chainF h k).length - 1 - j) default) := by
    intro j
    induction j with
    | zero =>
      intro hj
      rcases hc.at h0 hk (i := (chainF h k).length - 1 - 0) (by omega) with ⟨q, _⟩ | ⟨_, q⟩
      · omega
      · exact .step (.neg (by omega))
    | succ j ih =>
      intro hj
      have e : (chainF h k).length - 1 - j = ((chainF h k).length - 1 - (j + 1)) + 1 := by omega
      have := ih (by omega)
      rw [e, chain_step (by omega)] at this
      exact .step this
  have := key ((chainF h k).length - 1) (by omega)
  rw [Nat.sub_self, chain_head h0] at this
  exact this
end
section
open Go Go.Sim
set_option maxRecDepth 100000
theorem Calm.nil : Calm [] := ⟨fun k hk => by simp at hk, fun k hk => by simp at hk⟩
theorem Calm.same {h h' : List Fault} (hc : Calm h) (hl : h'.length = h.length) (hx : ∀ k, k < h.length → (h'.getD k default).ctx = (h.getD k default).ctx) : Calm h' := by
  have e : ∀ a : Int, 0 ≤ a → a < h.length → ctxOf h' a = ctxOf h a := fun a a0 a1 => hx a.toNat (by omega)
  refine .of_ends (fun k hk => ?_) (fun k hk => ?_)
  · rw [hl] at hk ⊢; rw [hx k hk]; exact hc.ctx k hk
  · rw [hl] at hk
    have := hc.ends (k := k) (by omega) (by omega)
    refine Ends.ind (p := fun a => a < h.length → Ends (ctxOf h') a) (fun a q _ => .neg q) (fun a a0 q q1 => .step ?_) this (by omega)
    rw [e a a0 q1]
    exact q (hc.ctx a.toNat (by omega)).2
theorem Calm.add {h : List Fault} (hc : Calm h) {x : Fault} (hx : x.ctx = -1) : Calm (h ++ [x]) := by
  have e1 : ∀ a : Int, 0 ≤ a → a < h.length → ctxOf (h ++ [x]) a = ctxOf h a := fun a a0 a1 => by unfold ctxOf; rw [getD_app (by omega)]
  have e2 : ctxOf (h ++ [x]) h.length = -1 := by unfold ctxOf; simp [List.getD_eq_getElem?_getD, hx]
  refine .of_ends (fun k hk => ?_) (fun k hk => ?_)
  · rw [List.length_append, List.length_singleton] at hk ⊢
    show -1 ≤ ctxOf (h ++ [x]) (k : Int) ∧ ctxOf (h ++ [x]) (k : Int) < ((h.length + 1 : Nat) : Int)
    rcases Nat.lt_or_ge k h.length with q | q
    · rw [e1 k (by omega) (by omega)]
      have := hc.ctx k q
      unfold ctxOf
      simp only [Int.toNat_natCast]
      omega
    · have : k = h.length := by omega
      subst this
      rw [e2]; omega
  · rw [List.length_append, List.length_singleton] at hk
    rcases Nat.lt_or_ge k h.length with q | q
    · have := hc.ends (k := k) (by omega) (by omega)
      refine Ends.ind (p := fun a => a < h.length → Ends (ctxOf (h ++ [x])) a) (fun a q _ => .neg q) (fun a a0 q q1 => .step ?_) this (by omega)
      rw [e1 a a0 q1]
      exact q (hc.ctx a.toNat (by omega)).2
    · have : k = h.length := by omega
      subst this
      exact .step (by rw [e2]; exact .neg (by omega))
end
section
open Go Go.Sim
set_option maxRecDepth 100000

theorem Nums.app {n : Nat} {out : List Int} (h : Nums n out) {g : Int} (h0 : 0 ≤ g) (hg : g < n) (ha : (out.any fun x => decide (g = x)) = false) : Nums n (out ++ [g]) := by
  have := h.add hg
  unfold addF at this
  rwa [if_pos ⟨h0, ha⟩] at this
end
end
section
set_option maxRecDepth 100000
attribute [local go_sem ↓] aw_skip aw_ret aw_exit aw_region aw_draw aw_seq aw_block aw_loop aw_cond frz_nil frz_cons sq_normal sq_ret sq_exit exB_normal exB_ret exB_same exB_other retQ_ret retQ_normal ret0_ret ret0_normal ao_nil go1 g_move g_assign g_pick g_build g_load g_binOp g_unOp g_convert g_fieldAddr g_field g_indexAddr g_index g_extract g_lookup g_slice g_nilCheck g_len g_makeFunc h_call h_append h_alloc h_box h_buildSlice h_makeSlice h_store gV i_box i_buildSlice i_move i_assign i_build i_load i_binOp i_unOp i_convert i_fieldAddr i_field i_indexAddr i_index i_extract i_lookup i_makeMap i_mapUpdate i_slice i_nilCheck i_makeFunc i_len i_max i_min i_alloc i_makeSlice i_store i_append i_call i_pick boxI boxA buildSliceI buildSliceA makeSliceA makeMapA allocA storeA p_move p_assign p_pick p_build p_load p_binOp p_unOp p_convert p_fieldAddr p_field p_indexAddr p_index p_extract p_lookup p_makeMap p_mapUpdate p_slice p_nilCheck p_makeFunc p_len p_max p_min p_alloc p_box p_buildSlice p_makeSlice p_store p_append p_call x_nil x_go1 x_g0 x_g1 x_g2 x_g3 x_s0 x_s1 x_s2 x_s3 u_move u_assign u_pick u_build u_load u_binOp u_unOp u_convert u_fieldAddr u_field u_indexAddr u_index u_extract u_lookup u_slice u_nilCheck u_makeFunc u_len u_buildSlice
attribute [local go_sem] frzV_ptr frzV_sl frzK_some set_none set_other AHeap.set_self set_del set_set cnd_t cnd_f cnd_b retA_one retA_two retA_three retA_four retA_nil gIf_b mrgV_b mrgV_wh mrgV_U gIf_U gIf_wh mrgB_f mrgB_some mrgB_if wh_true wh_false keepA_some keepA_if gD_zero gD_succ gT_some bxA_t bxA_f callA_fn ev_tmp ev_const ev_global ev_func oc_bool oc_int oc_string oc_nil oc_nilptr oc_nilfunc cl_bool cl_int cl_string cl_nil updO_some updO_none upd_same upd_other init_at pickA_b pickA_wh selA_t selA_f selA_and selA_or selA_orn selA_orm selA_bb selA_ii beqt b_add b_sub b_mul b_and b_or b_xor b_eql b_neq b_lss b_leq b_gtr b_geq b_quo b_rem b_shr b_seql b_sneq b_sadd b_beql b_bneq b_aeql b_aneq u_not u_neg isConstOp eqA eqCellV List.getD_cons_zero List.getD_cons_succ List.map_cons List.map_nil List.nil_append List.cons_append List.append_nil if_true if_false Option.map_some Option.map_none ne_eq not_false_eq_true oneA ldv ld1v ld1s wr1s ldRow stRow row_lit row_agg row_vsl row_sl row_ptr row_fn one_I one_B one_S one_vsl one_sl one_ptr one_fn extractA okA rI rS rU rClass rFault rExit rStart rLine Int.toNat_natCast List.length_cons List.length_nil List.length_map List.all_cons List.all_nil Bool.and_true Nat.zero_add List.getElem?_cons_zero List.getElem?_cons_succ List.take_succ_cons List.take_zero List.drop_succ_cons List.drop_zero and_self true_and and_true implies_true decide_eq_true_eq decide_eq_false_iff_not Bool.or_eq_true Bool.or_eq_false_iff Bool.and_eq_true Bool.not_eq_true' Bool.not_eq_false' beq_false decide_true decide_false Int.ofNat_lt Int.ofNat_le Int.natCast_nonneg Bool.or_true Bool.or_false Bool.true_or Bool.false_or beq_self_eq_true List.drop_one Bool.not_true Bool.not_false Bool.not_not Bool.false_eq_true Bool.true_eq_false false_implies true_implies Bool.true_and Bool.false_and Bool.and_false not_true_eq_false Int.natCast_eq_zero Int.natCast_pos Int.natCast_zero false_and and_false or_false false_or or_true true_or Bool.or_self none_le_iff List.replicate_zero Int.toNat_zero List.replicate_succ buildRows List.set_cons_zero List.set_cons_succ List.set_nil List.mapM_nil maxLen_eq Nat.zero_le Nat.mul_one Nat.one_mul bldA fillA spliceA List.take_nil List.drop_nil List.getElem?_nil ld1o wr1o bldSliceA le_same ti1 ti2 tk2 ti3 te3 ts3 tk3 tz3 ti4 tb4 ti5 tk5 tz5 ti9 te9 ts9 tk9 tz9 ti12 tk12 ti13 tp13 tf13_0 tf13_1 ti20 ti21 tk21 tz21 ti22 te22 tz22 ti23 te23 ti24 tp24 tf24_0 ti25 tp25 tf25_0 ti26 te26 ti28 ti29 te29 ti30 te30 ti31 tp31 tf31_0 ti32 tp32 tf32_0 ti33 tp33 tf33_0 tf33_1 tf33_2 tf33_3 ti34 tp34 tf34_0 tf34_1 tf34_2 tf34_3 ti35 ti36 ti37 ti38 ti40 ti42 ti43 ti44 tq44 tp44 tf44_0 tf44_1 tf44_2 ti45 tq45 tp45 tf45_0 tf45_1 tf45_2 ti47 ti48 ti49 tq49 tp49 tf49_0 tf49_1 tf49_2 tf49_3 ti50 tq50 tp50 tf50_0 tf50_1 tf50_2 tf50_3 ti51 ti52 ti54 ti55 ti56 ti57 te57 ti59 ti60 ti61 ti62 ti63 ti64 ti65 ti66 ti67 ti68 tq68 tp68 tf68_0 tf68_1 ti69 tq69 tp69 tf69_0 tf69_1 ti70 ti71 ti72 ti73 ti74 ti75 ti77 ti78 ti79 ti80 ti81 ti82 ti83 ti84 ti85 tq85 tp85 tf85_0 tf85_1 tf85_2 tf85_3 tf85_4 ti86 tq86 tp86 tf86_0 tf86_1 tf86_2 tf86_3 tf86_4 ti87 ti88 ti89 ti90 ti91 ti93 ti94 ti95 ti96 ti97 tq97 tp97 tf97_0 tf97_1 tf97_2 ti98 tq98 tp98 tf98_0 tf98_1 tf98_2 ti99 ti100 ti101 ti102 ti103 ti104 ti105 ti106 ti107 tp107 tf107_0 tf107_1 ti108 tp108 tf108_0 tf108_1 ti109 tp109 tf109_0 tf109_1 tf109_2 tf109_3 tf109_4 ti110 tp110 tf110_0 tf110_1 tf110_2 tf110_3 tf110_4 ti111 ti113 ti114 ti115 ti116 ti117 ti118 ti119 ti120 tp120 tf120_0 tf120_1 tf120_2 tf120_3 ti121 tp121 tf121_0 tf121_1 tf121_2 tf121_3 ti122 tq122 tp122 tf122_0 tf122_1 ti123 tq123 tp123 tf123_0 tf123_1 ti124 ti125 ti126 tq126 tp126 tf126_0 tf126_1 ti127 tq127 tp127 tf127_0 tf127_1 ti128 ti129 ti130 ti131 ti132 ti133 te133 ti134 ti135 ti136 ti137 ti138 ti139 ti140 ti141 ti142 ti143 ti144 tp144 tf144_0 tf144_1 tf144_2 ti145 tp145 tf145_0 tf145_1 tf145_2 ti146 ti147 ti148 ti149 ti150 te150 ti151 ti152 ti153 ti154 ti155 ti156 ti157 ti158 ti159 ti160 ti161 ti162 ti163 ti164 ti165 ti166 ti167 ti168 ti169 ti170 ti171 ti172 ti173 ti174 ti175 tk175 tz175 ti176 ti177 ti178 ti179 ti180 tk180 ti182 ti183 ti184 ti186 ti187 ti188 tk188 tz188 ti189 ti190 tk190 tz190 ti191 tk191 ti192 ti193 ti194 ti195 ti196 ti197 ti199 ti200 ti206 ti210 ti215 fp13_0 fv13_0 fp13_1 fv13_1 fp24_0 fv24_0 fp25_0 fv25_0 fp31_0 fv31_0 fp32_0 fv32_0 fp33_0 fv33_0 fp33_1 fv33_1 fp33_2 fv33_2 fp33_3 fv33_3 fp34_0 fv34_0 fp34_1 fv34_1 fp34_2 fv34_2 fp34_3 fv34_3 fp44_0 fv44_0 fp44_1 fv44_1 fp44_2 fv44_2 fp45_0 fv45_0 fp45_1 fv45_1 fp45_2 fv45_2 fp49_0 fv49_0 fp49_1 fv49_1 fp49_2 fv49_2 fp49_3 fv49_3 fp50_0 fv50_0 fp50_1 fv50_1 fp50_2 fv50_2 fp50_3 fv50_3 fp68_0 fv68_0 fp68_1 fv68_1 fp69_0 fv69_0 fp69_1 fv69_1 fp85_0 fv85_0 fp85_1 fv85_1 fp85_2 fv85_2 fp85_3 fv85_3 fp85_4 fv85_4 fp86_0 fv86_0 fp86_1 fv86_1 fp86_2 fv86_2 fp86_3 fv86_3 fp86_4 fv86_4 fp97_0 fv97_0 fp97_1 fv97_1 fp97_2 fv97_2 fp98_0 fv98_0 fp98_1 fv98_1 fp98_2 fv98_2 fp107_0 fv107_0 fp107_1 fv107_1 fp108_0 fv108_0 fp108_1 fv108_1 fp109_0 fv109_0 fp109_1 fv109_1 fp109_2 fv109_2 fp109_3 fv109_3 fp109_4 fv109_4 fp110_0 fv110_0 fp110_1 fv110_1 fp110_2 fv110_2 fp110_3 fv110_3 fp110_4 fv110_4 fp120_0 fv120_0 fp120_1 fv120_1 fp120_2 fv120_2 fp120_3 fv120_3 fp121_0 fv121_0 fp121_1 fv121_1 fp121_2 fv121_2 fp121_3 fv121_3 fp122_0 fv122_0 fp122_1 fv122_1 fp123_0 fv123_0 fp123_1 fv123_1 fp126_0 fv126_0 fp126_1 fv126_1 fp127_0 fv127_0 fp127_1 fv127_1 fp144_0 fv144_0 fp144_1 fv144_1 fp144_2 fv144_2 fp145_0 fv145_0 fp145_1 fv145_1 fp145_2 fv145_2 lv22 ll22 is22 ix22 sh22 so22 sb22 sm22 sp22 lv23 ll23 is23 ix23 sh23 so23 sb23 sm23 sp23 lv26 ll26 is26 ix26 sh26 so26 sb26 sm26 sp26 lv29 ll29 is29 ix29 sh29 so29 sb29 sm29 sp29 lv30 ll30 is30 ix30 sh30 so30 sb30 sm30 sp30 lv57 ll57 is57 ix57 sh57 so57 sb57 sm57 sp57 lv133 ll133 is133 sp133 lv150 ll150 is150 ix150 sh150 so150 sb150 sm150 sp150 xs9 ls9 sx9 sy9 sz9
section
open Go Go.Sim
set_option maxRecDepth 100000
theorem Nums.nil (n : Nat) : Nums n [] where
  mem a ha := absurd ha (List.not_mem_nil)
  free := by have := freeN_nil n; simpa using this
end
section
open Go Go.Sim
set_option maxRecDepth 100000
/-- What a fault reaches. -/
inductive Rch (h : List Fault) (f : Int) : Int → Prop where
  | refl : Rch h f f
  | cause {a : Int} : Rch h f a → 0 ≤ causeOf h a → Rch h f (causeOf h a)
  | ctx {a : Int} : Rch h f a → 0 ≤ ctxOf h a → Rch h f (ctxOf h a)
end
section
open Go Go.Sim
set_option maxRecDepth 100000

/-- Where a number stands in a list; -1 if it does not. -/
def posF (S : List Int) (a : Int) : Int := idxF (fun x => decide (a = x)) S
theorem posF_mem {S : List Int} {a : Int} (h : a ∈ S) : 0 ≤ posF S a ∧ posF S a < S.length ∧ S.getD (posF S a).toNat default = a := by
  unfold posF
  induction S with
  | nil => cases h
  | cons b S ih =>
    simp only [idxF]
    by_cases e : a = b
    · rw [if_pos (by simpa using e)]
      refine ⟨by omega, by simp only [List.length_cons]; omega, ?_⟩
      show (b :: S).getD 0 default = a
      rw [List.getD_cons_zero, e]
    · have hm : a ∈ S := by
        rcases List.mem_cons.1 h with q | q
        · exact absurd q e
        · exact q
      obtain ⟨i1, i2, i3⟩ := ih hm
      rw [if_neg (by simpa using e), if_neg (by omega)]
      refine ⟨by omega, by simp only [List.length_cons]; omega, ?_⟩
      have : (idxF (fun x => decide (a = x)) S + 1).toNat = (idxF (fun x => decide (a = x)) S).toNat + 1 := by omega
      rw [this, List.getD_cons_succ, i3]
theorem posF_none {S : List Int} {a : Int} (h : a ∉ S) : posF S a = -1 := by
  unfold posF
  rw [idxF_neg, List.any_eq_false]
  intro x hx
  have : ¬ a = x := by rintro rfl; exact h hx
  simpa using this
theorem posF_inj {S : List Int} {a b : Int} (ha : a ∈ S) (hb : b ∈ S) (h : posF S a = posF S b) : a = b := by
  have h1 := (posF_mem ha).2.2
  have h2 := (posF_mem hb).2.2
  rw [h] at h1
  rw [← h1, h2]
theorem isoL_len (h : List Fault) (S : List Int) : (isoL h S).length = S.length := by simp [isoL]
theorem isoL_at {h : List Fault} {S : List Int} {k : Nat} (hk : k < S.length) : (isoL h S).getD k default = isoAt h S (S.getD k default) := by
  simp [isoL, List.getD_eq_getElem?_getD, hk]
theorem iso_ctx {h : List Fault} {S : List Int} {a : Int} (ha : a ∈ S) : ctxOf (isoL h S) (posF S a) = posF S (ctxOf h a) := by
  obtain ⟨h1, h2, h3⟩ := posF_mem ha
  unfold ctxOf
  rw [isoL_at (by omega), h3]
  rfl
theorem walk_iso {S : List Int} {n : Nat} (hS : ∀ a ∈ S, 0 ≤ a ∧ a < n) {nx nx' : Int → Int} (hnx : ∀ a ∈ S, nx a ∈ S ∨ nx a < 0) (hiso : ∀ a ∈ S, nx' (posF S a) = posF S (nx a)) :
    ∀ (fuel fuel' : Nat) (out : List Int) (f : Int), (f ∈ S ∨ f < 0) → (∀ a ∈ out, a ∈ S) → freeN n out < fuel → freeN S.length (out.map (posF S)) < fuel' → walkG nx' fuel' (out.map (posF S)) (posF S f) = (walkG nx fuel out f).map (posF S)
  | 0, fuel', out, f, _, _, h1, _ => by omega
  | fuel + 1, 0, out, f, _, _, _, h2 => by omega
  | fuel + 1, fuel' + 1, out, f, hf, ho, h1, h2 => by
    simp only [walkG]
    rcases hf with hf | hf
    · have hp := posF_mem hf
      have hany : ((out.map (posF S)).any fun x => decide (posF S f = x)) = (out.any fun x => decide (f = x)) := by
        rw [List.any_map, Bool.eq_iff_iff, List.any_eq_true, List.any_eq_true]
        constructor
        · rintro ⟨a, ha, q⟩
          exact ⟨a, ha, by simp only [Function.comp, decide_eq_true_eq] at q; simpa using posF_inj hf (ho a ha) q⟩
        · rintro ⟨a, ha, q⟩
          exact ⟨a, ha, by simp only [decide_eq_true_eq] at q; subst q; simp⟩
      rw [hany]
      cases hb : out.any fun x => decide (f = x)
      · rw [if_pos ⟨hp.1, rfl⟩, if_pos ⟨(hS f hf).1, rfl⟩, hiso f hf]
        have l1 := freeN_lt (hS f hf).1 (hS f hf).2 hb
        have l2 := freeN_lt (out := out.map (posF S)) hp.1 hp.2.1 (by rw [hany, hb])
        have e : out.map (posF S) ++ [posF S f] = (out ++ [f]).map (posF S) := by simp
        rw [e] at l2 ⊢
        refine walk_iso hS hnx hiso fuel fuel' (out ++ [f]) (nx f) (hnx f hf) (fun a ha => ?_) (by omega) (by omega)
        rcases List.mem_append.1 ha with q | q
        · exact ho a q
        · simp at q; subst q; exact hf
      · rw [if_neg (fun q => by cases q.2), if_neg (fun q => by cases q.2)]
    · have hn : f ∉ S := fun q => by have := hS f q; omega
      rw [posF_none hn, if_neg (by omega), if_neg (by omega)]
/-- What a set of faults reaches is in it. -/
structure Closed (h : List Fault) (S : List Int) : Prop where
  mem : ∀ a ∈ S, 0 ≤ a ∧ a < h.length
  cause : ∀ a ∈ S, causeOf h a ∈ S ∨ causeOf h a < 0
  ctx : ∀ a ∈ S, ctxOf h a ∈ S ∨ ctxOf h a < 0
theorem Closed.pos {h : List Fault} {S : List Int} (hc : Closed h S) {b : Int} (hb : b ∈ S ∨ b < 0) : (0 ≤ posF S b ↔ 0 ≤ b) ∧ (b < 0 → posF S b = -1) := by
  rcases hb with q | q
  · have h1 := (posF_mem q).1
    have h2 := (hc.mem b q).1
    exact ⟨⟨fun _ => h2, fun _ => h1⟩, fun w => by omega⟩
  · have hn : b ∉ S := fun w => by have := (hc.mem b w).1; omega
    rw [posF_none hn]
    exact ⟨⟨fun w => by omega, fun w => by omega⟩, fun _ => rfl⟩
def natsF (n : Nat) : List Int := (List.range n).map (fun (k : Nat) => (k : Int))
theorem Closed.last {h : List Fault} {S : List Int} (hc : Closed h S) (hcm : Calm h) {a : Int} (ha : a ∈ S) : ctxOf (isoL h S) (lastI (chainF (isoL h S) (posF S a))) = -1 := by
  have hw : chainF (isoL h S) (posF S a) = (chainF h a).map (posF S) := by
    unfold chainF
    rw [isoL_len]
    exact walk_iso (S := S) (n := h.length) hc.mem (nx := ctxOf h) (nx' := ctxOf (isoL h S)) hc.ctx (fun a ha => iso_ctx ha) (h.length + 1) (S.length + 1) [] a (.inl ha) (fun a ha => by cases ha) (by have := freeN_nil h.length; omega) (by have := freeN_nil S.length; simp only [List.map_nil]; omega)
  have h0 := hc.mem a ha
  have hne := List.length_pos_iff.2 (chainF_ne (h := h) h0.1)
  have hl : (chainF h a).length - 1 < (chainF h a).length := by omega
  have hmem : ∀ b ∈ chainF h a, b ∈ S := by
    intro b hb
    have key := walkG_mem (nx := ctxOf h) (p := fun a => a ∈ S ∨ a < 0) (fun a a0 ha => hc.ctx a (ha.resolve_right (by omega))) (h.length + 1) [] a (.inl ha) b hb
    rcases key with q | ⟨q0, q⟩
    · cases q
    · exact q.resolve_right (by omega)
  have hlm : lastI (chainF h a) ∈ S := hmem _ (by unfold lastI; rw [List.getD_eq_getElem?_getD, List.getElem?_eq_getElem hl]; exact List.getElem_mem hl)
  have e : lastI ((chainF h a).map (posF S)) = posF S (lastI (chainF h a)) := by
    unfold lastI
    rw [List.length_map, List.getD_eq_getElem?_getD, List.getD_eq_getElem?_getD, List.getElem?_map, List.getElem?_eq_getElem hl]; rfl
  have hlast := hcm.last a.toNat (by omega)
  rw [lastOk, decide_eq_true_eq, Int.toNat_of_nonneg h0.1] at hlast
  rw [hw, e, iso_ctx hlm, hlast]
  exact (hc.pos (.inr (by omega))).2 (by omega)
end
section
open Go Go.Sim
set_option maxRecDepth 100000
/-- What a program ends with. -/
structure RunOut (t : List Class) (r : En × RS) (R : Res) : Prop where
  valid : validH t R.heap = true
  low : 0 ≤ R.val
  high : R.val < R.heap.length
  reach : sortI (bfsF R.heap R.val) = natsF R.heap.length
  cls : (R.heap.getD R.val.toNat default).cls = clsOf r.2 r.1.val
  code : (R.heap.getD R.val.toNat default).code = (r.2.fs.getD r.1.val.toNat default).code
end
end
section
set_option maxRecDepth 100000
attribute [local go_sem ↓] aw_skip aw_ret aw_exit aw_region aw_draw aw_seq aw_block aw_loop aw_cond frz_nil frz_cons sq_normal sq_ret sq_exit exB_normal exB_ret exB_same exB_other retQ_ret retQ_normal ret0_ret ret0_normal ao_nil go1 g_move g_assign g_pick g_build g_load g_binOp g_unOp g_convert g_fieldAddr g_field g_indexAddr g_index g_extract g_lookup g_slice g_nilCheck g_len g_makeFunc h_call h_append h_alloc h_box h_buildSlice h_makeSlice h_store gV i_box i_buildSlice i_move i_assign i_build i_load i_binOp i_unOp i_convert i_fieldAddr i_field i_indexAddr i_index i_extract i_lookup i_makeMap i_mapUpdate i_slice i_nilCheck i_makeFunc i_len i_max i_min i_alloc i_makeSlice i_store i_append i_call i_pick boxI boxA buildSliceI buildSliceA makeSliceA makeMapA allocA storeA p_move p_assign p_pick p_build p_load p_binOp p_unOp p_convert p_fieldAddr p_field p_indexAddr p_index p_extract p_lookup p_makeMap p_mapUpdate p_slice p_nilCheck p_makeFunc p_len p_max p_min p_alloc p_box p_buildSlice p_makeSlice p_store p_append p_call x_nil x_go1 x_g0 x_g1 x_g2 x_g3 x_s0 x_s1 x_s2 x_s3 u_move u_assign u_pick u_build u_load u_binOp u_unOp u_convert u_fieldAddr u_field u_indexAddr u_index u_extract u_lookup u_slice u_nilCheck u_makeFunc u_len u_buildSlice x_s4 x_g4 rq_normal rq_ret rq_exit aw_range
attribute [local go_sem] frzV_sl frzK_some set_none set_other AHeap.set_self set_del set_set cnd_t cnd_f cnd_b retA_one retA_two retA_three retA_four retA_nil gIf_b mrgV_b mrgV_wh mrgV_U gIf_U gIf_wh mrgB_f mrgB_some mrgB_if wh_true wh_false keepA_some keepA_if gD_zero gD_succ gT_some bxA_t bxA_f callA_fn ev_tmp ev_const ev_global ev_func oc_bool oc_int oc_string oc_nil oc_nilptr oc_nilfunc cl_bool cl_int cl_string cl_nil updO_some updO_none upd_same upd_other init_at pickA_b pickA_wh selA_t selA_f selA_and selA_or selA_orn selA_orm selA_bb selA_ii beqt b_add b_sub b_mul b_and b_or b_xor b_eql b_neq b_lss b_leq b_gtr b_geq b_quo b_rem b_shr b_seql b_sneq b_sadd b_beql b_bneq b_aeql b_aneq u_not u_neg isConstOp eqA eqCellV List.getD_cons_zero List.getD_cons_succ List.map_cons List.map_nil List.nil_append List.cons_append List.append_nil if_true if_false Option.map_some Option.map_none ne_eq not_false_eq_true oneA ldv ld1v ld1s wr1s ldRow stRow row_lit row_agg row_vsl row_sl row_ptr row_fn one_I one_B one_S one_vsl one_sl one_ptr one_fn extractA okA rI rS rU rClass rFault rExit rStart rLine Int.toNat_natCast List.length_cons List.length_nil List.length_map List.all_cons List.all_nil Bool.and_true Nat.zero_add List.getElem?_cons_zero List.getElem?_cons_succ List.take_succ_cons List.take_zero List.drop_succ_cons List.drop_zero and_self true_and and_true implies_true decide_eq_true_eq decide_eq_false_iff_not Bool.or_eq_true Bool.or_eq_false_iff Bool.and_eq_true Bool.not_eq_true' Bool.not_eq_false' beq_false decide_true decide_false Int.ofNat_lt Int.ofNat_le Int.natCast_nonneg Bool.or_true Bool.or_false Bool.true_or Bool.false_or beq_self_eq_true List.drop_one Bool.not_true Bool.not_false Bool.not_not Bool.false_eq_true Bool.true_eq_false false_implies true_implies Bool.true_and Bool.false_and Bool.and_false not_true_eq_false Int.natCast_eq_zero Int.natCast_pos Int.natCast_zero false_and and_false or_false false_or or_true true_or Bool.or_self none_le_iff List.replicate_zero Int.toNat_zero List.replicate_succ buildRows List.set_cons_zero List.set_cons_succ List.set_nil List.mapM_nil maxLen_eq Nat.zero_le Nat.mul_one Nat.one_mul bldA fillA spliceA List.take_nil List.drop_nil List.getElem?_nil ld1o wr1o bldSliceA le_same cv_i cvI_t quietT_fn qvd_some ld_o ldO_1 ldO_l wr_o wrO_1 set_2 set_3 set_4 putL_nil putL_cons List.zip_cons_cons List.zip_nil_left List.zip_nil_right List.toList_toArray frzV_set ti1 ti2 tk2 ti3 te3 ts3 tk3 tz3 ti4 tb4 ti5 tk5 tz5 ti9 te9 ts9 tk9 tz9 ti12 tk12 ti13 tp13 tf13_0 tf13_1 ti20 ti21 tk21 tz21 ti22 te22 tz22 ti23 te23 ti24 tp24 tf24_0 ti25 tp25 tf25_0 ti26 te26 ti28 ti29 te29 ti30 te30 ti31 tp31 tf31_0 ti32 tp32 tf32_0 ti33 tp33 tf33_0 tf33_1 tf33_2 tf33_3 ti34 tp34 tf34_0 tf34_1 tf34_2 tf34_3 ti35 ti36 ti37 ti38 ti40 ti42 ti43 ti44 tq44 tp44 tf44_0 tf44_1 tf44_2 ti45 tq45 tp45 tf45_0 tf45_1 tf45_2 ti47 ti48 ti49 tq49 tp49 tf49_0 tf49_1 tf49_2 tf49_3 ti50 tq50 tp50 tf50_0 tf50_1 tf50_2 tf50_3 ti51 ti52 ti54 ti55 ti56 ti57 te57 ti59 ti60 ti61 ti62 ti63 ti64 ti65 ti66 ti67 ti68 tq68 tp68 tf68_0 tf68_1 ti69 tq69 tp69 tf69_0 tf69_1 ti70 ti71 ti72 ti73 ti74 ti75 ti77 ti78 ti79 ti80 ti81 ti82 ti83 ti84 ti85 tq85 tp85 tf85_0 tf85_1 tf85_2 tf85_3 tf85_4 ti86 tq86 tp86 tf86_0 tf86_1 tf86_2 tf86_3 tf86_4 ti87 ti88 ti89 ti90 ti91 ti93 ti94 ti95 ti96 ti97 tq97 tp97 tf97_0 tf97_1 tf97_2 ti98 tq98 tp98 tf98_0 tf98_1 tf98_2 ti99 ti100 ti101 ti102 ti103 ti104 ti105 ti106 ti107 tp107 tf107_0 tf107_1 ti108 tp108 tf108_0 tf108_1 ti109 tp109 tf109_0 tf109_1 tf109_2 tf109_3 tf109_4 ti110 tp110 tf110_0 tf110_1 tf110_2 tf110_3 tf110_4 ti111 ti113 ti114 ti115 ti116 ti117 ti118 ti119 ti120 tp120 tf120_0 tf120_1 tf120_2 tf120_3 ti121 tp121 tf121_0 tf121_1 tf121_2 tf121_3 ti122 tq122 tp122 tf122_0 tf122_1 ti123 tq123 tp123 tf123_0 tf123_1 ti124 ti125 ti126 tq126 tp126 tf126_0 tf126_1 ti127 tq127 tp127 tf127_0 tf127_1 ti128 ti129 ti130 ti131 ti132 ti133 te133 ti134 ti135 ti136 ti137 ti138 ti139 ti140 ti141 ti142 ti143 ti144 tp144 tf144_0 tf144_1 tf144_2 ti145 tp145 tf145_0 tf145_1 tf145_2 ti146 ti147 ti148 ti149 ti150 te150 ti151 ti152 ti153 ti154 ti155 ti156 ti157 ti158 ti159 ti160 ti161 ti162 ti163 ti164 ti165 ti166 ti167 ti168 ti169 ti170 ti171 ti172 ti173 ti174 ti175 tk175 tz175 ti176 ti177 ti178 ti179 ti180 tk180 ti182 ti183 ti184 ti186 ti187 ti188 tk188 tz188 ti189 ti190 tk190 tz190 ti191 tk191 ti192 ti193 ti194 ti195 ti196 ti197 ti199 ti200 ti206 ti210 ti215 fp13_0 fv13_0 fp13_1 fv13_1 fp24_0 fv24_0 fp25_0 fv25_0 fp31_0 fv31_0 fp32_0 fv32_0 fp33_0 fv33_0 fp33_1 fv33_1 fp33_2 fv33_2 fp33_3 fv33_3 fp34_0 fv34_0 fp34_1 fv34_1 fp34_2 fv34_2 fp34_3 fv34_3 fp44_0 fv44_0 fp44_1 fv44_1 fp44_2 fv44_2 fp45_0 fv45_0 fp45_1 fv45_1 fp45_2 fv45_2 fp49_0 fv49_0 fp49_1 fv49_1 fp49_2 fv49_2 fp49_3 fv49_3 fp50_0 fv50_0 fp50_1 fv50_1 fp50_2 fv50_2 fp50_3 fv50_3 fp68_0 fv68_0 fp68_1 fv68_1 fp69_0 fv69_0 fp69_1 fv69_1 fp85_0 fv85_0 fp85_1 fv85_1 fp85_2 fv85_2 fp85_3 fv85_3 fp85_4 fv85_4 fp86_0 fv86_0 fp86_1 fv86_1 fp86_2 fv86_2 fp86_3 fv86_3 fp86_4 fv86_4 fp97_0 fv97_0 fp97_1 fv97_1 fp97_2 fv97_2 fp98_0 fv98_0 fp98_1 fv98_1 fp98_2 fv98_2 fp107_0 fv107_0 fp107_1 fv107_1 fp108_0 fv108_0 fp108_1 fv108_1 fp109_0 fv109_0 fp109_1 fv109_1 fp109_2 fv109_2 fp109_3 fv109_3 fp109_4 fv109_4 fp110_0 fv110_0 fp110_1 fv110_1 fp110_2 fv110_2 fp110_3 fv110_3 fp110_4 fv110_4 fp120_0 fv120_0 fp120_1 fv120_1 fp120_2 fv120_2 fp120_3 fv120_3 fp121_0 fv121_0 fp121_1 fv121_1 fp121_2 fv121_2 fp121_3 fv121_3 fp122_0 fv122_0 fp122_1 fv122_1 fp123_0 fv123_0 fp123_1 fv123_1 fp126_0 fv126_0 fp126_1 fv126_1 fp127_0 fv127_0 fp127_1 fv127_1 fp144_0 fv144_0 fp144_1 fv144_1 fp144_2 fv144_2 fp145_0 fv145_0 fp145_1 fv145_1 fp145_2 fv145_2 lv22 ll22 is22 ix22 sh22 so22 sb22 sm22 sp22 lv23 ll23 is23 ix23 sh23 so23 sb23 sm23 sp23 lv26 ll26 is26 ix26 sh26 so26 sb26 sm26 sp26 lv29 ll29 is29 ix29 sh29 so29 sb29 sm29 sp29 lv30 ll30 is30 ix30 sh30 so30 sb30 sm30 sp30 lv57 ll57 is57 ix57 sh57 so57 sb57 sm57 sp57 lv133 ll133 is133 sp133 lv150 ll150 is150 ix150 sh150 so150 sb150 sm150 sp150 xs9 ls9 sx9 sy9 sz9
section
open Go Go.Sim
set_option maxRecDepth 100000
set_option maxHeartbeats 4000000

theorem At.sub {p : List Line} {i : Nat} {d : Int} {f : Fo} (h : At p i d f) : (p.take (i + f.size)).drop i = f.flat d := by
  obtain ⟨pre, post, rfl, rfl, _⟩ := h
  have e1 : (pre ++ (f.flat d ++ post)).take (pre.length + f.size) = pre ++ f.flat d := by
    rw [← List.append_assoc, ← flat_len f d, ← List.length_append, List.take_left]
  rw [e1, List.drop_left]
theorem app_lines {H0 H : AHeap} {x : AV} {out m : List Line} {es : List (List AV)} {cl : Bool} {K : AV → AHeap → Prop} {g : Tag (H, K)} (hg : Grow rLine 4 50 H0 H x out) (hb : out.length + m.length ≤ 1000000) (he : es = m.map rLine) (k : ∀ x' H', Grow rLine 4 50 H0 H' x' (out ++ m) → K x' H') : appT Tryz.prog H 26 x (.vsl es cl) K g :=
  grow_append (m := m) te26 ti50 rLine_len (by decide) hg (by show (out.length + m.length) * 32 ≤ _; omega) (by omega) he fun x' H'' hg' => k x' H'' hg'
end
end
end Go.Proofs.YtckipeopgimenaaGreat
