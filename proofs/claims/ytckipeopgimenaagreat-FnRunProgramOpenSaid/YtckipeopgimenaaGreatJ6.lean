/- Walks and plain laws that the claims of this seat lean on. No condition. -/
import Derived.Test.YtckipeopgimenaaGreatJ5
import Derived.Test.YtckipeopgimenaaGreatJ4
set_option linter.unusedVariables false
set_option linter.unusedSimpArgs false
namespace Go.Proofs.YtckipeopgimenaaGreat
open Go Go.Sim
section
set_option maxRecDepth 100000
attribute [local go_sem ↓] aw_skip aw_ret aw_exit aw_region aw_draw aw_seq aw_block aw_loop aw_cond frz_nil frz_cons sq_normal sq_ret sq_exit exB_normal exB_ret exB_same exB_other retQ_ret retQ_normal ret0_ret ret0_normal ao_nil go1 g_move g_assign g_pick g_build g_load g_binOp g_unOp g_convert g_fieldAddr g_field g_indexAddr g_index g_extract g_lookup g_slice g_nilCheck g_len g_makeFunc h_call h_append h_alloc h_box h_buildSlice h_makeSlice h_store gV i_box i_buildSlice i_move i_assign i_build i_load i_binOp i_unOp i_convert i_fieldAddr i_field i_indexAddr i_index i_extract i_lookup i_makeMap i_mapUpdate i_slice i_nilCheck i_makeFunc i_len i_max i_min i_alloc i_makeSlice i_store i_append i_call i_pick boxI boxA buildSliceI buildSliceA makeSliceA makeMapA allocA storeA p_move p_assign p_pick p_build p_load p_binOp p_unOp p_convert p_fieldAddr p_field p_indexAddr p_index p_extract p_lookup p_makeMap p_mapUpdate p_slice p_nilCheck p_makeFunc p_len p_max p_min p_alloc p_box p_buildSlice p_makeSlice p_store p_append p_call x_nil x_go1 x_g0 x_g1 x_g2 x_g3 x_s0 x_s1 x_s2 x_s3 u_move u_assign u_pick u_build u_load u_binOp u_unOp u_convert u_fieldAddr u_field u_indexAddr u_index u_extract u_lookup u_slice u_nilCheck u_makeFunc u_len u_buildSlice x_s4 x_g4 rq_normal rq_ret rq_exit aw_range
attribute [local go_sem] frzV_sl frzK_some set_none set_other AHeap.set_self set_del set_set cnd_t cnd_f cnd_b retA_one retA_two retA_three retA_four retA_nil gIf_b mrgV_b mrgV_wh mrgV_U gIf_U gIf_wh mrgB_f mrgB_some mrgB_if wh_true wh_false keepA_some keepA_if gD_zero gD_succ gT_some bxA_t bxA_f callA_fn ev_tmp ev_const ev_global ev_func oc_bool oc_int oc_string oc_nil oc_nilptr oc_nilfunc cl_bool cl_int cl_string cl_nil updO_some updO_none upd_same upd_other init_at pickA_b pickA_wh selA_t selA_f selA_and selA_or selA_orn selA_orm selA_bb selA_ii beqt b_add b_sub b_mul b_and b_or b_xor b_eql b_neq b_lss b_leq b_gtr b_geq b_quo b_rem b_shr b_seql b_sneq b_sadd b_beql b_bneq b_aeql b_aneq u_not u_neg isConstOp eqA eqCellV List.getD_cons_zero List.getD_cons_succ List.map_cons List.map_nil List.nil_append List.cons_append List.append_nil if_true if_false Option.map_some Option.map_none ne_eq not_false_eq_true oneA ldv ld1v ld1s wr1s ldRow stRow row_lit row_agg row_vsl row_sl row_ptr row_fn one_I one_B one_S one_vsl one_sl one_ptr one_fn extractA okA rI rS rU rClass rFault rExit rStart rLine Int.toNat_natCast List.length_cons List.length_nil List.length_map List.all_cons List.all_nil Bool.and_true Nat.zero_add List.getElem?_cons_zero List.getElem?_cons_succ List.take_succ_cons List.take_zero List.drop_succ_cons List.drop_zero and_self true_and and_true implies_true decide_eq_true_eq decide_eq_false_iff_not Bool.or_eq_true Bool.or_eq_false_iff Bool.and_eq_true Bool.not_eq_true' Bool.not_eq_false' beq_false decide_true decide_false Int.ofNat_lt Int.ofNat_le Int.natCast_nonneg Bool.or_true Bool.or_false Bool.true_or Bool.false_or beq_self_eq_true List.drop_one Bool.not_true Bool.not_false Bool.not_not Bool.false_eq_true Bool.true_eq_false false_implies true_implies Bool.true_and Bool.false_and Bool.and_false not_true_eq_false Int.natCast_eq_zero Int.natCast_pos Int.natCast_zero false_and and_false or_false false_or or_true true_or Bool.or_self none_le_iff List.replicate_zero Int.toNat_zero List.replicate_succ buildRows List.set_cons_zero List.set_cons_succ List.set_nil List.mapM_nil maxLen_eq Nat.zero_le Nat.mul_one Nat.one_mul bldA fillA spliceA List.take_nil List.drop_nil List.getElem?_nil ld1o wr1o bldSliceA le_same cv_i cvI_t quietT_fn qvd_some ld_o ldO_1 ldO_l wr_o wrO_1 set_2 set_3 set_4 putL_nil putL_cons List.zip_cons_cons List.zip_nil_left List.zip_nil_right List.toList_toArray frzV_set ti1 ti2 tk2 ti3 te3 ts3 tk3 tz3 ti4 tb4 ti5 tk5 tz5 ti9 te9 ts9 tk9 tz9 ti12 tk12 ti13 tp13 tf13_0 tf13_1 ti20 ti21 tk21 tz21 ti22 te22 tz22 ti23 te23 ti24 tp24 tf24_0 ti25 tp25 tf25_0 ti26 te26 ti28 ti29 te29 ti30 te30 ti31 tp31 tf31_0 ti32 tp32 tf32_0 ti33 tp33 tf33_0 tf33_1 tf33_2 tf33_3 ti34 tp34 tf34_0 tf34_1 tf34_2 tf34_3 ti35 ti36 ti37 ti38 ti40 ti42 ti43 ti44 tq44 tp44 tf44_0 tf44_1 tf44_2 ti45 tq45 tp45 tf45_0 tf45_1 tf45_2 ti47 ti48 ti49 tq49 tp49 tf49_0 tf49_1 tf49_2 tf49_3 ti50 tq50 tp50 tf50_0 tf50_1 tf50_2 tf50_3 ti51 ti52 ti54 ti55 ti56 ti57 te57 ti59 ti60 ti61 ti62 ti63 ti64 ti65 ti66 ti67 ti68 tq68 tp68 tf68_0 tf68_1 ti69 tq69 tp69 tf69_0 tf69_1 ti70 ti71 ti72 ti73 ti74 ti75 ti77 ti78 ti79 ti80 ti81 ti82 ti83 ti84 ti85 tq85 tp85 tf85_0 tf85_1 tf85_2 tf85_3 tf85_4 ti86 tq86 tp86 tf86_0 tf86_1 tf86_2 tf86_3 tf86_4 ti87 ti88 ti89 ti90 ti91 ti93 ti94 ti95 ti96 ti97 tq97 tp97 tf97_0 tf97_1 tf97_2 ti98 tq98 tp98 tf98_0 tf98_1 tf98_2 ti99 ti100 ti101 ti102 ti103 ti104 ti105 ti106 ti107 tp107 tf107_0 tf107_1 ti108 tp108 tf108_0 tf108_1 ti109 tp109 tf109_0 tf109_1 tf109_2 tf109_3 tf109_4 ti110 tp110 tf110_0 tf110_1 tf110_2 tf110_3 tf110_4 ti111 ti113 ti114 ti115 ti116 ti117 ti118 ti119 ti120 tp120 tf120_0 tf120_1 tf120_2 tf120_3 ti121 tp121 tf121_0 tf121_1 tf121_2 tf121_3 ti122 tq122 tp122 tf122_0 tf122_1 ti123 tq123 tp123 tf123_0 tf123_1 ti124 ti125 ti126 tq126 tp126 tf126_0 tf126_1 ti127 tq127 tp127 tf127_0 tf127_1 ti128 ti129 ti130 ti131 ti132 ti133 te133 ti134 ti135 ti136 ti137 ti138 ti139 ti140 ti141 ti142 ti143 ti144 tp144 tf144_0 tf144_1 tf144_2 ti145 tp145 tf145_0 tf145_1 tf145_2 ti146 ti147 ti148 ti149 ti150 te150 ti151 ti152 ti153 ti154 ti155 ti156 ti157 ti158 ti159 ti160 ti161 ti162 ti163 ti164 ti165 ti166 ti167 ti168 ti169 ti170 ti171 ti172 ti173 ti174 ti175 tk175 tz175 ti176 ti177 ti178 ti179 ti180 tk180 ti182 ti183 ti184 ti186 ti187 ti188 tk188 tz188 ti189 ti190 tk190 tz190 ti191 tk191 ti192 ti193 ti194 ti195 ti196 ti197 ti199 ti200 ti206 ti210 ti215 fp13_0 fv13_0 fp13_1 fv13_1 fp24_0 fv24_0 fp25_0 fv25_0 fp31_0 fv31_0 fp32_0 fv32_0 fp33_0 fv33_0 fp33_1 fv33_1 fp33_2 fv33_2 fp33_3 fv33_3 fp34_0 fv34_0 fp34_1 fv34_1 fp34_2 fv34_2 fp34_3 fv34_3 fp44_0 fv44_0 fp44_1 fv44_1 fp44_2 fv44_2 fp45_0 fv45_0 fp45_1 fv45_1 fp45_2 fv45_2 fp49_0 fv49_0 fp49_1 fv49_1 fp49_2 fv49_2 fp49_3 fv49_3 fp50_0 fv50_0 fp50_1 fv50_1 fp50_2 fv50_2 fp50_3 fv50_3 fp68_0 fv68_0 fp68_1 fv68_1 fp69_0 fv69_0 fp69_1 fv69_1 fp85_0 fv85_0 fp85_1 fv85_1 fp85_2 fv85_2 fp85_3 fv85_3 fp85_4 fv85_4 fp86_0 fv86_0 fp86_1 fv86_1 fp86_2 fv86_2 fp86_3 fv86_3 fp86_4 fv86_4 fp97_0 fv97_0 fp97_1 fv97_1 fp97_2 fv97_2 fp98_0 fv98_0 fp98_1 fv98_1 fp98_2 fv98_2 fp107_0 fv107_0 fp107_1 fv107_1 fp108_0 fv108_0 fp108_1 fv108_1 fp109_0 fv109_0 fp109_1 fv109_1 fp109_2 fv109_2 fp109_3 fv109_3 fp109_4 fv109_4 fp110_0 fv110_0 fp110_1 fv110_1 fp110_2 fv110_2 fp110_3 fv110_3 fp110_4 fv110_4 fp120_0 fv120_0 fp120_1 fv120_1 fp120_2 fv120_2 fp120_3 fv120_3 fp121_0 fv121_0 fp121_1 fv121_1 fp121_2 fv121_2 fp121_3 fv121_3 fp122_0 fv122_0 fp122_1 fv122_1 fp123_0 fv123_0 fp123_1 fv123_1 fp126_0 fv126_0 fp126_1 fv126_1 fp127_0 fv127_0 fp127_1 fv127_1 fp144_0 fv144_0 fp144_1 fv144_1 fp144_2 fv144_2 fp145_0 fv145_0 fp145_1 fv145_1 fp145_2 fv145_2 lv22 ll22 is22 ix22 sh22 so22 sb22 sm22 sp22 lv23 ll23 is23 ix23 sh23 so23 sb23 sm23 sp23 lv26 ll26 is26 ix26 sh26 so26 sb26 sm26 sp26 lv29 ll29 is29 ix29 sh29 so29 sb29 sm29 sp29 lv30 ll30 is30 ix30 sh30 so30 sb30 sm30 sp30 lv57 ll57 is57 ix57 sh57 so57 sb57 sm57 sp57 lv133 ll133 is133 sp133 lv150 ll150 is150 ix150 sh150 so150 sb150 sm150 sp150 xs9 ls9 sx9 sy9 sz9
section
open Go Go.Sim
set_option maxRecDepth 100000
set_option maxHeartbeats 4000000

theorem c_snextLine {P : List Line} {clp : Bool} {i : Nat} {d k a b : Int} {kids rest : Fo} (H : AHeap) (hat : At P i d (.node k a b kids rest)) (hp : P.length ≤ 4398046511104) :
    ACalls Tryz.prog 129 [aProg P clp, I i] H fun r H' => r = I (if k = 7 then skipN rest (i + 1 + kids.size) else i + 1 + kids.size : Nat) ∧ H' = H := by
  have hi := hat.head
  have hcl := chain_len rest (i + 1 + kids.size)
  have hrl := hat.rest.len
  by_cases k7 : k = 7
  · subst k7
    rw [if_pos rfl]
    have hce := chain_end rest (i + 1 + kids.size) i hat.rest hat.endP
    have hgl := getD_last i (chainN rest (i + 1 + kids.size))
    have hmem := chainP_mem hi.1 ((i :: chainN rest (i + 1 + kids.size)).getLastD 0) (by
      rw [chainP_at hat, ← hgl, List.getD_eq_getElem?_getD, List.getElem?_eq_getElem (by simp)]
      exact List.getElem_mem _)
    have hwl : IntKind.i64.wrap (((chainN rest (i + 1 + kids.size)).length + 1 : Nat) - 1) = ((chainN rest (i + 1 + kids.size)).length : Int) := by
      rw [w64 (by omega) (by omega)]; omega
    have hlt1 : ((chainN rest (i + 1 + kids.size)).length : Int) < (((chainN rest (i + 1 + kids.size)).length + 1 : Nat) : Int) := by omega
    have hlt2 : (chainN rest (i + 1 + kids.size)).length < (chainN rest (i + 1 + kids.size)).length + 1 := by omega
    refine acalls_of0 Tryz.func129 rfl (by kernel_rfl) rfl rfl (awp_sound (fz := fun _ => []) (im := fun _ => false) mixed _ _ _ _ (by kernel_rfl) ?_)
    simp +contextual -dsimp -implicitDefEqProofs (maxSteps := 5000000) only [go_sem, reduceIte, reduceCtorEq, Nat.reduceEqDiff, Nat.reduceBEq, Nat.reduceAdd, Nat.reduceLeDiff, Nat.reduceMul, Nat.reduceLT, Int.reduceEq, Int.reduceLT, Int.reduceLE, hi.1, hi.2]
    refine acalls_frz (c_chainOf P clp i _ hi.1 hp) fun cl2 => ?_
    rw [chainP_at hat]
    simp +contextual -dsimp -implicitDefEqProofs (maxSteps := 5000000) only [go_sem, reduceIte, reduceCtorEq, Nat.reduceEqDiff, Nat.reduceBEq, Nat.reduceAdd, Nat.reduceLeDiff, Nat.reduceMul, Nat.reduceLT, Int.reduceEq, Int.reduceLT, Int.reduceLE, toI_len, toI_at, List.length_cons, hwl, hgl, hlt1, hlt2]
    refine (c_blockEnd P clp _ _ hmem).det ?_
    rw [hce]
    simp +contextual -dsimp -implicitDefEqProofs (maxSteps := 5000000) only [go_sem, reduceIte, reduceCtorEq, Nat.reduceEqDiff, Nat.reduceBEq, Nat.reduceAdd, Nat.reduceLeDiff, Nat.reduceMul, Nat.reduceLT, Int.reduceEq, Int.reduceLT, Int.reduceLE]
  · rw [if_neg k7]
    refine acalls_of0 Tryz.func129 rfl (by kernel_rfl) rfl rfl (awp_sound (fz := fun _ => []) (im := fun _ => false) mixed _ _ _ _ (by kernel_rfl) ?_)
    simp +contextual -dsimp -implicitDefEqProofs (maxSteps := 5000000) only [go_sem, reduceIte, reduceCtorEq, Nat.reduceEqDiff, Nat.reduceBEq, Nat.reduceAdd, Nat.reduceLeDiff, Nat.reduceMul, Nat.reduceLT, Int.reduceEq, Int.reduceLT, Int.reduceLE, hi.1, hi.2, k7]
    refine (c_blockEnd P clp i _ hi.1).det ?_
    rw [hat.endP]
    simp +contextual -dsimp -implicitDefEqProofs (maxSteps := 5000000) only [go_sem, reduceIte, reduceCtorEq, Nat.reduceEqDiff, Nat.reduceBEq, Nat.reduceAdd, Nat.reduceLeDiff, Nat.reduceMul, Nat.reduceLT, Int.reduceEq, Int.reduceLT, Int.reduceLE]
theorem c_sagain {t : List Class} {cl : Bool} {P : List Line} {clp : Bool} {s : RS} {F H : AHeap} {bs : Nat} (g : Int) (hM : StS F H bs t cl P clp s) (hl : s.fs.length ≤ 999998) (ho : heapOk s.fs) :
    ACalls Tryz.prog 155 [.ptr bs 4 0 0, I g] H fun r H' => r = .agg (rEn (lineS 3 0 0 g s).1) ∧ StS F H' bs t cl P clp (lineS 3 0 0 g s).2 := by
  have e1 : lineS 3 0 0 g s = if g < 0 then (⟨2, s.fs.length⟩, s.raise 0 0 (-1)) else (⟨2, g⟩, s) := by
    unfold lineS; rw [if_neg (by decide), if_neg (by decide), if_pos rfl]
  rw [e1]
  refine acalls_of1 Tryz.func155 rfl (by kernel_rfl) rfl rfl (awp_sound (fz := fun _ => []) (im := fun _ => false) mixed _ _ _ _ (by kernel_rfl) ?_)
  simp +contextual -dsimp -implicitDefEqProofs (maxSteps := 5000000) only [go_sem, reduceIte, reduceCtorEq, Nat.reduceEqDiff, Nat.reduceBEq, Nat.reduceAdd, Nat.reduceLeDiff, Nat.reduceMul, Nat.reduceLT, Int.reduceEq, Int.reduceLT, Int.reduceLE]
  rintro b4 hb4
  have hF4 := sts_none hM hb4
  by_cases h0 : 0 ≤ g
  · rw [if_neg (by omega)]
    simp +contextual -dsimp -implicitDefEqProofs (maxSteps := 5000000) only [go_sem, reduceIte, reduceCtorEq, Nat.reduceEqDiff, Nat.reduceBEq, Nat.reduceAdd, Nat.reduceLeDiff, Nat.reduceMul, Nat.reduceLT, Int.reduceEq, Int.reduceLT, Int.reduceLE, h0]
    refine retR_less (l := [.agg (rEn ⟨2, g⟩)]) (H' := H) ?_ (le_set hb4) ⟨rfl, hM⟩
    simp only [resA, go_sem, reduceIte, reduceCtorEq, Nat.reduceEqDiff, Nat.reduceBEq, Nat.reduceAdd, Nat.reduceLeDiff, Nat.reduceMul, Nat.reduceLT, Int.reduceEq, Int.reduceLT, Int.reduceLE, rEn]
  · rw [if_pos (by omega)]
    simp +contextual -dsimp -implicitDefEqProofs (maxSteps := 5000000) only [go_sem, reduceIte, reduceCtorEq, Nat.reduceEqDiff, Nat.reduceBEq, Nat.reduceAdd, Nat.reduceLeDiff, Nat.reduceMul, Nat.reduceLT, Int.reduceEq, Int.reduceLT, Int.reduceLE, h0]
    refine (c_sraise 0 0 (-1) (sts_in (K := ⟨2, 123, [[I 0, I 0]]⟩) hM hb4) hl ho (by omega)).mono ?_
    rintro _ H9 ⟨rfl, hM9⟩
    obtain ⟨H10, rfl, w1, w2⟩ := sts_out hM9 hF4
    simp +contextual -dsimp -implicitDefEqProofs (maxSteps := 5000000) only [go_sem, reduceIte, reduceCtorEq, Nat.reduceEqDiff, Nat.reduceBEq, Nat.reduceAdd, Nat.reduceLeDiff, Nat.reduceMul, Nat.reduceLT, Int.reduceEq, Int.reduceLT, Int.reduceLE]
    refine retR_less (l := [.agg (rEn ⟨2, s.fs.length⟩)]) (H' := H10) ?_ (le_set w2) ⟨rfl, w1⟩
    simp only [resA, go_sem, reduceIte, reduceCtorEq, Nat.reduceEqDiff, Nat.reduceBEq, Nat.reduceAdd, Nat.reduceLeDiff, Nat.reduceMul, Nat.reduceLT, Int.reduceEq, Int.reduceLT, Int.reduceLE, rEn]
theorem c_sline {t : List Class} {cl : Bool} {P : List Line} {clp : Bool} {n : Nat} (ht : validT t = true) (ih : SBlkOk t cl P clp n) {i : Nat} {d k a b h : Int} {kids rest : Fo} {s : RS} {F H : AHeap} {bs : Nat} {lp : Bool}
    (k7 : k ≠ 7) (hn : kids.size < n) (hat : At P i d (.node k a b kids rest)) (hno : numOk t k a b = true) (hk : numsF t kids (d + 1) = true) (ho11 : k = 11 → okF kids lp false = true) (ho12 : k = 12 → okF kids true false = true) (hs : FsOk t s.fs) (hh : h < s.fs.length)
    (hl : s.log.length + (2 + (if k = 12 then a.toNat * cost kids else cost kids)) ≤ 900000) (hf : s.fs.length + (2 + (if k = 12 then a.toNat * cost kids else cost kids)) ≤ 900000) (hM : StS F H bs t cl P clp s) (hp : P.length ≤ 4398046511104) :
    ACalls Tryz.prog 130 [.ptr bs 4 0 0, I i, I h] H fun r H' => r = .agg (rEn (lineR k a b i h (fun s => runF t kids (i + 1) none h s) s).1) ∧ StS F H' bs t cl P clp (lineR k a b i h (fun s => runF t kids (i + 1) none h s) s).2 := by
  have hi := hat.head.1
  have hx := hat.head.2
  obtain ⟨xl, G, clf, hF, hg1, hb, rfl⟩ := id hM
  have hfl : s.fs.length ≤ 999998 := by omega
  refine acalls_of1 Tryz.func130 rfl (by kernel_rfl) rfl rfl (awp_sound (fz := fun r => if r = 1 then [7] else []) (im := fun _ => false) mixed _ _ _ _ (by kernel_rfl) ?_)
  simp +contextual -dsimp -implicitDefEqProofs (maxSteps := 5000000) only [go_sem, reduceIte, reduceCtorEq, Nat.reduceEqDiff, Nat.reduceBEq, Nat.reduceAdd, Nat.reduceLeDiff, Nat.reduceMul, Nat.reduceLT, Int.reduceEq, Int.reduceLT, Int.reduceLE, hi, hx]
  rintro b6 ⟨n1, n2, hn2⟩
  have hF6 : F b6 = none := grow_none hg1 hn2
  have nb6 : ∀ K, (G.set bs K) b6 = none := fun K => by rw [set_other n1]; exact hn2
  rintro b7 hb7
  have hMin := sts_in (K := ⟨2, 123, [[I 0, I 0]]⟩) hM (nb6 _)
  have e0 : k ≠ 11 → k ≠ 12 → lineR k a b i h (fun s => runF t kids (i + 1) none h s) s = lineS k a b h (s.jump k i) := fun q1 q2 => by unfold lineR; rw [if_neg q1, if_neg q2]
  have sj : (s.jump k i).log = s.log ∧ (s.jump k i).fs = s.fs := by unfold RS.jump; split <;> exact ⟨rfl, rfl⟩
  have stJ : ∀ (H : AHeap) (s1 s2 : RS), s1.log = s2.log → s1.fs = s2.fs → StS F H bs t cl P clp s1 → StS F H bs t cl P clp s2 := by
    rintro H s1 s2 e1 e2 ⟨xl, G, clf, w1, w2, w3, w4⟩
    rw [e1] at w2
    rw [e2] at w4
    exact ⟨xl, G, clf, w1, w2, w3, w4⟩
  by_cases k1 : k = 1
  · have e : lineR k a b i h (fun s => runF t kids (i + 1) none h s) s = (.next, (s.jump k i).tell a) := by
      rw [e0 (by omega) (by omega)]; unfold lineS; rw [if_pos k1]
    rw [e]
    simp +contextual -dsimp -implicitDefEqProofs (maxSteps := 5000000) only [go_sem, reduceIte, reduceCtorEq, Nat.reduceEqDiff, Nat.reduceBEq, Nat.reduceAdd, Nat.reduceLeDiff, Nat.reduceMul, Nat.reduceLT, Int.reduceEq, Int.reduceLT, Int.reduceLE, hi, hx, n1, n2, k1]
    refine draw_intro [0, 0, 0, 0, 0, 0, 0, 0, 2, 0, 0, 2] AHeap.none (by kernel_rfl) none_le ?_
    simp +contextual -dsimp -implicitDefEqProofs (maxSteps := 5000000) only [go_sem, reduceIte, reduceCtorEq, Nat.reduceEqDiff, Nat.reduceBEq, Nat.reduceAdd, Nat.reduceLeDiff, Nat.reduceMul, Nat.reduceLT, Int.reduceEq, Int.reduceLT, Int.reduceLE, hi, hx, n1, n2, k1]
    refine sts_app1 hg1 hb n1 hn2 (by omega) fun x2 G2 y1 y3 y4 y5 => ?_
    obtain ⟨r1, r2⟩ := y5
    simp +contextual -dsimp -implicitDefEqProofs (maxSteps := 5000000) only [go_sem, reduceIte, reduceCtorEq, Nat.reduceEqDiff, Nat.reduceBEq, Nat.reduceAdd, Nat.reduceLeDiff, Nat.reduceMul, Nat.reduceLT, Int.reduceEq, Int.reduceLT, Int.reduceLE, n1, n2, r1, r2]
    have hMt : StS F (G2.set bs ⟨4, 121, [[.vsl (t.map rClass) cl, aProg P clp, x2, .vsl (s.fs.map rFault) clf]]⟩) bs t cl P clp (s.tell a) := ⟨x2, G2, clf, hF, y1, y3, rfl⟩
    refine retR_less (l := [.agg (rEn .next)]) (H' := G2.set bs _) ?_ (le_set (by rw [set_other n1]; exact y4)) ⟨rfl, stJ _ (s.tell a) _ ?_ ?_ hMt⟩
    · simp only [resA, go_sem, reduceIte, reduceCtorEq, Nat.reduceEqDiff, Nat.reduceBEq, Nat.reduceAdd, Nat.reduceLeDiff, Nat.reduceMul, Nat.reduceLT, Int.reduceEq, Int.reduceLT, Int.reduceLE, rEn, En.next]
    · show s.log ++ [a] = (s.jump k i).log ++ [a]
      rw [sj.1]
    · show s.fs = (s.jump k i).fs
      rw [sj.2]
  by_cases k2 : k = 2
  · have e : lineR k a b i h (fun s => runF t kids (i + 1) none h s) s = (⟨2, s.fs.length⟩, (s.jump k i).raise a b h) := by
      rw [e0 (by omega) (by omega)]; unfold lineS; rw [if_neg k1, if_pos k2, sj.2]
    rw [e]
    simp +contextual -dsimp -implicitDefEqProofs (maxSteps := 5000000) only [go_sem, reduceIte, reduceCtorEq, Nat.reduceEqDiff, Nat.reduceBEq, Nat.reduceAdd, Nat.reduceLeDiff, Nat.reduceMul, Nat.reduceLT, Int.reduceEq, Int.reduceLT, Int.reduceLE, hi, hx, n1, n2, k2]
    refine (c_sraise a b h hMin hfl hs.ho hh).mono ?_
    rintro _ H9 ⟨rfl, hM9⟩
    obtain ⟨H10, rfl, w1, w2⟩ := sts_out hM9 hF6
    simp +contextual -dsimp -implicitDefEqProofs (maxSteps := 5000000) only [go_sem, reduceIte, reduceCtorEq, Nat.reduceEqDiff, Nat.reduceBEq, Nat.reduceAdd, Nat.reduceLeDiff, Nat.reduceMul, Nat.reduceLT, Int.reduceEq, Int.reduceLT, Int.reduceLE, n1, n2]
    refine retR_less (l := [.agg (rEn ⟨2, s.fs.length⟩)]) (H' := H10) ?_ (le_set w2) ⟨rfl, stJ _ (s.raise a b h) _ ?_ ?_ w1⟩
    · simp only [resA, go_sem, reduceIte, reduceCtorEq, Nat.reduceEqDiff, Nat.reduceBEq, Nat.reduceAdd, Nat.reduceLeDiff, Nat.reduceMul, Nat.reduceLT, Int.reduceEq, Int.reduceLT, Int.reduceLE, rEn]
    · show s.log = (s.jump k i).log
      rw [sj.1]
    · show raiseF s.fs a b h = raiseF (s.jump k i).fs a b h
      rw [sj.2]
  by_cases k3 : k = 3
  · have e : lineR k a b i h (fun s => runF t kids (i + 1) none h s) s = lineS 3 0 0 h (s.jump k i) := by
      rw [e0 (by omega) (by omega)]
      generalize s.jump k i = s1
      rw [k3]
      simp [lineS]
    rw [e]
    have hMj := stJ _ s (s.jump k i) sj.1.symm sj.2.symm hM
    have key := c_sagain h (sts_in (K := ⟨2, 123, [[I 0, I 0]]⟩) hMj (nb6 _)) (by rw [sj.2]; exact hfl) (by rw [sj.2]; exact hs.ho)
    generalize lineS 3 0 0 h (s.jump k i) = r at key ⊢
    simp +contextual -dsimp -implicitDefEqProofs (maxSteps := 5000000) only [go_sem, reduceIte, reduceCtorEq, Nat.reduceEqDiff, Nat.reduceBEq, Nat.reduceAdd, Nat.reduceLeDiff, Nat.reduceMul, Nat.reduceLT, Int.reduceEq, Int.reduceLT, Int.reduceLE, hi, hx, n1, n2, k3]
    refine key.mono ?_
    rintro _ H9 ⟨rfl, hM9⟩
    obtain ⟨H10, rfl, w1, w2⟩ := sts_out hM9 hF6
    simp +contextual -dsimp -implicitDefEqProofs (maxSteps := 5000000) only [go_sem, reduceIte, reduceCtorEq, Nat.reduceEqDiff, Nat.reduceBEq, Nat.reduceAdd, Nat.reduceLeDiff, Nat.reduceMul, Nat.reduceLT, Int.reduceEq, Int.reduceLT, Int.reduceLE, n1, n2, rEn]
    refine retR_less (l := [.agg (rEn r.1)]) (H' := H10) ?_ (le_set w2) ⟨rfl, w1⟩
    simp only [resA, go_sem, reduceIte, reduceCtorEq, Nat.reduceEqDiff, Nat.reduceBEq, Nat.reduceAdd, Nat.reduceLeDiff, Nat.reduceMul, Nat.reduceLT, Int.reduceEq, Int.reduceLT, Int.reduceLE, rEn]
  by_cases k4 : k = 4
  · subst k4
    have e : lineR 4 a b i h (fun s => runF t kids (i + 1) none h s) s = (⟨1, a⟩, s.jump 4 i) := by
      rw [e0 (by omega) (by omega)]; unfold lineS; rw [if_neg k1, if_neg k2, if_neg k3, if_pos rfl]
    have hMj := stJ _ s (s.jump 4 i) sj.1.symm sj.2.symm hM
    rw [e]
    simp +contextual -dsimp -implicitDefEqProofs (maxSteps := 5000000) only [go_sem, reduceIte, reduceCtorEq, Nat.reduceEqDiff, Nat.reduceBEq, Nat.reduceAdd, Nat.reduceLeDiff, Nat.reduceMul, Nat.reduceLT, Int.reduceEq, Int.reduceLT, Int.reduceLE, hi, hx, n1, n2]
    refine retR_less (l := [.agg (rEn ⟨1, a⟩)]) (H' := G.set bs _) ?_ (le_set (nb6 _)) ⟨rfl, hMj⟩
    simp only [resA, go_sem, reduceIte, reduceCtorEq, Nat.reduceEqDiff, Nat.reduceBEq, Nat.reduceAdd, Nat.reduceLeDiff, Nat.reduceMul, Nat.reduceLT, Int.reduceEq, Int.reduceLT, Int.reduceLE, rEn]
  by_cases k5 : k = 5
  · subst k5
    have e : lineR 5 a b i h (fun s => runF t kids (i + 1) none h s) s = (⟨3, 0⟩, s.jump 5 i) := by
      rw [e0 (by omega) (by omega)]; unfold lineS; rw [if_neg k1, if_neg k2, if_neg k3, if_neg k4, if_pos rfl]
    have hMj := stJ _ s (s.jump 5 i) sj.1.symm sj.2.symm hM
    rw [e]
    simp +contextual -dsimp -implicitDefEqProofs (maxSteps := 5000000) only [go_sem, reduceIte, reduceCtorEq, Nat.reduceEqDiff, Nat.reduceBEq, Nat.reduceAdd, Nat.reduceLeDiff, Nat.reduceMul, Nat.reduceLT, Int.reduceEq, Int.reduceLT, Int.reduceLE, hi, hx, n1, n2]
    refine retR_less (l := [.agg (rEn ⟨3, 0⟩)]) (H' := G.set bs _) ?_ (le_set (nb6 _)) ⟨rfl, hMj⟩
    simp only [resA, go_sem, reduceIte, reduceCtorEq, Nat.reduceEqDiff, Nat.reduceBEq, Nat.reduceAdd, Nat.reduceLeDiff, Nat.reduceMul, Nat.reduceLT, Int.reduceEq, Int.reduceLT, Int.reduceLE, rEn]
  by_cases k6 : k = 6
  · subst k6
    have e : lineR 6 a b i h (fun s => runF t kids (i + 1) none h s) s = (⟨4, 0⟩, s.jump 6 i) := by
      rw [e0 (by omega) (by omega)]; unfold lineS; rw [if_neg k1, if_neg k2, if_neg k3, if_neg k4, if_neg k5, if_pos rfl]
    have hMj := stJ _ s (s.jump 6 i) sj.1.symm sj.2.symm hM
    rw [e]
    simp +contextual -dsimp -implicitDefEqProofs (maxSteps := 5000000) only [go_sem, reduceIte, reduceCtorEq, Nat.reduceEqDiff, Nat.reduceBEq, Nat.reduceAdd, Nat.reduceLeDiff, Nat.reduceMul, Nat.reduceLT, Int.reduceEq, Int.reduceLT, Int.reduceLE, hi, hx, n1, n2]
    refine retR_less (l := [.agg (rEn ⟨4, 0⟩)]) (H' := G.set bs _) ?_ (le_set (nb6 _)) ⟨rfl, hMj⟩
    simp only [resA, go_sem, reduceIte, reduceCtorEq, Nat.reduceEqDiff, Nat.reduceBEq, Nat.reduceAdd, Nat.reduceLeDiff, Nat.reduceMul, Nat.reduceLT, Int.reduceEq, Int.reduceLT, Int.reduceLE, rEn]
  by_cases k11 : k = 11
  · subst k11
    have e : lineR 11 a b i h (fun s => runF t kids (i + 1) none h s) s = withS a b (runF t kids (i + 1) none h (s.tell (100 + a))) := by unfold lineR; rw [if_pos rfl]
    rw [e]
    rw [if_neg (by decide)] at hl hf
    have key := c_swith ht ih hn hat hno hk (ho11 rfl) hs hh hl hf hMin hp
    generalize withS a b (runF t kids (i + 1) none h (s.tell (100 + a))) = r at key ⊢
    simp +contextual -dsimp -implicitDefEqProofs (maxSteps := 5000000) only [go_sem, reduceIte, reduceCtorEq, Nat.reduceEqDiff, Nat.reduceBEq, Nat.reduceAdd, Nat.reduceLeDiff, Nat.reduceMul, Nat.reduceLT, Int.reduceEq, Int.reduceLT, Int.reduceLE, hi, hx, n1, n2]
    refine key.mono ?_
    rintro _ H9 ⟨rfl, hM9⟩
    obtain ⟨H10, rfl, w1, w2⟩ := sts_out hM9 hF6
    simp +contextual -dsimp -implicitDefEqProofs (maxSteps := 5000000) only [go_sem, reduceIte, reduceCtorEq, Nat.reduceEqDiff, Nat.reduceBEq, Nat.reduceAdd, Nat.reduceLeDiff, Nat.reduceMul, Nat.reduceLT, Int.reduceEq, Int.reduceLT, Int.reduceLE, n1, n2, rEn]
    refine retR_less (l := [.agg (rEn r.1)]) (H' := H10) ?_ (le_set w2) ⟨rfl, w1⟩
    simp only [resA, go_sem, reduceIte, reduceCtorEq, Nat.reduceEqDiff, Nat.reduceBEq, Nat.reduceAdd, Nat.reduceLeDiff, Nat.reduceMul, Nat.reduceLT, Int.reduceEq, Int.reduceLT, Int.reduceLE, rEn]
  by_cases k12 : k = 12
  · subst k12
    have e : lineR 12 a b i h (fun s => runF t kids (i + 1) none h s) s = loopS (fun s => runF t kids (i + 1) none h s) a.toNat s := by unfold lineR; rw [if_neg (by decide), if_pos rfl]
    rw [e]
    rw [if_pos rfl] at hl hf
    have key := c_sloop ht ih hn hat hno hk (ho12 rfl) hs hh hl hf hMin hp
    generalize loopS (fun s => runF t kids (i + 1) none h s) a.toNat s = r at key ⊢
    simp +contextual -dsimp -implicitDefEqProofs (maxSteps := 5000000) only [go_sem, reduceIte, reduceCtorEq, Nat.reduceEqDiff, Nat.reduceBEq, Nat.reduceAdd, Nat.reduceLeDiff, Nat.reduceMul, Nat.reduceLT, Int.reduceEq, Int.reduceLT, Int.reduceLE, hi, hx, n1, n2]
    refine key.mono ?_
    rintro _ H9 ⟨rfl, hM9⟩
    obtain ⟨H10, rfl, w1, w2⟩ := sts_out hM9 hF6
    simp +contextual -dsimp -implicitDefEqProofs (maxSteps := 5000000) only [go_sem, reduceIte, reduceCtorEq, Nat.reduceEqDiff, Nat.reduceBEq, Nat.reduceAdd, Nat.reduceLeDiff, Nat.reduceMul, Nat.reduceLT, Int.reduceEq, Int.reduceLT, Int.reduceLE, n1, n2, rEn]
    refine retR_less (l := [.agg (rEn r.1)]) (H' := H10) ?_ (le_set w2) ⟨rfl, w1⟩
    simp only [resA, go_sem, reduceIte, reduceCtorEq, Nat.reduceEqDiff, Nat.reduceBEq, Nat.reduceAdd, Nat.reduceLeDiff, Nat.reduceMul, Nat.reduceLT, Int.reduceEq, Int.reduceLT, Int.reduceLE, rEn]
  have e : lineR k a b i h (fun s => runF t kids (i + 1) none h s) s = (.next, s.jump k i) := by
    rw [e0 k11 k12]; unfold lineS; rw [if_neg k1, if_neg k2, if_neg k3, if_neg k4, if_neg k5, if_neg k6]
  have hMj := stJ _ s (s.jump k i) sj.1.symm sj.2.symm hM
  rw [e]
  simp +contextual -dsimp -implicitDefEqProofs (maxSteps := 5000000) only [go_sem, reduceIte, reduceCtorEq, Nat.reduceEqDiff, Nat.reduceBEq, Nat.reduceAdd, Nat.reduceLeDiff, Nat.reduceMul, Nat.reduceLT, Int.reduceEq, Int.reduceLT, Int.reduceLE, hi, hx, n1, n2, k1, k2, k3, k4, k5, k6, k7, k11, k12]
  refine retR_less (l := [.agg (rEn .next)]) (H' := G.set bs _) ?_ (le_set (nb6 _)) ⟨rfl, hMj⟩
  simp only [resA, go_sem, reduceIte, reduceCtorEq, Nat.reduceEqDiff, Nat.reduceBEq, Nat.reduceAdd, Nat.reduceLeDiff, Nat.reduceMul, Nat.reduceLT, Int.reduceEq, Int.reduceLT, Int.reduceLE, rEn, En.next]
end
section
open Go Go.Sim
set_option maxRecDepth 100000
set_option maxHeartbeats 4000000

theorem c_slineTry {t : List Class} {cl : Bool} {P : List Line} {clp : Bool} {n : Nat} (ht : validT t = true) (ih : SBlkOk t cl P clp n) {i : Nat} {d a b h : Int} {kids rest : Fo} {s : RS} {F H : AHeap} {bs : Nat} {lp : Bool}
    (hn : kids.size + rest.size < n) (hat : At P i d (.node 7 a b kids rest)) (hk : numsF t kids (d + 1) = true) (hr : numsF t rest d = true) (hok : okF kids lp false = true) (hokr : okF rest lp true = true) (hto : tryG 7 (headsK rest) = true) (hs : FsOk t s.fs) (hh : h < s.fs.length)
    (hl : s.log.length + (cost kids + cost rest) ≤ 900000) (hf : s.fs.length + (cost kids + cost rest) ≤ 900000) (hM : StS F H bs t cl P clp s) (hp : P.length ≤ 4398046511104) :
    ACalls Tryz.prog 130 [.ptr bs 4 0 0, I i, I h] H fun r H' =>
      r = .agg (rEn (chainR t rest (i + 1 + kids.size) (runF t kids (i + 1) none h s).1 (runF t kids (i + 1) none h s).1 h (runF t kids (i + 1) none h s).2).1) ∧
      StS F H' bs t cl P clp (chainR t rest (i + 1 + kids.size) (runF t kids (i + 1) none h s).1 (runF t kids (i + 1) none h s).1 h (runF t kids (i + 1) none h s).2).2 := by
  have hi := hat.head.1
  have hx := hat.head.2
  obtain ⟨xl, G, clf, hF, hg1, hb, rfl⟩ := id hM
  refine acalls_of1 Tryz.func130 rfl (by kernel_rfl) rfl rfl (awp_sound (fz := fun r => if r = 1 then [7] else []) (im := fun _ => false) mixed _ _ _ _ (by kernel_rfl) ?_)
  simp +contextual -dsimp -implicitDefEqProofs (maxSteps := 5000000) only [go_sem, reduceIte, reduceCtorEq, Nat.reduceEqDiff, Nat.reduceBEq, Nat.reduceAdd, Nat.reduceLeDiff, Nat.reduceMul, Nat.reduceLT, Int.reduceEq, Int.reduceLT, Int.reduceLE, hi, hx]
  rintro b6 ⟨n1, n2, hn2⟩
  have hF6 : F b6 = none := grow_none hg1 hn2
  have nb6 : ∀ K, (G.set bs K) b6 = none := fun K => by rw [set_other n1]; exact hn2
  rintro b7 hb7
  have key := c_stry ht ih hn hat hk hr hok hokr hto hs hh hl hf (sts_in (K := ⟨2, 123, [[I 0, I 0]]⟩) hM (nb6 _)) hp
  generalize chainR t rest (i + 1 + kids.size) (runF t kids (i + 1) none h s).1 (runF t kids (i + 1) none h s).1 h (runF t kids (i + 1) none h s).2 = r at key ⊢
  refine key.mono ?_
  rintro _ H9 ⟨rfl, hM9⟩
  obtain ⟨H10, rfl, w1, w2⟩ := sts_out hM9 hF6
  simp +contextual -dsimp -implicitDefEqProofs (maxSteps := 5000000) only [go_sem, reduceIte, reduceCtorEq, Nat.reduceEqDiff, Nat.reduceBEq, Nat.reduceAdd, Nat.reduceLeDiff, Nat.reduceMul, Nat.reduceLT, Int.reduceEq, Int.reduceLT, Int.reduceLE, n1, n2, rEn]
  refine retR_less (l := [.agg (rEn r.1)]) (H' := H10) ?_ (le_set w2) ⟨rfl, w1⟩
  simp only [resA, go_sem, reduceIte, reduceCtorEq, Nat.reduceEqDiff, Nat.reduceBEq, Nat.reduceAdd, Nat.reduceLeDiff, Nat.reduceMul, Nat.reduceLT, Int.reduceEq, Int.reduceLT, Int.reduceLE, rEn]
theorem okF_skip {lp : Bool} : ∀ f : Fo, okF f lp true = true → okF (skipF f) lp false = true
  | .nil, _ => rfl
  | .node k a b kids rest, h => by
    simp only [skipF]
    by_cases hk : followsK k = true
    · rw [if_pos hk]; exact okF_skip rest (okF_rest hk h)
    · rw [if_neg hk]
      have : okF (.node k a b kids rest) lp true = okF (.node k a b kids rest) lp false := by
        have hk' : followsK k = false := by simpa using hk
        simp only [okF, hk']; rfl
      rw [← this]; exact h
theorem c_sblkStep {t : List Class} {cl : Bool} {P : List Line} {clp : Bool} {n : Nat} (ht : validT t = true) (hp : P.length ≤ 4398046511104) (ih : SBlkOk t cl P clp n) : SBlkOk t cl P clp (n + 1) := by
  intro f i d h s F H bs lp hfn hat hnf hok hs hh hl hf hM
  have hfl := hat.len
  refine acalls_of1 Tryz.func82 rfl (by kernel_rfl) rfl rfl (awp_sound (fz := fun r => if r = 4 then [10] else []) (im := fun _ => false) mixed _ _ _ _ (by kernel_rfl) ?_)
  simp +contextual -dsimp -implicitDefEqProofs (maxSteps := 5000000) only [go_sem, reduceIte, reduceCtorEq, Nat.reduceEqDiff, Nat.reduceBEq, Nat.reduceAdd, Nat.reduceLeDiff, Nat.reduceMul, Nat.reduceLT, Int.reduceEq, Int.reduceLT, Int.reduceLE]
  intro b8 hb8
  have hF8 := sts_none hM hb8
  refine aloop mixed (fz := fun r => if r = 4 then [10] else []) (im := fun _ => false) (by kernel_rfl) (fun m tm H' => ∃ (g : Fo) (q : Nat) (s' : RS) (H'' : AHeap), m = g.size ∧ At P q d g ∧ numsF t g d = true ∧ okF g lp false = true ∧ g.size ≤ f.size ∧ q + g.size = i + f.size ∧ FsOk t s'.fs ∧ s.fs.length ≤ s'.fs.length ∧ s'.log.length + cost g ≤ 900000 ∧ s'.fs.length + cost g ≤ 900000 ∧ runF t f i none h s = runF t g q none h s' ∧ H' = H''.set b8 ⟨2, 123, [[I 0, I 0]]⟩ ∧ H'' b8 = none ∧ StS F H'' bs t cl P clp s' ∧ tm 0 = .ptr bs 4 0 0 ∧ tm 2 = I (i + f.size : Nat) ∧ tm 3 = I h ∧ tm 8 = .ptr b8 2 0 0 ∧ tm 9 = I q) f.size ⟨f, i, s, H, rfl, hat, hnf, hok, Nat.le_refl _, rfl, hs, Nat.le_refl _, hl, hf, rfl, rfl, hb8, hM, ?_⟩ ?_
  · simp +contextual -dsimp -implicitDefEqProofs (maxSteps := 5000000) only [go_sem, reduceIte, reduceCtorEq, Nat.reduceEqDiff, Nat.reduceBEq, Nat.reduceAdd, Nat.reduceLeDiff, Nat.reduceMul, Nat.reduceLT, Int.reduceEq, Int.reduceLT, Int.reduceLE]
  · rintro m tm _ ⟨g, q, s', H'', rfl, hgat, hgn, hgo2, hgs, hgq, hs', hsl, bl, bf, he, rfl, h8, hM', t0, t2, t3, t8, t9⟩
    cases g with
    | nil =>
      have z : ¬ q < i + f.size := by simp only [Fo.size] at hgq; omega
      rw [he]
      simp +contextual -dsimp -implicitDefEqProofs (maxSteps := 5000000) only [go_sem, reduceIte, reduceCtorEq, Nat.reduceEqDiff, Nat.reduceBEq, Nat.reduceAdd, Nat.reduceLeDiff, Nat.reduceMul, Nat.reduceLT, Int.reduceEq, Int.reduceLT, Int.reduceLE, t0, t2, t3, t8, t9, z]
      refine retR_less (l := [.agg (rEn .next)]) (H' := H'') ?_ (le_set h8) ⟨rfl, hM'⟩
      simp only [resA, go_sem, reduceIte, reduceCtorEq, Nat.reduceEqDiff, Nat.reduceBEq, Nat.reduceAdd, Nat.reduceLeDiff, Nat.reduceMul, Nat.reduceLT, Int.reduceEq, Int.reduceLT, Int.reduceLE, rEn, En.next, t8]
    | node k a b kids rest =>
      have hsz : (Fo.node k a b kids rest).size = 1 + kids.size + rest.size := rfl
      have z : q < i + f.size := by omega
      have hq := hgat.head
      obtain ⟨n1, n2, n3, n4, n5⟩ := numsF_node hgn
      have hMin := sts_in (K := ⟨2, 123, [[I 0, I 0]]⟩) hM' h8
      have adv : ∀ (SZ : Nat) (g' : Fo) (q' : Nat) (s'' : RS) (H3 : AHeap), g'.size < SZ → g'.size ≤ rest.size → At P q' d g' → numsF t g' d = true → okF g' lp false = true → q' + g'.size = i + f.size → runF t (.node k a b kids rest) q none h s' = runF t g' q' none h s'' → FsOk t s''.fs → s.fs.length ≤ s''.fs.length → s''.log.length + cost g' ≤ 900000 → s''.fs.length + cost g' ≤ 900000 → H3 b8 = none → StS F H3 bs t cl P clp s'' →
          ∃ m', m' < SZ ∧ ∃ (g : Fo) (q : Nat) (s' : RS) (H'' : AHeap), m' = g.size ∧ At P q d g ∧ numsF t g d = true ∧ okF g lp false = true ∧ g.size ≤ f.size ∧ q + g.size = i + f.size ∧ FsOk t s'.fs ∧ s.fs.length ≤ s'.fs.length ∧ s'.log.length + cost g ≤ 900000 ∧ s'.fs.length + cost g ≤ 900000 ∧ runF t f i none h s = runF t g q none h s' ∧ H3.set b8 ⟨2, 123, [[I 0, I 0]]⟩ = H''.set b8 ⟨2, 123, [[I 0, I 0]]⟩ ∧ H'' b8 = none ∧ StS F H'' bs t cl P clp s' ∧ I q' = I q :=
        fun SZ g' q' s'' H3 w1 w0 w2 w3 w3b w4 w5 w6 w7 w8 w9 w10 w11 => ⟨g'.size, w1, g', q', s'', H3, rfl, w2, w3, w3b, by omega, w4, w6, w7, w8, w9, by rw [he]; exact w5, rfl, w10, w11, rfl⟩
      have nx := fun H => c_snextLine (clp := clp) H hgat hp
      by_cases k7 : k = 7
      · subst k7
        have hc : cost (.node 7 a b kids rest) = 2 + cost kids + cost rest := cost_node_le (by omega)
        obtain ⟨_, o1, o2, o3⟩ | ⟨_, ⟨_, o1, o2, o3⟩ | ⟨o0, _⟩⟩ := okF_node hgo2
        · cases o1
        · have hto : tryG 7 (headsK rest) = true := by
            unfold tryOkF at o1
            rw [Bool.and_eq_true] at o1
            exact o1.1
          have hgo0 := goes_run ht kids (q + 1) none (d + 1) h s' n4 hs' (by omega) trivial
          have hgl0 := hgo0.len
          have hss := skipN_add rest (q + 1 + kids.size)
          have hsf := skipF_size rest
          have key := c_slineTry (h := h) ht ih (by omega) hgat n4 n5 o2 o3 hto hs' (by omega) (by omega) (by omega) hMin hp
          have hrun := runF_try (t := t) (a := a) (b := b) (kids := kids) (rest := rest) (i := q) (h := h) (s := s')
          simp only [runF_some] at hrun
          generalize runF t kids (q + 1) none h s' = r0 at key hgo0 hgl0 hrun
          obtain ⟨c, hc1, hgo⟩ := goes_chain ht rest (q + 1 + kids.size) r0.1 r0.1 d h r0.2 n5 hgo0.ok (by omega) ⟨hgo0.val, hgo0.val⟩
          have hgl := hgo.len
          generalize chainR t rest (q + 1 + kids.size) r0.1 r0.1 h r0.2 = r at key hgo hgl hrun
          simp +contextual -dsimp -implicitDefEqProofs (maxSteps := 5000000) only [go_sem, reduceIte, reduceCtorEq, Nat.reduceEqDiff, Nat.reduceBEq, Nat.reduceAdd, Nat.reduceLeDiff, Nat.reduceMul, Nat.reduceLT, Int.reduceEq, Int.reduceLT, Int.reduceLE, t0, t2, t3, t8, t9, z]
          refine key.mono ?_
          rintro _ H3 ⟨rfl, hM3⟩
          obtain ⟨H4, rfl, w1, w2⟩ := sts_out hM3 hF8
          obtain ⟨xl4, G4, clf4, hFb4, hg4, hb4, rfl⟩ := id w1
          have w2' := w2
          rw [set_none] at w2'
          obtain ⟨z1, z2, z3⟩ := w2'
          by_cases c0 : r.1.ed = 0
          · simp only [c0, if_true] at hrun
            simp +contextual -dsimp -implicitDefEqProofs (maxSteps := 5000000) only [go_sem, reduceIte, reduceCtorEq, Nat.reduceEqDiff, Nat.reduceBEq, Nat.reduceAdd, Nat.reduceLeDiff, Nat.reduceMul, Nat.reduceLT, Int.reduceEq, Int.reduceLT, Int.reduceLE, rEn, t0, t2, t3, t8, t9, z, z1, z2, c0]
            rintro b10 hb10
            refine (nx _).det ?_
            rw [if_pos rfl]
            simp +contextual -dsimp -implicitDefEqProofs (maxSteps := 5000000) only [go_sem, reduceIte, reduceCtorEq, Nat.reduceEqDiff, Nat.reduceBEq, Nat.reduceAdd, Nat.reduceLeDiff, Nat.reduceMul, Nat.reduceLT, Int.reduceEq, Int.reduceLT, Int.reduceLE, t0, t2, t3, t8, t9, z1, z2]
            exact adv _ (skipF rest) (skipN rest (q + 1 + kids.size)) r.2 _ (by simp only [Fo.size]; omega) hsf hgat.rest.skip (numsF_skip rest n5) (okF_skip rest o3) (by omega) hrun hgo.ok (by omega) (by omega) (by omega) w2 w1
          · simp only [c0, if_false] at hrun
            simp +contextual -dsimp -implicitDefEqProofs (maxSteps := 5000000) only [go_sem, reduceIte, reduceCtorEq, Nat.reduceEqDiff, Nat.reduceBEq, Nat.reduceAdd, Nat.reduceLeDiff, Nat.reduceMul, Nat.reduceLT, Int.reduceEq, Int.reduceLT, Int.reduceLE, rEn, t0, t2, t3, t8, t9, z, z1, z2, c0]
            rintro b10 hb10
            rw [he, hrun]
            refine retR_less (l := [.agg (rEn r.1)]) (H' := G4.set bs _) ?_ (le_set w2) ⟨rfl, w1⟩
            simp only [resA, go_sem, reduceIte, reduceCtorEq, Nat.reduceEqDiff, Nat.reduceBEq, Nat.reduceAdd, Nat.reduceLeDiff, Nat.reduceMul, Nat.reduceLT, Int.reduceEq, Int.reduceLT, Int.reduceLE, rEn, t8]
        · exact absurd rfl o0
      · obtain ⟨_, o1, o2, o3⟩ | ⟨_, ⟨o0, _⟩ | ⟨_, o1, o2, o3, _⟩⟩ := okF_node hgo2
        · cases o1
        · exact absurd o0 k7
        · have hgo := goes_lineR (h := h) (i := q) (body := fun s => runF t kids (q + 1) none h s) (n := cost kids) ht hs' n1 (by omega) (fun s2 hs2 hl2 => goes_run ht kids (q + 1) none (d + 1) h s2 n4 hs2 (by omega) trivial)
          have hgl := hgo.len
          have hrun := runF_line (t := t) (a := a) (b := b) (kids := kids) (rest := rest) (i := q) (h := h) (s := s') k7
          have hcn : cost (.node k a b kids rest) = 2 + (if k = 12 then a.toNat * cost kids else cost kids) + cost rest := rfl
          have key := c_sline (h := h) (lp := lp) ht ih k7 (by omega) hgat n1 n4 o2 o3 hs' (by omega) (by omega) (by omega) hMin hp
          generalize lineR k a b q h (fun s => runF t kids (q + 1) none h s) s' = r at key hgo hgl hrun
          simp +contextual -dsimp -implicitDefEqProofs (maxSteps := 5000000) only [go_sem, reduceIte, reduceCtorEq, Nat.reduceEqDiff, Nat.reduceBEq, Nat.reduceAdd, Nat.reduceLeDiff, Nat.reduceMul, Nat.reduceLT, Int.reduceEq, Int.reduceLT, Int.reduceLE, t0, t2, t3, t8, t9, z]
          refine key.mono ?_
          rintro _ H3 ⟨rfl, hM3⟩
          obtain ⟨H4, rfl, w1, w2⟩ := sts_out hM3 hF8
          obtain ⟨xl4, G4, clf4, hFb4, hg4, hb4, rfl⟩ := id w1
          have w2' := w2
          rw [set_none] at w2'
          obtain ⟨z1, z2, z3⟩ := w2'
          by_cases c0 : r.1.ed = 0
          · simp only [c0, if_true] at hrun
            simp +contextual -dsimp -implicitDefEqProofs (maxSteps := 5000000) only [go_sem, reduceIte, reduceCtorEq, Nat.reduceEqDiff, Nat.reduceBEq, Nat.reduceAdd, Nat.reduceLeDiff, Nat.reduceMul, Nat.reduceLT, Int.reduceEq, Int.reduceLT, Int.reduceLE, rEn, t0, t2, t3, t8, t9, z, z1, z2, c0]
            rintro b10 hb10
            refine (nx _).det ?_
            rw [if_neg k7]
            simp +contextual -dsimp -implicitDefEqProofs (maxSteps := 5000000) only [go_sem, reduceIte, reduceCtorEq, Nat.reduceEqDiff, Nat.reduceBEq, Nat.reduceAdd, Nat.reduceLeDiff, Nat.reduceMul, Nat.reduceLT, Int.reduceEq, Int.reduceLT, Int.reduceLE, t0, t2, t3, t8, t9, z1, z2]
            exact adv _ rest (q + 1 + kids.size) r.2 _ (by simp only [Fo.size]; omega) (Nat.le_refl _) hgat.rest n5 o1 (by omega) hrun hgo.ok (by omega) (by omega) (by omega) w2 w1
          · simp only [c0, if_false] at hrun
            simp +contextual -dsimp -implicitDefEqProofs (maxSteps := 5000000) only [go_sem, reduceIte, reduceCtorEq, Nat.reduceEqDiff, Nat.reduceBEq, Nat.reduceAdd, Nat.reduceLeDiff, Nat.reduceMul, Nat.reduceLT, Int.reduceEq, Int.reduceLT, Int.reduceLE, rEn, t0, t2, t3, t8, t9, z, z1, z2, c0]
            rintro b10 hb10
            rw [he, hrun]
            refine retR_less (l := [.agg (rEn r.1)]) (H' := G4.set bs _) ?_ (le_set w2) ⟨rfl, w1⟩
            simp only [resA, go_sem, reduceIte, reduceCtorEq, Nat.reduceEqDiff, Nat.reduceBEq, Nat.reduceAdd, Nat.reduceLeDiff, Nat.reduceMul, Nat.reduceLT, Int.reduceEq, Int.reduceLT, Int.reduceLE, rEn, t8]
theorem c_sblkAll {t : List Class} {cl : Bool} {P : List Line} {clp : Bool} (ht : validT t = true) (hp : P.length ≤ 4398046511104) : ∀ n, SBlkOk t cl P clp n
  | 0 => fun f i d h s F H bs lp hn => by omega
  | n + 1 => c_sblkStep ht hp (c_sblkAll ht hp n)
end
section
open Go Go.Sim
set_option maxRecDepth 100000
set_option maxHeartbeats 4000000

theorem rel_opn {O : Nat → Prop} {w : World} {es : List (List AV)} {cl : Bool} {v : Value} (h : Rel O w (.vsl es cl) v) : Rel O w (.vsl es false) v := by
  cases h with
  | vnil => exact .vnil false
  | vsl es cl b o sz cap g h1 h2 h3 h4 h5 h6 h7 h8 h9 => exact .vsl es false b o sz cap g h1 h2 (fun q => by cases q) h4 h5 h6 h7 h8 h9
theorem rel_one {O : Nat → Prop} {w : World} {es : List (List AV)} {cl : Bool} {v : Value} (h : Rel O w (.agg [.vsl es cl]) v) : Rel O w (.agg [.vsl es false]) v := by
  cases h with
  | agg _ vs e1 e2 e3 =>
    refine .agg _ vs (by simpa using e1) e2 fun i c u hc hu => ?_
    cases i with
    | zero => simp at hc; subst hc; exact rel_opn (e3 0 _ u rfl hu)
    | succ i => simp at hc
theorem acalls_opn {P : Program} {f : FuncId} {args : List AV} {H : AHeap} {es : List (List AV)} {x : AV} (h : ACalls P f args H fun r H' => (∃ cl, r = .tup [.agg [.vsl es cl], x]) ∧ H' = H) : ACalls P f args H fun r H' => r = .tup [.agg [.vsl es false], x] ∧ H' = H := by
  refine ⟨h.1, fun w vs hh hv => (h.2 w vs hh hv).mono ?_⟩
  rintro e w' ⟨v, r, H', rfl, ⟨⟨cl, rfl⟩, rfl⟩, h1, h2⟩
  refine ⟨v, _, _, rfl, ⟨rfl, rfl⟩, ?_, h2⟩
  cases h1 with
  | tup _ vs e1 e3 =>
    refine .tup _ vs (by simpa using e1) fun i c u hc hu => ?_
    cases i with
    | zero => simp at hc; subst hc; exact rel_one (e3 0 _ u rfl hu)
    | succ i => exact e3 (i + 1) c u (by simpa using hc) hu
/-- The result of a run, as the reference tells it. -/
def resSp (r : En × RS) : Res :=
  if r.1.ed = 2 then ⟨r.2.log, 2, idxF (fun x => decide (r.1.val = x)) (sortedF (dchF r.2.fs r.1.val)), isoL r.2.fs (sortedF (dchF r.2.fs r.1.val))⟩ else ⟨r.2.log, r.1.ed, r.1.val, []⟩
theorem c_srun (t : List Class) (cl : Bool) (p : List Line) (cl' : Bool) (H : AHeap) (hp : p.length ≤ 4398046511104) (hv : ValidP t p) :
    ACalls Tryz.prog 39 [aTree t cl, aProg p cl'] H fun r H' => ∃ xl c2, r = .agg [xl, I (resSp (runP t p)).ed, I (resSp (runP t p)).val, .vsl ((resSp (runP t p)).heap.map rFault) c2] ∧ Grow rI 1 3 H H' xl (resSp (runP t p)).log := by
  obtain ⟨h1, h2, h3, h4, h5, h6⟩ := validP_forest hv
  have hgo := runP_goes hv
  have hgl := hgo.len
  have hat := at_top h2
  have hcs := cost_small h3 h6
  have hlen : ((0 + (forestP p).size : Nat) : Int) = (p.length : Int) := by omega
  refine acalls_of1 Tryz.func39 rfl (by kernel_rfl) rfl rfl (awp_sound (fz := fun r => if r = 2 then [6] else if r = 5 then [8] else []) (im := fun s => s == 2 || s == 12) mixed _ _ _ _ (by kernel_rfl) ?_)
  simp +contextual -dsimp -implicitDefEqProofs (maxSteps := 5000000) only [go_sem, reduceIte, reduceCtorEq, Nat.reduceEqDiff, Nat.reduceBEq, Nat.reduceAdd, Nat.reduceLeDiff, Nat.reduceMul, Nat.reduceLT, Int.reduceEq, Int.reduceLT, Int.reduceLE]
  rintro b4 hb4 bs ⟨n1, n2, hbs⟩
  have hM : StS (H.set b4 ⟨4, 34, [[.vsl [] true, I 0, I 0, .vsl [] true]]⟩) ((H.set b4 ⟨4, 34, [[.vsl [] true, I 0, I 0, .vsl [] true]]⟩).set bs ⟨4, 121, [[.vsl (t.map rClass) cl, aProg p cl', .vsl [] true, .vsl [] true]]⟩) bs t cl p cl' rs0 :=
    ⟨.vsl [] true, _, true, by rw [set_other n1]; exact hbs, grow_nil, by rw [set_other n1]; exact hbs, rfl⟩
  have key := c_sblkAll (cl := cl) (P := p) (clp := cl') h1 hp ((forestP p).size + 1) (forestP p) 0 0 (-1) rs0 _ _ bs false (by omega) hat h3 h4 (fsOk_nil t) (by show (-1 : Int) < 0; omega) (by show 0 + _ ≤ _; omega) (by show 0 + _ ≤ _; omega) hM
  rw [hlen, show ((0 : Nat) : Int) = 0 from rfl] at key
  have er : runF t (forestP p) 0 none (-1) rs0 = runP t p := rfl
  rw [er] at key
  generalize runP t p = r at key hgo hgl ⊢
  refine key.mono ?_
  rintro _ H2 ⟨rfl, hM2⟩
  obtain ⟨xl, G, clf, hF2, hg2, hb2, rfl⟩ := id hM2
  obtain ⟨G2, hg3, rfl, w4⟩ := grow_out hg2 hb4
  rw [set_none] at hb2
  obtain ⟨z1, z2, z3⟩ := hb2
  obtain ⟨q1, q2⟩ := one_grow hg3
  simp +contextual -dsimp -implicitDefEqProofs (maxSteps := 5000000) only [go_sem, reduceIte, reduceCtorEq, Nat.reduceEqDiff, Nat.reduceBEq, Nat.reduceAdd, Nat.reduceLeDiff, Nat.reduceMul, Nat.reduceLT, Int.reduceEq, Int.reduceLT, Int.reduceLE, rEn, z1, z2, q1, q2]
  rintro b6 hb6
  refine draw_intro [0, 0, 0, 1, 0, 1, 0, 1, 0, 3, 2] _ (by kernel_rfl) (AHeap.le_refl _) ?_
  simp +contextual -dsimp -implicitDefEqProofs (maxSteps := 5000000) only [go_sem, reduceIte, reduceCtorEq, Nat.reduceEqDiff, Nat.reduceBEq, Nat.reduceAdd, Nat.reduceLeDiff, Nat.reduceMul, Nat.reduceLT, Int.reduceEq, Int.reduceLT, Int.reduceLE, rEn, z1, z2, q1, q2]
  rintro b7 ⟨d1, d2, d3, d4, m7⟩
  have hle : ∀ K K7, AHeap.le ((G2.set b4 K).set bs ⟨4, 121, [[.vsl (t.map rClass) cl, aProg p cl', xl, .vsl (r.2.fs.map rFault) clf]]⟩) (((G2.set b4 K).set bs ⟨4, 121, [[.vsl (t.map rClass) cl, aProg p cl', xl, .vsl (r.2.fs.map rFault) clf]]⟩).set b7 K7) := fun K K7 => le_set (by rw [set_other d1, set_other d3]; exact m7)
  refine ⟨hle _ _, ?_⟩
  have hle2 : ∀ K S K7, AHeap.le G2 (((G2.set b4 K).set bs S).set b7 K7) := fun K S K7 => AHeap.le_trans (AHeap.le_trans (le_set w4) (le_set (by rw [set_other n1]; exact z3))) (le_set (by rw [set_other d1, set_other d3]; exact m7))
  refine ⟨fun e2 => ?_, fun e2 => ?_⟩
  · have fin : ∀ H', ACalls Tryz.prog 83 [aHeap r.2.fs clf, I r.1.val] H' fun r0 H'' => r0 = .tup [.agg [.vsl ((isoL r.2.fs (sortedF (dchF r.2.fs r.1.val))).map rFault) false], I (idxF (fun x => decide (r.1.val = x)) (sortedF (dchF r.2.fs r.1.val)))] ∧ H'' = H' := fun H' => acalls_opn (c_isolated r.2.fs clf r.1.val _ (by have : (rs0 : RS).fs.length = 0 := rfl; omega) hgo.ok.ho (hgo.val e2).2 (dch_ok hgo.ok.ho (hgo.val e2).2) (dch_len (hgo.val e2).2 (by have : (rs0 : RS).fs.length = 0 := rfl; omega)))
    refine draw_introQ [6] [0, 0, 0, 1, 0, 1, 4, 0, 0, 0, 3, 2, 0] (fun _ => .tup [.agg [.vsl ((isoL r.2.fs (sortedF (dchF r.2.fs r.1.val))).map rFault) false], I (idxF (fun x => decide (r.1.val = x)) (sortedF (dchF r.2.fs r.1.val)))]) _ (by kernel_rfl) (AHeap.le_refl _) ?_
    simp +contextual -dsimp -implicitDefEqProofs (maxSteps := 5000000) only [go_sem, reduceIte, reduceCtorEq, Nat.reduceEqDiff, Nat.reduceBEq, Nat.reduceAdd, Nat.reduceLeDiff, Nat.reduceMul, Nat.reduceLT, Int.reduceEq, Int.reduceLT, Int.reduceLE, rEn, z1, z2, q1, q2, d1, d2, d3, d4]
    refine ⟨fun H' _ => fin H', ?_⟩
    rintro b8 ⟨f1, f2, f3, f4, f5, f6, m8⟩
    refine ⟨le_set (by rw [set_other f1, set_other f3, set_other f5]; exact m8), ?_⟩
    have hr : resSp r = ⟨r.2.log, 2, idxF (fun x => decide (r.1.val = x)) (sortedF (dchF r.2.fs r.1.val)), isoL r.2.fs (sortedF (dchF r.2.fs r.1.val))⟩ := by unfold resSp; rw [if_pos e2]
    refine retR_less (l := [.agg [xl, I (resSp r).ed, I (resSp r).val, .vsl ((resSp r).heap.map rFault) false]]) (H' := G2) ?_ (hle2 _ _ _) ⟨xl, false, rfl, ?_⟩
    · rw [hr]
      simp only [resA, go_sem, reduceIte, reduceCtorEq, Nat.reduceEqDiff, Nat.reduceBEq, Nat.reduceAdd, Nat.reduceLeDiff, Nat.reduceMul, Nat.reduceLT, Int.reduceEq, Int.reduceLT, Int.reduceLE, rEn, n1, n2, d1, d2, d3, d4, e2]
    · rw [hr]; exact hg3
  · refine retR_less (l := [.agg [xl, I (resSp r).ed, I (resSp r).val, .vsl ((resSp r).heap.map rFault) true]]) (H' := G2) ?_ (hle2 _ _ _) ⟨xl, true, rfl, ?_⟩
    · have hr : resSp r = ⟨r.2.log, r.1.ed, r.1.val, []⟩ := by unfold resSp; rw [if_neg e2]
      rw [hr]
      simp only [resA, go_sem, reduceIte, reduceCtorEq, Nat.reduceEqDiff, Nat.reduceBEq, Nat.reduceAdd, Nat.reduceLeDiff, Nat.reduceMul, Nat.reduceLT, Int.reduceEq, Int.reduceLT, Int.reduceLE, rEn, n1, n2, d1, d2, d3, d4]
      try rfl
    · have hr : resSp r = ⟨r.2.log, r.1.ed, r.1.val, []⟩ := by unfold resSp; rw [if_neg e2]
      rw [hr]; exact hg3
end
section
open Go Go.Sim
set_option maxRecDepth 100000

/-- Openings and closings of a log, what is open first: the innermost thing first. -/
def scanB : List Int → List Int → Option (List Int)
  | st, [] => some st
  | st, x :: r => if 200 ≤ x then (match st with | [] => none | y :: st => if y = x - 200 then scanB st r else none) else if 100 ≤ x then scanB ((x - 100) :: st) r else scanB st r
def Bal (l : List Int) : Prop := (∀ st m, scanB st (l ++ m) = scanB st m) ∧ ∀ x ∈ l, 0 ≤ x ∧ x < 1000
theorem bal_nil : Bal [] := ⟨fun _ _ => rfl, fun x h => by cases h⟩
theorem Bal.app {l m : List Int} (h : Bal l) (g : Bal m) : Bal (l ++ m) := ⟨fun st r => by rw [List.append_assoc, h.1, g.1], fun x hx => (List.mem_append.1 hx).elim (h.2 x) (g.2 x)⟩
theorem bal_one {x : Int} (h0 : 0 ≤ x) (h : x < 100) : Bal [x] := ⟨fun st m => by
  show scanB st (x :: m) = _
  simp only [scanB]; rw [if_neg (by omega), if_neg (by omega)], fun y hy => by rw [List.mem_singleton] at hy; omega⟩
theorem Bal.wrap {l : List Int} (h : Bal l) {a : Int} (h0 : 0 ≤ a) (h1 : a < 100) : Bal ([100 + a] ++ (l ++ [200 + a])) := by
  refine ⟨fun st m => ?_, fun x hx => ?_⟩
  rotate_left
  · simp only [List.mem_append, List.mem_singleton] at hx
    rcases hx with rfl | hx | rfl
    · omega
    · exact h.2 x hx
    · omega
  show scanB st ((100 + a) :: ((l ++ [200 + a]) ++ m)) = _
  simp only [scanB]
  rw [if_neg (by omega), if_pos (by omega), List.append_assoc, h.1]
  show scanB _ ((200 + a) :: m) = _
  simp only [scanB]
  rw [if_pos (by omega), if_pos (by omega)]
def LogB (s s' : RS) : Prop := ∃ l, s'.log = s.log ++ l ∧ Bal l
theorem LogB.same {s s' : RS} (h : s'.log = s.log) : LogB s s' := ⟨[], by simp [h], bal_nil⟩
theorem LogB.trans {s s' s'' : RS} (h : LogB s s') (g : LogB s' s'') : LogB s s'' := by
  obtain ⟨l, e1, b1⟩ := h
  obtain ⟨m, e2, b2⟩ := g
  exact ⟨l ++ m, by rw [e2, e1, List.append_assoc], b1.app b2⟩
theorem logB_jump (s : RS) (k : Int) (i : Nat) : LogB s (s.jump k i) := by unfold RS.jump; split <;> exact .same rfl
theorem logB_lineS {t : List Class} {k a b h : Int} (hn : numOk t k a b = true) (s : RS) : LogB s (lineS k a b h s).2 := by
  unfold lineS
  split
  · rename_i k1
    have ha := hn
    unfold numOk at ha
    rw [if_pos (.inl k1), Bool.and_eq_true] at ha
    simp only [inR, Bool.and_eq_true, decide_eq_true_eq] at ha
    exact ⟨[a], rfl, bal_one (by omega) (by omega)⟩
  · split
    · exact .same rfl
    · split
      · split <;> exact .same rfl
      · split
        · exact .same rfl
        · split
          · exact .same rfl
          · split <;> exact .same rfl
theorem logB_loop {body : RS → En × RS} (hb : ∀ s, LogB s (body s).2) : ∀ (n : Nat) (s : RS), LogB s (loopS body n s).2
  | 0, s => .same rfl
  | n + 1, s => by
    simp only [loopS]
    split
    · exact hb s
    · split
      · exact hb s
      · exact (hb s).trans (logB_loop hb n _)
theorem bal_run {t : List Class} : ∀ (f : Fo) (i : Nat) (pd : Option (En × En)) (d h : Int) (s : RS), numsF t f d = true → LogB s (runF t f i pd h s).2 := by
  intro f
  induction f with
  | nil =>
    intro i pd d h s _
    cases pd with
    | none => exact .same rfl
    | some q => simp only [runF]; split <;> exact .same rfl
  | node k a b kids rest ihk ihr =>
    intro i pd d h s hn
    obtain ⟨n1, n2, n3, n4, n5⟩ := numsF_node hn
    have hline : LogB s ((fun r : En × RS => if r.1.ed = 0 then runF t rest (i + 1 + kids.size) none h r.2 else r) (lineR k a b i h (fun s => runF t kids (i + 1) none h s) s)).2 := by
      have h1 : LogB s (lineR k a b i h (fun s => runF t kids (i + 1) none h s) s).2 := by
        unfold lineR
        split
        · rename_i k11
          have ha := n1
          unfold numOk at ha
          rw [if_neg (by omega), if_neg (by omega), if_neg (by omega), if_pos k11, Bool.and_eq_true] at ha
          simp only [inR, Bool.and_eq_true, decide_eq_true_eq] at ha
          obtain ⟨l, e1, b1⟩ := ihk (i + 1) none (d + 1) h (s.tell (100 + a)) n4
          refine ⟨_, ?_, b1.wrap (a := a) (by omega) (by omega)⟩
          show (runF t kids (i + 1) none h (s.tell (100 + a))).2.log ++ [200 + a] = _
          rw [e1]
          simp [RS.tell]
        · split
          · exact logB_loop (fun s => ihk (i + 1) none (d + 1) h s n4) _ _
          · exact (logB_jump s k i).trans (logB_lineS n1 _)
      generalize lineR k a b i h (fun s => runF t kids (i + 1) none h s) s = r at h1 ⊢
      show LogB s (if r.1.ed = 0 then runF t rest (i + 1 + kids.size) none h r.2 else r).2
      split
      · exact h1.trans (ihr _ none d h r.2 n5)
      · exact h1
    have go : ∀ (g : Int) (st : En) (e : En → En), LogB s ((fun r : En × RS => runF t rest (i + 1 + kids.size) (some (st, e r.1)) h r.2) (runF t kids (i + 1) none g s)).2 := by
      intro g st e
      have h1 := ihk (i + 1) none (d + 1) g s n4
      exact h1.trans (ihr _ _ d h _ n5)
    have htry : LogB s ((fun r : En × RS => runF t rest (i + 1 + kids.size) (some (r.1, r.1)) h r.2) (runF t kids (i + 1) none h s)).2 := by
      have h1 := ihk (i + 1) none (d + 1) h s n4
      exact h1.trans (ihr _ _ d h _ n5)
    cases pd with
    | none =>
      simp only [runF]
      split
      · exact htry
      · exact hline
    | some q =>
      simp only [runF]
      by_cases hk : followsK k = true
      · simp only [hk, if_true]
        split
        · split
          · exact go q.1.val ⟨-1, 0⟩ (fun e => e)
          · exact ihr _ _ d h s n5
        · split
          · split
            · exact go h q.1 (fun e => e)
            · exact ihr _ _ d h s n5
          · exact go _ q.1 (fun e => if e.ed = 0 then q.2 else e)
      · rw [if_neg hk]
        split
        · split
          · exact htry
          · exact hline
        · exact .same rfl
/-- A run closes all that it opens. -/
theorem closed_law {t : List Class} {p : List Line} (h : ValidP t p) : scanB [] (resOf (runP t p)).log = some [] := by
  obtain ⟨h1, h2, h3, h4, h5, h6⟩ := validP_forest h
  obtain ⟨l, e1, b1⟩ := bal_run (forestP p) 0 none 0 (-1) rs0 h3
  have e : (resOf (runP t p)).log = l := by
    have : (resOf (runP t p)).log = (runP t p).2.log := by unfold resOf; split <;> rfl
    rw [this]
    show (runF t (forestP p) 0 none (-1) rs0).2.log = l
    rw [e1]; rfl
  have := b1.1 [] []
  rw [List.append_nil] at this
  rw [e, this]; rfl
theorem closed_bnd {t : List Class} {p : List Line} (h : ValidP t p) : ∀ x ∈ (resOf (runP t p)).log, 0 ≤ x ∧ x < 1000 := by
  obtain ⟨h1, h2, h3, h4, h5, h6⟩ := validP_forest h
  obtain ⟨l, e1, b1⟩ := bal_run (forestP p) 0 none 0 (-1) rs0 h3
  have e : (resOf (runP t p)).log = l := by
    have : (resOf (runP t p)).log = (runP t p).2.log := by unfold resOf; split <;> rfl
    rw [this]
    show (runF t (forestP p) 0 none (-1) rs0).2.log = l
    rw [e1]; rfl
  rw [e]; exact b1.2
end
section
open Go Go.Sim
set_option maxRecDepth 100000
set_option maxHeartbeats 4000000

theorem top_same {t : List Class} {p : List Line} (h : ValidP t p) : resSp (runP t p) = resOf (runP t p) := by
  have hgo := runP_goes h
  unfold resSp resOf
  split
  · rename_i e2
    rw [sort_same hgo.ok.ho (hgo.val e2).1 (hgo.val e2).2]
  · rfl
theorem c_sRunProgram (t : List Class) (cl : Bool) (p : List Line) (cl' : Bool) (H : AHeap) (hn : namesOk t) (hp : p.length ≤ 4398046511104) :
    ACalls Tryz.prog 12 [aTree t cl, aProg p cl'] H fun r H' => (∃ c1 c2, r = aRes (if validB t p = true then resOf (runP t p) else res0) c1 c2) ∧ H' = H := by
  refine acalls_of1 Tryz.func12 rfl (by kernel_rfl) rfl rfl (awp_sound (fz := fun _ => []) (im := fun s => s == 2) mixed _ _ _ _ (by kernel_rfl) ?_)
  simp +contextual -dsimp -implicitDefEqProofs (maxSteps := 5000000) only [go_sem, reduceIte, reduceCtorEq, Nat.reduceEqDiff, Nat.reduceBEq, Nat.reduceAdd, Nat.reduceLeDiff, Nat.reduceMul, Nat.reduceLT, Int.reduceEq, Int.reduceLT, Int.reduceLE]
  intro b6 hb6
  refine (c_svalidProgram t cl p cl' _ hn hp).det ?_
  cases hv : validB t p
  · simp +contextual -dsimp -implicitDefEqProofs (maxSteps := 5000000) only [go_sem, reduceIte, reduceCtorEq, Nat.reduceEqDiff, Nat.reduceBEq, Nat.reduceAdd, Nat.reduceLeDiff, Nat.reduceMul, Nat.reduceLT, Int.reduceEq, Int.reduceLT, Int.reduceLE]
    refine retR_less (l := [.agg [.vsl [] true, I 0, I 0, .vsl [] true]]) (H' := H) ?_ (le_set hb6) ⟨⟨true, true, rfl⟩, rfl⟩
    simp only [resA, go_sem, reduceIte, reduceCtorEq, Nat.reduceEqDiff, Nat.reduceBEq, Nat.reduceAdd, Nat.reduceLeDiff, Nat.reduceMul, Nat.reduceLT, Int.reduceEq, Int.reduceLT, Int.reduceLE]
  · simp +contextual -dsimp -implicitDefEqProofs (maxSteps := 5000000) only [go_sem, reduceIte, reduceCtorEq, Nat.reduceEqDiff, Nat.reduceBEq, Nat.reduceAdd, Nat.reduceLeDiff, Nat.reduceMul, Nat.reduceLT, Int.reduceEq, Int.reduceLT, Int.reduceLE]
    have hval := validB_true.1 hv
    have key : ∀ H, ACalls Tryz.prog 39 [aTree t cl, aProg p cl'] H fun r H' => (∃ c1 c2, r = aRes (resOf (runP t p)) c1 c2) ∧ H' = H := fun H => by
      refine acalls_fz (c_srun t cl p cl' H hp hval) ?_
      rintro _ H' ⟨xl, c2, rfl, hg⟩
      obtain ⟨c1, hz⟩ := grow_fz hg
      rw [top_same hval] at hz ⊢
      exact ⟨_, H, grow_le hg, fz_agg (.cons hz (.refl _)), ⟨c1, c2, rfl⟩, rfl⟩
    refine (key _).mono ?_
    rintro _ _ ⟨⟨c1, c2, rfl⟩, rfl⟩
    simp +contextual -dsimp -implicitDefEqProofs (maxSteps := 5000000) only [go_sem, reduceIte, reduceCtorEq, Nat.reduceEqDiff, Nat.reduceBEq, Nat.reduceAdd, Nat.reduceLeDiff, Nat.reduceMul, Nat.reduceLT, Int.reduceEq, Int.reduceLT, Int.reduceLE]
    refine retR_less (l := [aRes (resOf (runP t p)) c1 c2]) (H' := H) ?_ (le_set hb6) ⟨⟨c1, c2, rfl⟩, rfl⟩
    simp only [resA, go_sem, reduceIte, reduceCtorEq, Nat.reduceEqDiff, Nat.reduceBEq, Nat.reduceAdd, Nat.reduceLeDiff, Nat.reduceMul, Nat.reduceLT, Int.reduceEq, Int.reduceLT, Int.reduceLE]
theorem res_len2 {t : List Class} {p : List Line} (h : ValidP t p) : (resOf (runP t p)).log.length ≤ 34992 := by
  have := (runP_goes h).len
  have e : (resOf (runP t p)).log = (runP t p).2.log := by unfold resOf; split <;> rfl
  rw [e]
  have : (rs0 : RS).log.length = 0 := rfl
  omega
/-- What the law's stack holds. -/
def StackB (H H' : AHeap) (x : AV) (st : List Int) : Prop :=
  (st = [] ∧ x = .vsl [] true ∧ H' = H) ∨ ∃ bo cl es, H bo = none ∧ x = .sl bo 1 0 st.length cl ∧ H' = H.set bo ⟨1, 3, es⟩ ∧ es.take st.length = st.reverse.map rI ∧ st.length ≤ es.length
theorem app_stack {H0 H : AHeap} {x : AV} {st : List Int} {y : Int} {row : AV} {cl : Bool} {K : AV → AHeap → Prop} {g : Tag (H, K)} (hS : StackB H0 H x st) (hb : st.length ≤ 1000000) (he : row = I y) (k : ∀ x' H', StackB H0 H' x' (y :: st) → K x' H') : appT Tryz.prog H 29 x (.vsl [[row]] cl) K g := by
  subst he
  show appendA Tryz.prog H 29 x (.vsl [[I y]] cl) K
  have hmax : maxLen = 9223372036854775807 := rfl
  have hti : tinfo Tryz.prog 3 = some _ := ti3
  unfold appendA
  simp only [te29, ti3, rowsOf]
  refine ⟨by decide, fun r hr => by simp at hr; subst hr; rfl, ?_⟩
  rcases hS with ⟨rfl, rfl, rfl⟩ | ⟨b, cl', es, hb0, rfl, rfl, h1, h2⟩
  · simp only [List.length_nil, Nat.zero_add, List.length_singleton]
    refine ⟨fun r hr => by simp at hr, by omega, by omega, fun e => (by cases e), fun e => ⟨trivial, fun b' hb' => ?_⟩⟩
    exact k _ _ (.inr ⟨b', false, [[I y]], hb', rfl, rfl, rfl, by simp⟩)
  · simp only [AHeap.set_self, List.length_singleton]
    refine ⟨trivial, trivial, trivial, trivial, h2, by omega, by omega, fun b' hb' => ?_⟩
    rw [set_del hb0] at hb' ⊢
    refine k _ _ (.inr ⟨b', false, es.take st.length ++ [[I y]], hb', rfl, rfl, ?_, by simp; omega⟩)
    rw [h1, List.take_of_length_le (by simp)]
    simp [rI]
end
section
open Go Go.Sim
set_option maxRecDepth 100000
set_option maxHeartbeats 4000000

theorem c_LawRunProgramOpen (bs : List UInt8) (cb : Bool) (H : AHeap) : ACalls Tryz.prog 3 [.vsl (bs.map rU) cb] H fun r H' => r = B true ∧ H' = H := by
  have ers : ∀ R : Res, resEq R R = true := fun R => by simp [resEq]
  refine acalls_of1 Tryz.func3 rfl (by kernel_rfl) rfl rfl (awp_sound (fz := fun r => if r = 3 then [3] else if r = 4 then [5] else []) (im := fun s => s == 38 || s == 75) mixed _ _ _ _ (by kernel_rfl) ?_)
  simp +contextual -dsimp -implicitDefEqProofs (maxSteps := 5000000) only [go_sem, reduceIte, reduceCtorEq, Nat.reduceEqDiff, Nat.reduceBEq, Nat.reduceAdd, Nat.reduceLeDiff, Nat.reduceMul, Nat.reduceLT, Int.reduceEq, Int.reduceLT, Int.reduceLE]
  refine ⟨fun hbig => ?_, fun hsmall => ?_⟩
  · refine retR_less (l := [B true]) (H' := H) ?_ (AHeap.le_refl _) ⟨rfl, rfl⟩
    simp only [resA, go_sem, reduceIte, reduceCtorEq, Nat.reduceEqDiff, Nat.reduceBEq, Nat.reduceAdd, Nat.reduceLeDiff, Nat.reduceMul, Nat.reduceLT, Int.reduceEq, Int.reduceLT, Int.reduceLE]
  refine (c_DrawRunProgram H bs cb).mono ?_
  rintro _ H1 ⟨t, cl, p, cl', rfl, hH, hs, ht8, hp24⟩
  rw [hH]
  have hn := short_ok hs
  have hp : p.length ≤ 4398046511104 := by omega
  have k1 := fun H => own_frz (c_mRunProgram t cl p cl' H hn hp)
  have k2 := fun H => c_sRunProgram t cl p cl' H hn hp
  have hRv : ValidP t p → (if validB t p = true then resOf (runP t p) else res0) = resOf (runP t p) := fun h => by rw [if_pos (validB_true.2 h)]
  generalize (if validB t p = true then resOf (runP t p) else res0) = R at k1 k2 hRv
  simp +contextual -dsimp -implicitDefEqProofs (maxSteps := 5000000) only [go_sem, reduceIte, reduceCtorEq, Nat.reduceEqDiff, Nat.reduceBEq, Nat.reduceAdd, Nat.reduceLeDiff, Nat.reduceMul, Nat.reduceLT, Int.reduceEq, Int.reduceLT, Int.reduceLE]
  intro b3 hb3
  refine (k1 _).mono ?_
  rintro _ H ⟨⟨c3, c4, rfl⟩, rfl⟩
  simp +contextual -dsimp -implicitDefEqProofs (maxSteps := 5000000) only [go_sem, reduceIte, reduceCtorEq, Nat.reduceEqDiff, Nat.reduceBEq, Nat.reduceAdd, Nat.reduceLeDiff, Nat.reduceMul, Nat.reduceLT, Int.reduceEq, Int.reduceLT, Int.reduceLE]
  intro b5 hb5
  refine draw_intro [1, 0, 0, 3, 2, 0, 0, 0, 0, 2, 0, 0] AHeap.none (by kernel_rfl) none_le ?_
  simp +contextual -dsimp -implicitDefEqProofs (maxSteps := 5000000) only [go_sem, reduceIte, reduceCtorEq, Nat.reduceEqDiff, Nat.reduceBEq, Nat.reduceAdd, Nat.reduceLeDiff, Nat.reduceMul, Nat.reduceLT, Int.reduceEq, Int.reduceLT, Int.reduceLE]
  refine (k2 _).mono ?_
  rintro _ H ⟨⟨c5, c6, rfl⟩, rfl⟩
  simp +contextual -dsimp -implicitDefEqProofs (maxSteps := 5000000) only [go_sem, reduceIte, reduceCtorEq, Nat.reduceEqDiff, Nat.reduceBEq, Nat.reduceAdd, Nat.reduceLeDiff, Nat.reduceMul, Nat.reduceLT, Int.reduceEq, Int.reduceLT, Int.reduceLE]
  refine (c_equalResult _ _ _ _ _ _ _).det ?_
  rw [ers]
  simp +contextual -dsimp -implicitDefEqProofs (maxSteps := 5000000) only [go_sem, reduceIte, reduceCtorEq, Nat.reduceEqDiff, Nat.reduceBEq, Nat.reduceAdd, Nat.reduceLeDiff, Nat.reduceMul, Nat.reduceLT, Int.reduceEq, Int.reduceLT, Int.reduceLE]
  refine (c_ValidProgram t cl p cl' _ hn hp).det ?_
  cases hv : validB t p
  · simp +contextual -dsimp -implicitDefEqProofs (maxSteps := 5000000) only [go_sem, reduceIte, reduceCtorEq, Nat.reduceEqDiff, Nat.reduceBEq, Nat.reduceAdd, Nat.reduceLeDiff, Nat.reduceMul, Nat.reduceLT, Int.reduceEq, Int.reduceLT, Int.reduceLE]
    refine draw_intro [1, 0, 0, 3, 2, 0] AHeap.none (by kernel_rfl) none_le ?_
    simp +contextual -dsimp -implicitDefEqProofs (maxSteps := 5000000) only [go_sem, reduceIte, reduceCtorEq, Nat.reduceEqDiff, Nat.reduceBEq, Nat.reduceAdd, Nat.reduceLeDiff, Nat.reduceMul, Nat.reduceLT, Int.reduceEq, Int.reduceLT, Int.reduceLE]
    refine (k2 _).mono ?_
    rintro _ H ⟨⟨c7, c8, rfl⟩, rfl⟩
    simp +contextual -dsimp -implicitDefEqProofs (maxSteps := 5000000) only [go_sem, reduceIte, reduceCtorEq, Nat.reduceEqDiff, Nat.reduceBEq, Nat.reduceAdd, Nat.reduceLeDiff, Nat.reduceMul, Nat.reduceLT, Int.reduceEq, Int.reduceLT, Int.reduceLE]
    refine (c_equalResult _ _ _ _ _ _ _).det ?_
    rw [ers]
    simp +contextual -dsimp -implicitDefEqProofs (maxSteps := 5000000) only [go_sem, reduceIte, reduceCtorEq, Nat.reduceEqDiff, Nat.reduceBEq, Nat.reduceAdd, Nat.reduceLeDiff, Nat.reduceMul, Nat.reduceLT, Int.reduceEq, Int.reduceLT, Int.reduceLE]
    refine retR_less (l := [B true]) (H' := H) ?_ (AHeap.le_refl _) ⟨rfl, rfl⟩
    simp only [resA, go_sem, reduceIte, reduceCtorEq, Nat.reduceEqDiff, Nat.reduceBEq, Nat.reduceAdd, Nat.reduceLeDiff, Nat.reduceMul, Nat.reduceLT, Int.reduceEq, Int.reduceLT, Int.reduceLE]
  · have hval := validB_true.1 hv
    have hcl := closed_law hval
    have hbd := closed_bnd hval
    have hl := res_len2 hval
    rw [← hRv hval] at hcl hbd hl
    simp +contextual -dsimp -implicitDefEqProofs (maxSteps := 5000000) only [go_sem, reduceIte, reduceCtorEq, Nat.reduceEqDiff, Nat.reduceBEq, Nat.reduceAdd, Nat.reduceLeDiff, Nat.reduceMul, Nat.reduceLT, Int.reduceEq, Int.reduceLT, Int.reduceLE]
    refine aloop mixed (fz := fun r => if r = 3 then [3] else if r = 4 then [5] else []) (im := fun s => s == 38 || s == 75) (by kernel_rfl) (fun m tm H' => ∃ (k : Nat) (st : List Int), m = R.log.length - k ∧ k ≤ R.log.length ∧ st.length ≤ k ∧ StackB H H' (tm 6) st ∧ scanB st (R.log.drop k) = some [] ∧ tm 5 = .vptr [[.vsl (R.log.map rI) c3, I R.ed, I R.val, .vsl (R.heap.map rFault) c4]] 0 0 ∧ tm 7 = I k) R.log.length ⟨0, [], by omega, by omega, by simp, .inl ⟨rfl, rfl, rfl⟩, hcl, ?_⟩ ?_
    · simp +contextual -dsimp -implicitDefEqProofs (maxSteps := 5000000) only [go_sem, reduceIte, reduceCtorEq, Nat.reduceEqDiff, Nat.reduceBEq, Nat.reduceAdd, Nat.reduceLeDiff, Nat.reduceMul, Nat.reduceLT, Int.reduceEq, Int.reduceLT, Int.reduceLE]
    · rintro m tm H' ⟨k, st, rfl, hk, hst, hS, hsc, t5, t7⟩
      by_cases hlt : k < R.log.length
      · have hd : R.log.drop k = R.log.getD k default :: R.log.drop (k + 1) := by rw [List.getD_eq_getElem?_getD, List.getElem?_eq_getElem hlt]; exact List.drop_eq_getElem_cons hlt
        rw [hd] at hsc
        have hx := hbd (R.log.getD k default) (by rw [List.getD_eq_getElem?_getD, List.getElem?_eq_getElem hlt]; exact List.getElem_mem hlt)
        obtain ⟨x, hxe⟩ : ∃ x, R.log.getD k default = x := ⟨_, rfl⟩
        rw [hxe] at hx hsc
        have hwk : AV.lit (Value.int IntKind.i64 (IntKind.i64.wrap (k + 1))) = I ((k + 1 : Nat) : Int) := I_wrap (by omega) (by omega) (by omega)
        have hw1 : IntKind.i64.wrap (x - 100) = x - 100 := w64 (by omega) (by omega)
        have hw2 : IntKind.i64.wrap (x - 200) = x - 200 := w64 (by omega) (by omega)
        have hS0 := hS
        rcases hS with ⟨rfl, t6, rfl⟩ | ⟨bo, clo, es, hbo, t6, rfl, hes, hel⟩
        · simp +contextual -dsimp -implicitDefEqProofs (maxSteps := 5000000) only [go_sem, reduceIte, reduceCtorEq, Nat.reduceEqDiff, Nat.reduceBEq, Nat.reduceAdd, Nat.reduceLeDiff, Nat.reduceMul, Nat.reduceLT, Int.reduceEq, Int.reduceLT, Int.reduceLE, t5, t6, t7, hlt, hxe, hw1, hw2]
          refine ⟨fun q => ?_, fun q => ⟨fun q1 => ?_, fun q1 => ?_⟩⟩
          · unfold scanB at hsc; rw [if_pos q] at hsc; cases hsc
          · unfold scanB at hsc; rw [if_neg q, if_pos q1] at hsc
            rw [t6] at hS0
            refine app_stack hS0 (by simp) rfl fun x' H2 hS2 => ?_
            simp +contextual -dsimp -implicitDefEqProofs (maxSteps := 5000000) only [go_sem, reduceIte, reduceCtorEq, Nat.reduceEqDiff, Nat.reduceBEq, Nat.reduceAdd, Nat.reduceLeDiff, Nat.reduceMul, Nat.reduceLT, Int.reduceEq, Int.reduceLT, Int.reduceLE, t5, t6, t7, hlt, hxe]
            exact ⟨_, by omega, k + 1, [x - 100], rfl, hlt, by simp, hS2, hsc, hwk⟩
          · unfold scanB at hsc; rw [if_neg q, if_neg q1] at hsc
            exact ⟨_, by omega, k + 1, [], rfl, hlt, by simp, .inl ⟨rfl, rfl, rfl⟩, hsc, hwk⟩
        · simp +contextual -dsimp -implicitDefEqProofs (maxSteps := 5000000) only [go_sem, reduceIte, reduceCtorEq, Nat.reduceEqDiff, Nat.reduceBEq, Nat.reduceAdd, Nat.reduceLeDiff, Nat.reduceMul, Nat.reduceLT, Int.reduceEq, Int.reduceLT, Int.reduceLE, t5, t6, t7, hlt, hxe, hw1, hw2]
          refine ⟨fun q => ?_, fun q => ⟨fun q1 => ?_, fun q1 => ?_⟩⟩
          · cases st with
            | nil => unfold scanB at hsc; rw [if_pos q] at hsc; cases hsc
            | cons y st =>
              unfold scanB at hsc; rw [if_pos q] at hsc
              have hy : y = x - 200 := by
                by_cases h : y = x - 200
                · exact h
                · simp only [h, if_false] at hsc; cases hsc
              simp only [hy, if_true] at hsc
              have hl3 : (y :: st).length = st.length + 1 := rfl
              have hw3 : IntKind.i64.wrap (((y :: st).length : Nat) - 1) = (st.length : Int) := by rw [hl3, w64 (by omega) (by omega)]; omega
              have hg1 : es[st.length]? = some [I y] := by
                have : (es.take (y :: st).length)[st.length]? = ((y :: st).reverse.map rI)[st.length]? := by rw [hes]
                rw [List.getElem?_take_of_lt (by simp)] at this
                rw [this]; simp [rI]
              have hg2 : es.take st.length = st.reverse.map rI := by
                have h5 : (es.take (y :: st).length).take st.length = ((y :: st).reverse.map rI).take st.length := by rw [hes]
                rw [List.take_take, hl3, Nat.min_eq_left (by omega)] at h5
                rw [h5]; simp
              rw [hw3]
              have nn : ¬ (st.length : Int) < 0 := by omega
              refine ⟨fun _ => ⟨by omega, by rw [hl3]; omega⟩, ?_⟩
              rw [hy] at hg1
              have hld : ldO Tryz.prog (some ⟨1, 3, es⟩) 3 1 st.length 0 = some (I (x - 200)) := by simp only [ldO, if_true, hg1, go_sem, reduceIte, reduceCtorEq, Nat.reduceEqDiff, Nat.reduceBEq, Nat.reduceAdd, Nat.reduceLeDiff, Nat.reduceMul, Nat.reduceLT, Int.reduceEq, Int.reduceLT, Int.reduceLE]
              have hsl : sliceA Tryz.prog 29 (.sl bo 1 0 (st.length + 1) clo) none (some (I st.length)) none = some (.sl bo 1 0 st.length (clipOf none (st.length : Int) ((st.length + 1 : Nat) : Int) clo)) := by
                unfold sliceA
                simp only [optInt, te29, ti3, Option.getD_some, Option.getD_none]
                rw [if_pos (by simp; omega)]
                simp
              simp +contextual -dsimp -implicitDefEqProofs (maxSteps := 5000000) only [go_sem, reduceIte, reduceCtorEq, Nat.reduceEqDiff, Nat.reduceBEq, Nat.reduceAdd, Nat.reduceLeDiff, Nat.reduceMul, Nat.reduceLT, Int.reduceEq, Int.reduceLT, Int.reduceLE, t5, t6, t7, hlt, hxe, nn, hld, hw2, hsl, decide_false, Bool.not_false, Int.toNat_natCast]
              exact ⟨_, by omega, k + 1, st, rfl, hlt, by rw [hl3] at hst; omega, .inr ⟨bo, _, es, hbo, rfl, rfl, hg2, by rw [hl3] at hel; omega⟩, hsc, hwk⟩
          · unfold scanB at hsc; rw [if_neg q, if_pos q1] at hsc
            rw [t6] at hS0
            refine app_stack hS0 (by omega) rfl fun x' H2 hS2 => ?_
            simp +contextual -dsimp -implicitDefEqProofs (maxSteps := 5000000) only [go_sem, reduceIte, reduceCtorEq, Nat.reduceEqDiff, Nat.reduceBEq, Nat.reduceAdd, Nat.reduceLeDiff, Nat.reduceMul, Nat.reduceLT, Int.reduceEq, Int.reduceLT, Int.reduceLE, t5, t6, t7, hlt, hxe]
            exact ⟨_, by omega, k + 1, (x - 100) :: st, rfl, hlt, by simp; omega, hS2, hsc, hwk⟩
          · unfold scanB at hsc; rw [if_neg q, if_neg q1] at hsc
            exact ⟨_, by omega, k + 1, st, rfl, hlt, by omega, .inr ⟨bo, clo, es, hbo, rfl, rfl, hes, hel⟩, hsc, hwk⟩
      · have hk2 : R.log.drop k = [] := List.drop_eq_nil_of_le (by omega)
        rw [hk2] at hsc
        have hst0 : st = [] := by simpa [scanB] using hsc
        subst hst0
        rcases hS with ⟨_, t6, rfl⟩ | ⟨bo, clo, es, hbo, t6, rfl, hes, hel⟩
        · simp +contextual -dsimp -implicitDefEqProofs (maxSteps := 5000000) only [go_sem, reduceIte, reduceCtorEq, Nat.reduceEqDiff, Nat.reduceBEq, Nat.reduceAdd, Nat.reduceLeDiff, Nat.reduceMul, Nat.reduceLT, Int.reduceEq, Int.reduceLT, Int.reduceLE, t5, t6, t7, hlt]
          refine retR_less (l := [B true]) (H' := H') ?_ (AHeap.le_refl _) ⟨rfl, rfl⟩
          simp only [resA, go_sem, reduceIte, reduceCtorEq, Nat.reduceEqDiff, Nat.reduceBEq, Nat.reduceAdd, Nat.reduceLeDiff, Nat.reduceMul, Nat.reduceLT, Int.reduceEq, Int.reduceLT, Int.reduceLE]
        · simp +contextual -dsimp -implicitDefEqProofs (maxSteps := 5000000) only [go_sem, reduceIte, reduceCtorEq, Nat.reduceEqDiff, Nat.reduceBEq, Nat.reduceAdd, Nat.reduceLeDiff, Nat.reduceMul, Nat.reduceLT, Int.reduceEq, Int.reduceLT, Int.reduceLE, t5, t6, t7, hlt]
          refine retR_less (l := [B true]) (H' := H) ?_ (le_set hbo) ⟨rfl, rfl⟩
          simp only [resA, go_sem, reduceIte, reduceCtorEq, Nat.reduceEqDiff, Nat.reduceBEq, Nat.reduceAdd, Nat.reduceLeDiff, Nat.reduceMul, Nat.reduceLT, Int.reduceEq, Int.reduceLT, Int.reduceLE]
end
end
end Go.Proofs.YtckipeopgimenaaGreat
