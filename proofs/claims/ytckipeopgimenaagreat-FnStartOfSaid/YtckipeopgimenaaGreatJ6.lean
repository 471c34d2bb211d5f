/- Walks and plain laws that the claims of this seat lean on. No condition. -/
import Derived.Test.YtckipeopgimenaaGreatJ5
import Derived.Test.YtckipeopgimenaaGreatJ4
set_option linter.unusedVariables false
set_option linter.unusedSimpArgs false
namespace Go.Proofs.YtckipeopgimenaaGreat
open Go Go.Sim
section
set_option maxRecDepth 100000
attribute [local go_sem ↓] aw_skip aw_ret aw_exit aw_region aw_draw aw_seq aw_block aw_loop aw_cond frz_nil frz_cons sq_normal sq_ret sq_exit exB_normal exB_ret exB_same exB_other retQ_ret retQ_normal ret0_ret ret0_normal ao_nil go1 g_move g_assign g_pick g_build g_load g_binOp g_unOp g_convert g_fieldAddr g_field g_indexAddr g_index g_extract g_lookup g_slice g_nilCheck g_len g_makeFunc h_call h_append h_alloc h_box h_buildSlice h_makeSlice h_store gV i_box i_buildSlice i_move i_assign i_build i_load i_binOp i_unOp i_convert i_fieldAddr i_field i_indexAddr i_index i_extract i_lookup i_makeMap i_mapUpdate i_slice i_nilCheck i_makeFunc i_len i_max i_min i_alloc i_makeSlice i_store i_append i_call i_pick boxI boxA buildSliceI buildSliceA makeSliceA makeMapA allocA storeA p_move p_assign p_pick p_build p_load p_binOp p_unOp p_convert p_fieldAddr p_field p_indexAddr p_index p_extract p_lookup p_makeMap p_mapUpdate p_slice p_nilCheck p_makeFunc p_len p_max p_min p_alloc p_box p_buildSlice p_makeSlice p_store p_append p_call x_nil x_go1 x_g0 x_g1 x_g2 x_g3 x_s0 x_s1 x_s2 x_s3 u_move u_assign u_pick u_build u_load u_binOp u_unOp u_convert u_fieldAddr u_field u_indexAddr u_index u_extract u_lookup u_slice u_nilCheck u_makeFunc u_len u_buildSlice x_s4 x_g4 rq_normal rq_ret rq_exit aw_range
attribute [local go_sem] frzV_sl frzK_some set_none set_other AHeap.set_self set_del set_set cnd_t cnd_f cnd_b retA_one retA_two retA_three retA_four retA_nil gIf_b mrgV_b mrgV_wh mrgV_U gIf_U gIf_wh mrgB_f mrgB_some mrgB_if wh_true wh_false keepA_some keepA_if gD_zero gD_succ gT_some bxA_t bxA_f callA_fn ev_tmp ev_const ev_global ev_func oc_bool oc_int oc_string oc_nil oc_nilptr oc_nilfunc cl_bool cl_int cl_string cl_nil updO_some updO_none upd_same upd_other init_at pickA_b pickA_wh selA_t selA_f selA_and selA_or selA_orn selA_orm selA_bb selA_ii beqt b_add b_sub b_mul b_and b_or b_xor b_eql b_neq b_lss b_leq b_gtr b_geq b_quo b_rem b_shr b_seql b_sneq b_sadd b_beql b_bneq b_aeql b_aneq u_not u_neg isConstOp eqA eqCellV List.getD_cons_zero List.getD_cons_succ List.map_cons List.map_nil List.nil_append List.cons_append List.append_nil if_true if_false Option.map_some Option.map_none ne_eq not_false_eq_true oneA ldv ld1v ld1s wr1s ldRow stRow row_lit row_agg row_vsl row_sl row_ptr row_fn one_I one_B one_S one_vsl one_sl one_ptr one_fn extractA okA rI rS rU rClass rFault rExit rStart rLine Int.toNat_natCast List.length_cons List.length_nil List.length_map List.all_cons List.all_nil Bool.and_true Nat.zero_add List.getElem?_cons_zero List.getElem?_cons_succ List.take_succ_cons List.take_zero List.drop_succ_cons List.drop_zero and_self true_and and_true implies_true decide_eq_true_eq decide_eq_false_iff_not Bool.or_eq_true Bool.or_eq_false_iff Bool.and_eq_true Bool.not_eq_true' Bool.not_eq_false' beq_false decide_true decide_false Int.ofNat_lt Int.ofNat_le Int.natCast_nonneg Bool.or_true Bool.or_false Bool.true_or Bool.false_or beq_self_eq_true List.drop_one Bool.not_true Bool.not_false Bool.not_not Bool.false_eq_true Bool.true_eq_false false_implies true_implies Bool.true_and Bool.false_and Bool.and_false not_true_eq_false Int.natCast_eq_zero Int.natCast_pos Int.natCast_zero false_and and_false or_false false_or or_true true_or Bool.or_self none_le_iff List.replicate_zero Int.toNat_zero List.replicate_succ buildRows List.set_cons_zero List.set_cons_succ List.set_nil List.mapM_nil maxLen_eq Nat.zero_le Nat.mul_one Nat.one_mul bldA fillA spliceA List.take_nil List.drop_nil List.getElem?_nil ld1o wr1o bldSliceA le_same cv_i cvI_t quietT_fn qvd_some ld_o ldO_1 ldO_l wr_o wrO_1 set_2 set_3 set_4 putL_nil putL_cons List.zip_cons_cons List.zip_nil_left List.zip_nil_right List.toList_toArray frzV_set ti1 ti2 tk2 ti3 te3 ts3 tk3 tz3 ti4 tb4 ti5 tk5 tz5 ti9 te9 ts9 tk9 tz9 ti12 tk12 ti13 tp13 tf13_0 tf13_1 ti20 ti21 tk21 tz21 ti22 te22 tz22 ti23 te23 ti24 tp24 tf24_0 ti25 tp25 tf25_0 ti26 te26 ti28 ti29 te29 ti30 te30 ti31 tp31 tf31_0 ti32 tp32 tf32_0 ti33 tp33 tf33_0 tf33_1 tf33_2 tf33_3 ti34 tp34 tf34_0 tf34_1 tf34_2 tf34_3 ti35 ti36 ti37 ti38 ti40 ti42 ti43 ti44 tq44 tp44 tf44_0 tf44_1 tf44_2 ti45 tq45 tp45 tf45_0 tf45_1 tf45_2 ti47 ti48 ti49 tq49 tp49 tf49_0 tf49_1 tf49_2 tf49_3 ti50 tq50 tp50 tf50_0 tf50_1 tf50_2 tf50_3 ti51 ti52 ti54 ti55 ti56 ti57 te57 ti59 ti60 ti61 ti62 ti63 ti64 ti65 ti66 ti67 ti68 tq68 tp68 tf68_0 tf68_1 ti69 tq69 tp69 tf69_0 tf69_1 ti70 ti71 ti72 ti73 ti74 ti75 ti77 ti78 ti79 ti80 ti81 ti82 ti83 ti84 ti85 tq85 tp85 tf85_0 tf85_1 tf85_2 tf85_3 tf85_4 ti86 tq86 tp86 tf86_0 tf86_1 tf86_2 tf86_3 tf86_4 ti87 ti88 ti89 ti90 ti91 ti93 ti94 ti95 ti96 ti97 tq97 tp97 tf97_0 tf97_1 tf97_2 ti98 tq98 tp98 tf98_0 tf98_1 tf98_2 ti99 ti100 ti101 ti102 ti103 ti104 ti105 ti106 ti107 tp107 tf107_0 tf107_1 ti108 tp108 tf108_0 tf108_1 ti109 tp109 tf109_0 tf109_1 tf109_2 tf109_3 tf109_4 ti110 tp110 tf110_0 tf110_1 tf110_2 tf110_3 tf110_4 ti111 ti113 ti114 ti115 ti116 ti117 ti118 ti119 ti120 tp120 tf120_0 tf120_1 tf120_2 tf120_3 ti121 tp121 tf121_0 tf121_1 tf121_2 tf121_3 ti122 tq122 tp122 tf122_0 tf122_1 ti123 tq123 tp123 tf123_0 tf123_1 ti124 ti125 ti126 tq126 tp126 tf126_0 tf126_1 ti127 tq127 tp127 tf127_0 tf127_1 ti128 ti129 ti130 ti131 ti132 ti133 te133 ti134 ti135 ti136 ti137 ti138 ti139 ti140 ti141 ti142 ti143 ti144 tp144 tf144_0 tf144_1 tf144_2 ti145 tp145 tf145_0 tf145_1 tf145_2 ti146 ti147 ti148 ti149 ti150 te150 ti151 ti152 ti153 ti154 ti155 ti156 ti157 ti158 ti159 ti160 ti161 ti162 ti163 ti164 ti165 ti166 ti167 ti168 ti169 ti170 ti171 ti172 ti173 ti174 ti175 tk175 tz175 ti176 ti177 ti178 ti179 ti180 tk180 ti182 ti183 ti184 ti186 ti187 ti188 tk188 tz188 ti189 ti190 tk190 tz190 ti191 tk191 ti192 ti193 ti194 ti195 ti196 ti197 ti199 ti200 ti206 ti210 ti215 fp13_0 fv13_0 fp13_1 fv13_1 fp24_0 fv24_0 fp25_0 fv25_0 fp31_0 fv31_0 fp32_0 fv32_0 fp33_0 fv33_0 fp33_1 fv33_1 fp33_2 fv33_2 fp33_3 fv33_3 fp34_0 fv34_0 fp34_1 fv34_1 fp34_2 fv34_2 fp34_3 fv34_3 fp44_0 fv44_0 fp44_1 fv44_1 fp44_2 fv44_2 fp45_0 fv45_0 fp45_1 fv45_1 fp45_2 fv45_2 fp49_0 fv49_0 fp49_1 fv49_1 fp49_2 fv49_2 fp49_3 fv49_3 fp50_0 fv50_0 fp50_1 fv50_1 fp50_2 fv50_2 fp50_3 fv50_3 fp68_0 fv68_0 fp68_1 fv68_1 fp69_0 fv69_0 fp69_1 fv69_1 fp85_0 fv85_0 fp85_1 fv85_1 fp85_2 fv85_2 fp85_3 fv85_3 fp85_4 fv85_4 fp86_0 fv86_0 fp86_1 fv86_1 fp86_2 fv86_2 fp86_3 fv86_3 fp86_4 fv86_4 fp97_0 fv97_0 fp97_1 fv97_1 fp97_2 fv97_2 fp98_0 fv98_0 fp98_1 fv98_1 fp98_2 fv98_2 fp107_0 fv107_0 fp107_1 fv107_1 fp108_0 fv108_0 fp108_1 fv108_1 fp109_0 fv109_0 fp109_1 fv109_1 fp109_2 fv109_2 fp109_3 fv109_3 fp109_4 fv109_4 fp110_0 fv110_0 fp110_1 fv110_1 fp110_2 fv110_2 fp110_3 fv110_3 fp110_4 fv110_4 fp120_0 fv120_0 fp120_1 fv120_1 fp120_2 fv120_2 fp120_3 fv120_3 fp121_0 fv121_0 fp121_1 fv121_1 fp121_2 fv121_2 fp121_3 fv121_3 fp122_0 fv122_0 fp122_1 fv122_1 fp123_0 fv123_0 fp123_1 fv123_1 fp126_0 fv126_0 fp126_1 fv126_1 fp127_0 fv127_0 fp127_1 fv127_1 fp144_0 fv144_0 fp144_1 fv144_1 fp144_2 fv144_2 fp145_0 fv145_0 fp145_1 fv145_1 fp145_2 fv145_2 lv22 ll22 is22 ix22 sh22 so22 sb22 sm22 sp22 lv23 ll23 is23 ix23 sh23 so23 sb23 sm23 sp23 lv26 ll26 is26 ix26 sh26 so26 sb26 sm26 sp26 lv29 ll29 is29 ix29 sh29 so29 sb29 sm29 sp29 lv30 ll30 is30 ix30 sh30 so30 sb30 sm30 sp30 lv57 ll57 is57 ix57 sh57 so57 sb57 sm57 sp57 lv133 ll133 is133 sp133 lv150 ll150 is150 ix150 sh150 so150 sb150 sm150 sp150 xs9 ls9 sx9 sy9 sz9
section
open Go Go.Sim
set_option maxRecDepth 100000
set_option maxHeartbeats 4000000

/-- What a run of the reference has done so far, beside other blocks. -/
def StS (F H : AHeap) (bs : Nat) (t : List Class) (cl : Bool) (P : List Line) (clp : Bool) (s : RS) : Prop :=
  ∃ (xl : AV) (G : AHeap) (clf : Bool), F bs = none ∧ Grow rI 1 3 F G xl s.log ∧ G bs = none ∧ H = G.set bs ⟨4, 121, [[.vsl (t.map rClass) cl, aProg P clp, xl, .vsl (s.fs.map rFault) clf]]⟩
section
variable {F H : AHeap} {bs c : Nat} {t : List Class} {cl : Bool} {P : List Line} {clp : Bool} {s : RS} {K : ABlk}
theorem sts_in (hM : StS F H bs t cl P clp s) (hc : H c = none) : StS (F.set c K) (H.set c K) bs t cl P clp s := by
  obtain ⟨xl, G, clf, hF, hg, hb, rfl⟩ := hM
  rw [set_none] at hc
  exact ⟨xl, G.set c K, clf, by rw [set_other (Ne.symm hc.1)]; exact hF, grow_in hg hc.2.2, by rw [set_other (Ne.symm hc.1)]; exact hb, set_comm (Ne.symm hc.1)⟩
theorem sts_out (hM : StS (F.set c K) H bs t cl P clp s) (hc : F c = none) : ∃ H', H = H'.set c K ∧ StS F H' bs t cl P clp s ∧ H' c = none := by
  obtain ⟨xl, G, clf, hF, hg, hb, rfl⟩ := hM
  obtain ⟨G1, k1, rfl, k2⟩ := grow_out hg hc
  rw [set_none] at hF hb
  refine ⟨G1.set bs ⟨4, 121, [[.vsl (t.map rClass) cl, aProg P clp, xl, .vsl (s.fs.map rFault) clf]]⟩, set_comm hF.2.1, ⟨xl, G1, clf, hF.2.2, k1, hb.2.2, rfl⟩, ?_⟩
  rw [set_other hF.2.1]; exact k2
theorem sts_none (hM : StS F H bs t cl P clp s) (hc : H c = none) : F c = none := by
  obtain ⟨xl, G, clf, hF, hg, hb, rfl⟩ := hM
  rw [set_none] at hc
  exact grow_none hg hc.2.2
/-- The log grows. -/
theorem sts_app1 {a : Int} {xl : AV} {log : List Int} {G : AHeap} {M C : ABlk} {cla : Bool} {Kt : AV → AHeap → Prop} {g : Tag ((G.set bs M).set c C, Kt)} (hg1 : Grow rI 1 3 F G xl log) (hb : G bs = none) (hcb : ¬ c = bs) (hc : G c = none) (hl : log.length < 1000000)
    (k : ∀ x' G', Grow rI 1 3 F G' x' (log ++ [a]) → G' bs = none → G' c = none → x'.row = [x'] ∧ x'.one = true → Kt x' ((G'.set bs M).set c C)) :
    appT Tryz.prog ((G.set bs M).set c C) 29 xl (.vsl [[I a]] cla) Kt g := by
  refine grow_append (m := [a]) te29 ti3 rI_len (by decide) (grow_in (grow_in hg1 hb) (by rw [set_other hcb]; exact hc)) (by simp; omega) (by simp; omega) rfl fun x' H' hg' => ?_
  have hFc : F c = none := grow_none hg1 hc
  have hFb : F bs = none := grow_none hg1 hb
  obtain ⟨G', k1, rfl, k2⟩ := grow_out hg' (by rw [set_other hcb]; exact hFc)
  obtain ⟨G2, k3, rfl, k4⟩ := grow_out k1 hFb
  rw [set_other hcb] at k2
  exact k x' G2 k3 k4 k2 (one_grow k3)
end
theorem c_sraise {t : List Class} {cl : Bool} {P : List Line} {clp : Bool} {s : RS} {F H : AHeap} {bs : Nat} (c d g : Int) (hM : StS F H bs t cl P clp s) (hl : s.fs.length ≤ 999998) (ho : heapOk s.fs) (hg : g < s.fs.length) :
    ACalls Tryz.prog 154 [.ptr bs 4 0 0, I c, I d, I g] H fun r H' => r = .agg [I 2, I s.fs.length] ∧ StS F H' bs t cl P clp (s.raise c d g) := by
  obtain ⟨xl, G, clf, hF, hg1, hb, rfl⟩ := hM
  obtain ⟨r1, r2⟩ := one_grow hg1
  refine acalls_of1 Tryz.func154 rfl (by kernel_rfl) rfl rfl (awp_sound (fz := fun _ => []) (im := fun _ => false) mixed _ _ _ _ (by kernel_rfl) ?_)
  simp +contextual -dsimp -implicitDefEqProofs (maxSteps := 5000000) only [go_sem, reduceIte, reduceCtorEq, Nat.reduceEqDiff, Nat.reduceBEq, Nat.reduceAdd, Nat.reduceLeDiff, Nat.reduceMul, Nat.reduceLT, Int.reduceEq, Int.reduceLT, Int.reduceLE]
  rintro b8 ⟨n1, n2, n8⟩
  refine (c_added s.fs clf c d _ (by omega)).mono ?_
  rintro _ H9 ⟨⟨cl1, rfl⟩, hH9⟩
  subst hH9
  simp +contextual -dsimp -implicitDefEqProofs (maxSteps := 5000000) only [go_sem, reduceIte, reduceCtorEq, Nat.reduceEqDiff, Nat.reduceBEq, Nat.reduceAdd, Nat.reduceLeDiff, Nat.reduceMul, Nat.reduceLT, Int.reduceEq, Int.reduceLT, Int.reduceLE, n1, n2, r1, r2]
  have e1 : ((s.fs ++ [(⟨c, d, -1, -1, false⟩ : Fault)]).length : Int) - 1 = s.fs.length := by simp
  rw [e1, w64 (by omega) (by omega)]
  refine (c_raised _ cl1 s.fs.length g _ (by simp; omega) (heapOk_snoc ho rfl (by simp) (by simp; omega)) (by simp) hg).mono ?_
  rintro _ H9 ⟨⟨cl2, rfl⟩, hH9⟩
  subst hH9
  rw [setCtx_raise]
  simp +contextual -dsimp -implicitDefEqProofs (maxSteps := 5000000) only [go_sem, reduceIte, reduceCtorEq, Nat.reduceEqDiff, Nat.reduceBEq, Nat.reduceAdd, Nat.reduceLeDiff, Nat.reduceMul, Nat.reduceLT, Int.reduceEq, Int.reduceLT, Int.reduceLE, n1, n2, r1, r2, e1]
  refine retR_less (l := [.agg [I 2, I s.fs.length]]) (H' := G.set bs _) ?_ (le_set (by rw [set_other n1]; exact n8)) ⟨rfl, ⟨xl, G, cl2, hF, hg1, hb, rfl⟩⟩
  simp only [resA, go_sem, reduceIte, reduceCtorEq, Nat.reduceEqDiff, Nat.reduceBEq, Nat.reduceAdd, Nat.reduceLeDiff, Nat.reduceMul, Nat.reduceLT, Int.reduceEq, Int.reduceLT, Int.reduceLE, n1, n2]
/-- Shorter lists of lines can be run. -/
def SBlkOk (t : List Class) (cl : Bool) (P : List Line) (clp : Bool) (n : Nat) : Prop :=
  ∀ (f : Fo) (i : Nat) (d h : Int) (s : RS) (F H : AHeap) (bs : Nat) (lp : Bool), f.size < n → At P i d f → numsF t f d = true → okF f lp false = true → FsOk t s.fs → h < s.fs.length → s.log.length + cost f ≤ 900000 → s.fs.length + cost f ≤ 900000 → StS F H bs t cl P clp s →
    ACalls Tryz.prog 82 [.ptr bs 4 0 0, I i, I (i + f.size : Nat), I h] H fun r H' => r = .agg (rEn (runF t f i none h s).1) ∧ StS F H' bs t cl P clp (runF t f i none h s).2
theorem c_sbody {t : List Class} {cl : Bool} {P : List Line} {clp : Bool} {n : Nat} (ih : SBlkOk t cl P clp n) {i : Nat} {d k a b h : Int} {kids rest : Fo} {s : RS} {F H : AHeap} {bs : Nat} {lp : Bool}
    (hn : kids.size < n) (hat : At P i d (.node k a b kids rest)) (hk : numsF t kids (d + 1) = true) (hok : okF kids lp false = true) (hs : FsOk t s.fs) (hh : h < s.fs.length) (hl : s.log.length + cost kids ≤ 900000) (hf : s.fs.length + cost kids ≤ 900000) (hM : StS F H bs t cl P clp s) (hp : P.length ≤ 4398046511104) :
    ACalls Tryz.prog 165 [.ptr bs 4 0 0, I i, I h] H fun r H' => r = .agg (rEn (runF t kids (i + 1) none h s).1) ∧ StS F H' bs t cl P clp (runF t kids (i + 1) none h s).2 := by
  have hi := hat.head.1
  have hw : IntKind.i64.wrap ((i : Int) + 1) = ((i + 1 : Nat) : Int) := by rw [w64 (by omega) (by omega)]; rfl
  obtain ⟨xl, G, clf, hF, hg1, hb, rfl⟩ := id hM
  refine acalls_of1 Tryz.func165 rfl (by kernel_rfl) rfl rfl (awp_sound (fz := fun _ => []) (im := fun _ => false) mixed _ _ _ _ (by kernel_rfl) ?_)
  simp +contextual -dsimp -implicitDefEqProofs (maxSteps := 5000000) only [go_sem, reduceIte, reduceCtorEq, Nat.reduceEqDiff, Nat.reduceBEq, Nat.reduceAdd, Nat.reduceLeDiff, Nat.reduceMul, Nat.reduceLT, Int.reduceEq, Int.reduceLT, Int.reduceLE, hw]
  rintro b6 ⟨n1, n2, hn2⟩
  have hb6 : ∀ K, (G.set bs K) b6 = none := fun K => by rw [set_other n1]; exact hn2
  refine (c_blockEnd P clp i _ hi).det ?_
  rw [hat.endP]
  simp +contextual -dsimp -implicitDefEqProofs (maxSteps := 5000000) only [go_sem, reduceIte, reduceCtorEq, Nat.reduceEqDiff, Nat.reduceBEq, Nat.reduceAdd, Nat.reduceLeDiff, Nat.reduceMul, Nat.reduceLT, Int.reduceEq, Int.reduceLT, Int.reduceLE, hw, n1, n2]
  refine (ih kids (i + 1) (d + 1) h s _ _ bs lp hn hat.kids hk hok hs hh hl hf (sts_in (K := ⟨2, 123, [[I 0, I 0]]⟩) hM (hb6 _))).mono ?_
  rintro _ H3 ⟨rfl, hM3⟩
  obtain ⟨H4, rfl, hM4, hn4⟩ := sts_out hM3 (sts_none hM (hb6 _))
  simp +contextual -dsimp -implicitDefEqProofs (maxSteps := 5000000) only [go_sem, reduceIte, reduceCtorEq, Nat.reduceEqDiff, Nat.reduceBEq, Nat.reduceAdd, Nat.reduceLeDiff, Nat.reduceMul, Nat.reduceLT, Int.reduceEq, Int.reduceLT, Int.reduceLE, rEn]
  refine retR_less (l := [.agg (rEn (runF t kids (i + 1) none h s).1)]) (H' := H4) ?_ (le_set hn4) ⟨rfl, hM4⟩
  simp only [resA, go_sem, reduceIte, reduceCtorEq, Nat.reduceEqDiff, Nat.reduceBEq, Nat.reduceAdd, Nat.reduceLeDiff, Nat.reduceMul, Nat.reduceLT, Int.reduceEq, Int.reduceLT, Int.reduceLE, rEn]
theorem c_swith {t : List Class} {cl : Bool} {P : List Line} {clp : Bool} {n : Nat} (ht : validT t = true) (ih : SBlkOk t cl P clp n) {i : Nat} {d a b h : Int} {kids rest : Fo} {s : RS} {F H : AHeap} {bs : Nat} {lp : Bool}
    (hn : kids.size < n) (hat : At P i d (.node 11 a b kids rest)) (hno : numOk t 11 a b = true) (hk : numsF t kids (d + 1) = true) (hok : okF kids lp false = true) (hs : FsOk t s.fs) (hh : h < s.fs.length) (hl : s.log.length + (2 + cost kids) ≤ 900000) (hf : s.fs.length + (2 + cost kids) ≤ 900000) (hM : StS F H bs t cl P clp s) (hp : P.length ≤ 4398046511104) :
    ACalls Tryz.prog 157 [.ptr bs 4 0 0, I i, I h] H fun r H' => r = .agg (rEn (withS a b (runF t kids (i + 1) none h (s.tell (100 + a)))).1) ∧ StS F H' bs t cl P clp (withS a b (runF t kids (i + 1) none h (s.tell (100 + a)))).2 := by
  have hi := hat.head.1
  have hx := hat.head.2
  have ha := hno
  unfold numOk at ha
  rw [if_neg (by omega), if_neg (by omega), if_neg (by omega), if_pos rfl, Bool.and_eq_true] at ha
  simp only [inR, Bool.and_eq_true, decide_eq_true_eq] at ha
  have hw1 : IntKind.i64.wrap (100 + a) = 100 + a := w64 (by omega) (by omega)
  have hw2 : IntKind.i64.wrap (200 + a) = 200 + a := w64 (by omega) (by omega)
  obtain ⟨xl, G, clf, hF, hg1, hb, rfl⟩ := id hM
  refine acalls_of1 Tryz.func157 rfl (by kernel_rfl) rfl rfl (awp_sound (fz := fun r => if r = 1 then [7] else if r = 3 then [8] else []) (im := fun _ => false) mixed _ _ _ _ (by kernel_rfl) ?_)
  simp +contextual -dsimp -implicitDefEqProofs (maxSteps := 5000000) only [go_sem, reduceIte, reduceCtorEq, Nat.reduceEqDiff, Nat.reduceBEq, Nat.reduceAdd, Nat.reduceLeDiff, Nat.reduceMul, Nat.reduceLT, Int.reduceEq, Int.reduceLT, Int.reduceLE]
  rintro b6 ⟨n1, n2, hn2⟩
  have hF6 : F b6 = none := grow_none hg1 hn2
  simp +contextual -dsimp -implicitDefEqProofs (maxSteps := 5000000) only [go_sem, reduceIte, reduceCtorEq, Nat.reduceEqDiff, Nat.reduceBEq, Nat.reduceAdd, Nat.reduceLeDiff, Nat.reduceMul, Nat.reduceLT, Int.reduceEq, Int.reduceLT, Int.reduceLE, hi, hx, n1, n2]
  rintro b7 hb7
  refine draw_intro [0, 0, 0, 0, 0, 0, 0, 0, 0, 2, 0, 0, 2] AHeap.none (by kernel_rfl) none_le ?_
  simp +contextual -dsimp -implicitDefEqProofs (maxSteps := 5000000) only [go_sem, reduceIte, reduceCtorEq, Nat.reduceEqDiff, Nat.reduceBEq, Nat.reduceAdd, Nat.reduceLeDiff, Nat.reduceMul, Nat.reduceLT, Int.reduceEq, Int.reduceLT, Int.reduceLE, hi, hx, n1, n2, hw1]
  refine sts_app1 hg1 hb n1 hn2 (by omega) fun x2 G2 y1 y3 y4 y5 => ?_
  obtain ⟨r1, r2⟩ := y5
  simp +contextual -dsimp -implicitDefEqProofs (maxSteps := 5000000) only [go_sem, reduceIte, reduceCtorEq, Nat.reduceEqDiff, Nat.reduceBEq, Nat.reduceAdd, Nat.reduceLeDiff, Nat.reduceMul, Nat.reduceLT, Int.reduceEq, Int.reduceLT, Int.reduceLE, n1, n2, r1, r2]
  have hMt : StS F (G2.set bs ⟨4, 121, [[.vsl (t.map rClass) cl, aProg P clp, x2, .vsl (s.fs.map rFault) clf]]⟩) bs t cl P clp (s.tell (100 + a)) := ⟨x2, G2, clf, hF, y1, y3, rfl⟩
  have hGb6 : (G2.set bs ⟨4, 121, [[.vsl (t.map rClass) cl, aProg P clp, x2, .vsl (s.fs.map rFault) clf]]⟩) b6 = none := by rw [set_other n1]; exact y4
  have tl : (s.tell (100 + a)).log.length = s.log.length + 1 := by simp [RS.tell]
  have hgo := goes_run ht kids (i + 1) none (d + 1) h (s.tell (100 + a)) hk hs hh trivial
  have hgl := hgo.len
  refine (c_sbody ih hn hat hk hok (s := s.tell (100 + a)) hs hh (by rw [tl]; omega) (by show s.fs.length + _ ≤ _; omega) (sts_in (K := ⟨2, 123, [[I 0, I 0]]⟩) hMt hGb6) hp).mono ?_
  rintro _ H3 ⟨rfl, hM3⟩
  generalize runF t kids (i + 1) none h (s.tell (100 + a)) = r at hM3 hgo hgl ⊢
  obtain ⟨H4, rfl, hM4, hn4⟩ := sts_out hM3 hF6
  obtain ⟨xl', G3, clf', hF', hg1', hb', rfl⟩ := id hM4
  have hn5 := hn4
  rw [set_none] at hn5
  have hn6 := hn5.2.2
  simp +contextual -dsimp -implicitDefEqProofs (maxSteps := 5000000) only [go_sem, reduceIte, reduceCtorEq, Nat.reduceEqDiff, Nat.reduceBEq, Nat.reduceAdd, Nat.reduceLeDiff, Nat.reduceMul, Nat.reduceLT, Int.reduceEq, Int.reduceLT, Int.reduceLE, rEn, n1, n2, hi, hx]
  rintro b8 hb8
  refine draw_intro [0, 0, 0, 0, 0, 0, 0, 0, 0, 2, 0, 0, 2] AHeap.none (by kernel_rfl) none_le ?_
  simp +contextual -dsimp -implicitDefEqProofs (maxSteps := 5000000) only [go_sem, reduceIte, reduceCtorEq, Nat.reduceEqDiff, Nat.reduceBEq, Nat.reduceAdd, Nat.reduceLeDiff, Nat.reduceMul, Nat.reduceLT, Int.reduceEq, Int.reduceLT, Int.reduceLE, rEn, n1, n2, hi, hx, hw2]
  refine sts_app1 hg1' hb' n1 hn6 (by omega) fun x3 G4 z1 z3 z4 z5 => ?_
  obtain ⟨q1, q2⟩ := z5
  simp +contextual -dsimp -implicitDefEqProofs (maxSteps := 5000000) only [go_sem, reduceIte, reduceCtorEq, Nat.reduceEqDiff, Nat.reduceBEq, Nat.reduceAdd, Nat.reduceLeDiff, Nat.reduceMul, Nat.reduceLT, Int.reduceEq, Int.reduceLT, Int.reduceLE, n1, n2, q1, q2]
  have hMf : StS F (G4.set bs ⟨4, 121, [[.vsl (t.map rClass) cl, aProg P clp, x3, .vsl (r.2.fs.map rFault) clf']]⟩) bs t cl P clp (r.2.tell (200 + a)) := ⟨x3, G4, clf', hF', z1, z3, rfl⟩
  have hGf : (G4.set bs ⟨4, 121, [[.vsl (t.map rClass) cl, aProg P clp, x3, .vsl (r.2.fs.map rFault) clf']]⟩) b6 = none := by rw [set_other n1]; exact z4
  unfold withS
  by_cases hc : r.1.ed = 2 ∧ b = 1
  · rw [if_pos hc]
    simp +contextual -dsimp -implicitDefEqProofs (maxSteps := 5000000) only [go_sem, reduceIte, reduceCtorEq, Nat.reduceEqDiff, Nat.reduceBEq, Nat.reduceAdd, Nat.reduceLeDiff, Nat.reduceMul, Nat.reduceLT, Int.reduceEq, Int.reduceLT, Int.reduceLE, n1, n2, q1, q2, hc.1, hc.2]
    refine retR_less (l := [.agg (rEn .next)]) (H' := G4.set bs _) ?_ (le_set hGf) ⟨rfl, hMf⟩
    simp only [resA, go_sem, reduceIte, reduceCtorEq, Nat.reduceEqDiff, Nat.reduceBEq, Nat.reduceAdd, Nat.reduceLeDiff, Nat.reduceMul, Nat.reduceLT, Int.reduceEq, Int.reduceLT, Int.reduceLE, rEn, En.next]
  · rw [if_neg hc]
    by_cases hc1 : r.1.ed = 2
    · have hc2 : ¬ b = 1 := fun q => hc ⟨hc1, q⟩
      simp +contextual -dsimp -implicitDefEqProofs (maxSteps := 5000000) only [go_sem, reduceIte, reduceCtorEq, Nat.reduceEqDiff, Nat.reduceBEq, Nat.reduceAdd, Nat.reduceLeDiff, Nat.reduceMul, Nat.reduceLT, Int.reduceEq, Int.reduceLT, Int.reduceLE, n1, n2, q1, q2, hc1, hc2]
      refine retR_less (l := [.agg (rEn r.1)]) (H' := G4.set bs _) ?_ (le_set hGf) ⟨rfl, hMf⟩
      simp only [resA, go_sem, reduceIte, reduceCtorEq, Nat.reduceEqDiff, Nat.reduceBEq, Nat.reduceAdd, Nat.reduceLeDiff, Nat.reduceMul, Nat.reduceLT, Int.reduceEq, Int.reduceLT, Int.reduceLE, rEn, hc1]
    · simp +contextual -dsimp -implicitDefEqProofs (maxSteps := 5000000) only [go_sem, reduceIte, reduceCtorEq, Nat.reduceEqDiff, Nat.reduceBEq, Nat.reduceAdd, Nat.reduceLeDiff, Nat.reduceMul, Nat.reduceLT, Int.reduceEq, Int.reduceLT, Int.reduceLE, n1, n2, q1, q2, hc1]
      refine retR_less (l := [.agg (rEn r.1)]) (H' := G4.set bs _) ?_ (le_set hGf) ⟨rfl, hMf⟩
      simp only [resA, go_sem, reduceIte, reduceCtorEq, Nat.reduceEqDiff, Nat.reduceBEq, Nat.reduceAdd, Nat.reduceLeDiff, Nat.reduceMul, Nat.reduceLT, Int.reduceEq, Int.reduceLT, Int.reduceLE, rEn]
theorem c_sloop {t : List Class} {cl : Bool} {P : List Line} {clp : Bool} {n : Nat} (ht : validT t = true) (ih : SBlkOk t cl P clp n) {i : Nat} {d a b h : Int} {kids rest : Fo} {s : RS} {F H : AHeap} {bs : Nat} {lp : Bool}
    (hn : kids.size < n) (hat : At P i d (.node 12 a b kids rest)) (hno : numOk t 12 a b = true) (hk : numsF t kids (d + 1) = true) (hok : okF kids lp false = true) (hs : FsOk t s.fs) (hh : h < s.fs.length) (hl : s.log.length + (2 + a.toNat * cost kids) ≤ 900000) (hf : s.fs.length + (2 + a.toNat * cost kids) ≤ 900000) (hM : StS F H bs t cl P clp s) (hp : P.length ≤ 4398046511104) :
    ACalls Tryz.prog 158 [.ptr bs 4 0 0, I i, I h] H fun r H' => r = .agg (rEn (loopS (fun s => runF t kids (i + 1) none h s) a.toNat s).1) ∧ StS F H' bs t cl P clp (loopS (fun s => runF t kids (i + 1) none h s) a.toNat s).2 := by
  have hi := hat.head.1
  have hx := hat.head.2
  have ha := hno
  unfold numOk at ha
  rw [if_neg (by omega), if_neg (by omega), if_neg (by omega), if_neg (by omega), if_pos rfl, Bool.and_eq_true] at ha
  simp only [inR, Bool.and_eq_true, decide_eq_true_eq] at ha
  obtain ⟨xl, G, clf, hF, hg1, hb, rfl⟩ := id hM
  refine acalls_of1 Tryz.func158 rfl (by kernel_rfl) rfl rfl (awp_sound (fz := fun r => if r = 4 then [8] else []) (im := fun _ => false) mixed _ _ _ _ (by kernel_rfl) ?_)
  simp +contextual -dsimp -implicitDefEqProofs (maxSteps := 5000000) only [go_sem, reduceIte, reduceCtorEq, Nat.reduceEqDiff, Nat.reduceBEq, Nat.reduceAdd, Nat.reduceLeDiff, Nat.reduceMul, Nat.reduceLT, Int.reduceEq, Int.reduceLT, Int.reduceLE]
  rintro b6 ⟨n1, n2, hn2⟩
  have hF6 : F b6 = none := grow_none hg1 hn2
  simp +contextual -dsimp -implicitDefEqProofs (maxSteps := 5000000) only [go_sem, reduceIte, reduceCtorEq, Nat.reduceEqDiff, Nat.reduceBEq, Nat.reduceAdd, Nat.reduceLeDiff, Nat.reduceMul, Nat.reduceLT, Int.reduceEq, Int.reduceLT, Int.reduceLE, hi, hx, n1, n2]
  refine aloop mixed (fz := fun r => if r = 4 then [8] else []) (im := fun _ => false) (by kernel_rfl) (fun m tm H' => ∃ (s' : RS) (H'' : AHeap), m ≤ a.toNat ∧ H' = H''.set b6 ⟨2, 123, [[I 0, I 0]]⟩ ∧ H'' b6 = none ∧ StS F H'' bs t cl P clp s' ∧ FsOk t s'.fs ∧ s.fs.length ≤ s'.fs.length ∧ s'.fs.length ≤ s.fs.length + (a.toNat - m) * cost kids ∧ s'.log.length ≤ s.log.length + (a.toNat - m) * cost kids ∧ loopS (fun s => runF t kids (i + 1) none h s) a.toNat s = loopS (fun s => runF t kids (i + 1) none h s) m s' ∧ tm 0 = .ptr bs 4 0 0 ∧ tm 1 = I i ∧ tm 2 = I h ∧ tm 6 = .ptr b6 2 0 0 ∧ tm 7 = I m) a.toNat ⟨s, G.set bs _, Nat.le_refl _, rfl, by rw [set_other n1]; exact hn2, hM, hs, Nat.le_refl _, by omega, by omega, rfl, ?_⟩ ?_
  · simp +contextual -dsimp -implicitDefEqProofs (maxSteps := 5000000) only [go_sem, reduceIte, reduceCtorEq, Nat.reduceEqDiff, Nat.reduceBEq, Nat.reduceAdd, Nat.reduceLeDiff, Nat.reduceMul, Nat.reduceLT, Int.reduceEq, Int.reduceLT, Int.reduceLE, n1, n2]
    have e : a = ((a.toNat : Nat) : Int) := by omega
    rw [hx]
    exact congrArg I e
  · rintro m tm _ ⟨s', H'', hm, rfl, hb6, hM', hs', g1, g2, g3, he, t0, t1, t2, t6, t7⟩
    cases m with
    | zero =>
      have z : ¬ (0 : Int) < ((0 : Nat) : Int) := by omega
      simp +contextual -dsimp -implicitDefEqProofs (maxSteps := 5000000) only [go_sem, reduceIte, reduceCtorEq, Nat.reduceEqDiff, Nat.reduceBEq, Nat.reduceAdd, Nat.reduceLeDiff, Nat.reduceMul, Nat.reduceLT, Int.reduceEq, Int.reduceLT, Int.reduceLE, n1, n2, t0, t1, t2, t6, t7, z]
      rw [he]
      refine retR_less (l := [.agg (rEn .next)]) (H' := H'') ?_ (le_set hb6) ⟨rfl, hM'⟩
      simp only [resA, go_sem, reduceIte, reduceCtorEq, Nat.reduceEqDiff, Nat.reduceBEq, Nat.reduceAdd, Nat.reduceLeDiff, Nat.reduceMul, Nat.reduceLT, Int.reduceEq, Int.reduceLT, Int.reduceLE, rEn, En.next, t6]
    | succ m =>
      have z : (0 : Int) < ((m + 1 : Nat) : Int) := by omega
      have w1 : (a.toNat - (m + 1)) * cost kids + cost kids ≤ a.toNat * cost kids := by
        rw [← Nat.succ_mul]; exact Nat.mul_le_mul_right _ (by omega)
      have w2 : (a.toNat - m) * cost kids = (a.toNat - (m + 1)) * cost kids + cost kids := by
        rw [← Nat.succ_mul]; congr 1; omega
      simp +contextual -dsimp -implicitDefEqProofs (maxSteps := 5000000) only [go_sem, reduceIte, reduceCtorEq, Nat.reduceEqDiff, Nat.reduceBEq, Nat.reduceAdd, Nat.reduceLeDiff, Nat.reduceMul, Nat.reduceLT, Int.reduceEq, Int.reduceLT, Int.reduceLE, n1, n2, t0, t1, t2, t6, t7, z]
      have hgo := goes_run ht kids (i + 1) none (d + 1) h s' hk hs' (by omega) trivial
      have hgl := hgo.len
      refine (c_sbody ih hn hat hk hok (s := s') hs' (by omega) (by omega) (by omega) (sts_in (K := ⟨2, 123, [[I 0, I 0]]⟩) hM' hb6) hp).mono ?_
      rintro _ H3 ⟨rfl, hM3⟩
      simp only [loopS] at he
      generalize runF t kids (i + 1) none h s' = r at hM3 hgo hgl he ⊢
      obtain ⟨H4, rfl, hM4, hn4⟩ := sts_out hM3 hF6
      by_cases c3 : r.1.ed = 3
      · rw [if_neg (by omega), if_pos c3] at he
        simp +contextual -dsimp -implicitDefEqProofs (maxSteps := 5000000) only [go_sem, reduceIte, reduceCtorEq, Nat.reduceEqDiff, Nat.reduceBEq, Nat.reduceAdd, Nat.reduceLeDiff, Nat.reduceMul, Nat.reduceLT, Int.reduceEq, Int.reduceLT, Int.reduceLE, rEn, n1, n2, t0, t1, t2, t6, t7, c3]
        rintro b9 hb9
        rw [he]
        refine retR_less (l := [.agg (rEn .next)]) (H' := H4) ?_ (le_set hn4) ⟨rfl, hM4⟩
        simp only [resA, go_sem, reduceIte, reduceCtorEq, Nat.reduceEqDiff, Nat.reduceBEq, Nat.reduceAdd, Nat.reduceLeDiff, Nat.reduceMul, Nat.reduceLT, Int.reduceEq, Int.reduceLT, Int.reduceLE, rEn, En.next, t6]
      by_cases c1 : r.1.ed = 1
      · rw [if_pos (.inl c1)] at he
        simp +contextual -dsimp -implicitDefEqProofs (maxSteps := 5000000) only [go_sem, reduceIte, reduceCtorEq, Nat.reduceEqDiff, Nat.reduceBEq, Nat.reduceAdd, Nat.reduceLeDiff, Nat.reduceMul, Nat.reduceLT, Int.reduceEq, Int.reduceLT, Int.reduceLE, rEn, n1, n2, t0, t1, t2, t6, t7, c1]
        rintro b9 hb9
        rw [he]
        refine retR_less (l := [.agg (rEn r.1)]) (H' := H4) ?_ (le_set hn4) ⟨rfl, hM4⟩
        simp only [resA, go_sem, reduceIte, reduceCtorEq, Nat.reduceEqDiff, Nat.reduceBEq, Nat.reduceAdd, Nat.reduceLeDiff, Nat.reduceMul, Nat.reduceLT, Int.reduceEq, Int.reduceLT, Int.reduceLE, rEn, c1, t6]
      by_cases c2 : r.1.ed = 2
      · rw [if_pos (.inr c2)] at he
        simp +contextual -dsimp -implicitDefEqProofs (maxSteps := 5000000) only [go_sem, reduceIte, reduceCtorEq, Nat.reduceEqDiff, Nat.reduceBEq, Nat.reduceAdd, Nat.reduceLeDiff, Nat.reduceMul, Nat.reduceLT, Int.reduceEq, Int.reduceLT, Int.reduceLE, rEn, n1, n2, t0, t1, t2, t6, t7, c2]
        rintro b9 hb9
        rw [he]
        refine retR_less (l := [.agg (rEn r.1)]) (H' := H4) ?_ (le_set hn4) ⟨rfl, hM4⟩
        simp only [resA, go_sem, reduceIte, reduceCtorEq, Nat.reduceEqDiff, Nat.reduceBEq, Nat.reduceAdd, Nat.reduceLeDiff, Nat.reduceMul, Nat.reduceLT, Int.reduceEq, Int.reduceLT, Int.reduceLE, rEn, c2, t6]
      rw [if_neg (fun q => q.elim c1 c2), if_neg c3] at he
      simp +contextual -dsimp -implicitDefEqProofs (maxSteps := 5000000) only [go_sem, reduceIte, reduceCtorEq, Nat.reduceEqDiff, Nat.reduceBEq, Nat.reduceAdd, Nat.reduceLeDiff, Nat.reduceMul, Nat.reduceLT, Int.reduceEq, Int.reduceLT, Int.reduceLE, rEn, n1, n2, t0, t1, t2, t6, t7, c1, c2, c3]
      rintro b9 hb9
      exact ⟨m, by omega, r.2, H4, by omega, rfl, hn4, hM4, hgo.ok, by omega, by omega, by omega, he, I_wrap (by omega) (by omega) (by omega)⟩
end
section
open Go Go.Sim
set_option maxRecDepth 100000
set_option maxHeartbeats 4000000

/-- A line that goes on with a try, with what its block is worth. -/
structure ChainAt (t : List Class) (p : List Line) (d : Int) (lp : Bool) (f : Fo) (q : Nat) (k : Int) (ks : Fo) : Prop where
  at_ : ∃ a b re, At p q d (.node k a b ks re)
  small : ks.size < f.size
  nums : numsF t ks (d + 1) = true
  ok : okF ks lp false = true
  cost : cost ks ≤ Go.Proofs.YtckipeopgimenaaGreat.cost f
theorem chainAt_up {t : List Class} {p : List Line} {d : Int} {lp : Bool} {k' a b : Int} {kids rest : Fo} {q : Nat} {k : Int} {ks : Fo} (hk : k' ≠ 12) (h : ChainAt t p d lp rest q k ks) : ChainAt t p d lp (.node k' a b kids rest) q k ks :=
  ⟨h.at_, by have := h.small; simp only [Fo.size]; omega, h.nums, h.ok, by have := h.cost; rw [cost_node_le hk]; omega⟩
theorem chainAt_here {t : List Class} {p : List Line} {d : Int} {lp : Bool} {k a b : Int} {kids rest : Fo} {i : Nat} (hk : followsK k = true) (hat : At p i d (.node k a b kids rest)) (hn : numsF t (.node k a b kids rest) d = true) (hok : okF (.node k a b kids rest) lp true = true) :
    ChainAt t p d lp (.node k a b kids rest) i k kids := by
  obtain ⟨n1, n2, n3, n4, n5⟩ := numsF_node hn
  have hk' := hk
  simp only [followsK, inR, Bool.and_eq_true, decide_eq_true_eq] at hk'
  simp only [okF, hk, if_true, Bool.true_and, Bool.and_eq_true] at hok
  exact ⟨⟨a, b, rest, hat⟩, by simp only [Fo.size]; omega, n4, hok.1, by rw [cost_node_le (by omega)]; omega⟩
theorem okF_rest {k a b : Int} {kids rest : Fo} {lp : Bool} (hk : followsK k = true) (hok : okF (.node k a b kids rest) lp true = true) : okF rest lp true = true := by
  simp only [okF, hk, if_true, Bool.true_and, Bool.and_eq_true] at hok
  exact hok.2
theorem elseF_at {t : List Class} {p : List Line} {d : Int} {lp : Bool} : ∀ (f : Fo) (i q : Nat) (ks : Fo), At p i d f → numsF t f d = true → okF f lp true = true → elseF f i = some (q, ks) → ChainAt t p d lp f q 9 ks ∧ ∀ q' ks', lastB f i = some (q', 10, ks') → cost ks + cost ks' ≤ cost f
  | .nil, i, q, ks, _, _, _, h => by cases h
  | .node k a b kids rest, i, q, ks, hat, hn, hok, h => by
    simp only [elseF] at h
    split at h
    · rename_i hk
      have hk' := hk
      simp only [followsK, inR, Bool.and_eq_true, decide_eq_true_eq] at hk'
      obtain ⟨n1, n2, n3, n4, n5⟩ := numsF_node hn
      have hc := cost_node_le (k := k) (a := a) (b := b) (kids := kids) (rest := rest) (by omega)
      split at h
      · rename_i k9
        subst k9
        simp only [Option.some.injEq, Prod.mk.injEq] at h
        obtain ⟨rfl, rfl⟩ := h
        refine ⟨chainAt_here hk hat hn hok, fun q' ks' hl => ?_⟩
        simp only [lastB, hk, if_true] at hl
        cases hr : lastB rest (i + 1 + kids.size) with
        | none => rw [hr] at hl; simp at hl
        | some x =>
          rw [hr] at hl
          simp only [Option.some.injEq] at hl
          have := lastB_cost rest _ hr
          rw [hl] at this
          simp only at this
          omega
      · obtain ⟨h1, h2⟩ := elseF_at rest _ q ks hat.rest n5 (okF_rest hk hok) h
        refine ⟨chainAt_up (by omega) h1, fun q' ks' hl => ?_⟩
        have hcc := h1.cost
        simp only [lastB, hk, if_true] at hl
        cases hr : lastB rest (i + 1 + kids.size) with
        | none =>
          rw [hr] at hl
          simp only [Option.some.injEq, Prod.mk.injEq] at hl
          obtain ⟨_, _, rfl⟩ := hl
          omega
        | some x =>
          rw [hr] at hl
          have := h2 q' ks' (by rw [hr]; exact hl)
          omega
    · cases h
where
  lastB_cost {x : Nat × Int × Fo} : ∀ (f : Fo) (i : Nat), lastB f i = some x → Go.Proofs.YtckipeopgimenaaGreat.cost x.2.2 ≤ Go.Proofs.YtckipeopgimenaaGreat.cost f
    | .nil, i, h => by cases h
    | .node k a b kids rest, i, h => by
      simp only [lastB] at h
      split at h
      · rename_i hk
        have hk' := hk
        simp only [followsK, inR, Bool.and_eq_true, decide_eq_true_eq] at hk'
        have hc := cost_node_le (k := k) (a := a) (b := b) (kids := kids) (rest := rest) (by omega)
        cases hr : lastB rest (i + 1 + kids.size) with
        | none =>
          rw [hr] at h
          simp only [Option.some.injEq] at h
          subst h
          show cost kids ≤ _
          omega
        | some y =>
          rw [hr] at h
          simp only [Option.some.injEq] at h
          subst h
          have := lastB_cost rest _ hr
          omega
      · cases h
theorem catchF_at {t : List Class} {p : List Line} {d : Int} {lp : Bool} {c : Int} : ∀ (f : Fo) (i q : Nat) (ks : Fo), At p i d f → numsF t f d = true → okF f lp true = true → catchF t c f i = some (q, ks) → ChainAt t p d lp f q 8 ks ∧ ∀ q' ks', lastB f i = some (q', 10, ks') → cost ks + cost ks' ≤ cost f
  | .nil, i, q, ks, _, _, _, h => by cases h
  | .node k a b kids rest, i, q, ks, hat, hn, hok, h => by
    simp only [catchF] at h
    split at h
    · rename_i hk
      have hk' := hk
      simp only [followsK, inR, Bool.and_eq_true, decide_eq_true_eq] at hk'
      obtain ⟨n1, n2, n3, n4, n5⟩ := numsF_node hn
      have hc := cost_node_le (k := k) (a := a) (b := b) (kids := kids) (rest := rest) (by omega)
      split at h
      · rename_i k8
        obtain ⟨k8, _⟩ := k8
        subst k8
        simp only [Option.some.injEq, Prod.mk.injEq] at h
        obtain ⟨rfl, rfl⟩ := h
        refine ⟨chainAt_here hk hat hn hok, fun q' ks' hl => ?_⟩
        simp only [lastB, hk, if_true] at hl
        cases hr : lastB rest (i + 1 + kids.size) with
        | none => rw [hr] at hl; simp at hl
        | some x =>
          rw [hr] at hl
          simp only [Option.some.injEq] at hl
          have := elseF_at.lastB_cost rest _ hr
          rw [hl] at this
          simp only at this
          omega
      · obtain ⟨h1, h2⟩ := catchF_at rest _ q ks hat.rest n5 (okF_rest hk hok) h
        refine ⟨chainAt_up (by omega) h1, fun q' ks' hl => ?_⟩
        have hcc := h1.cost
        simp only [lastB, hk, if_true] at hl
        cases hr : lastB rest (i + 1 + kids.size) with
        | none =>
          rw [hr] at hl
          simp only [Option.some.injEq, Prod.mk.injEq] at hl
          obtain ⟨_, _, rfl⟩ := hl
          omega
        | some x =>
          rw [hr] at hl
          have := h2 q' ks' (by rw [hr]; exact hl)
          omega
    · cases h
theorem lastB_in {t : List Class} {p : List Line} {d : Int} {lp : Bool} : ∀ (f : Fo) (i q : Nat) (k : Int) (ks : Fo), At p i d f → numsF t f d = true → okF f lp true = true → lastB f i = some (q, k, ks) → ChainAt t p d lp f q k ks ∧ followsK k = true
  | .nil, i, q, k, ks, _, _, _, h => by cases h
  | .node k' a b kids rest, i, q, k, ks, hat, hn, hok, h => by
    simp only [lastB] at h
    split at h
    · rename_i hk
      have hk' := hk
      simp only [followsK, inR, Bool.and_eq_true, decide_eq_true_eq] at hk'
      obtain ⟨n1, n2, n3, n4, n5⟩ := numsF_node hn
      cases hr : lastB rest (i + 1 + kids.size) with
      | none =>
        rw [hr] at h
        simp only [Option.some.injEq, Prod.mk.injEq] at h
        obtain ⟨rfl, rfl, rfl⟩ := h
        exact ⟨chainAt_here hk hat hn hok, hk⟩
      | some x =>
        rw [hr] at h
        obtain ⟨h1, h2⟩ := lastB_in rest _ q k ks hat.rest n5 (okF_rest hk hok) (by rw [hr]; exact h)
        exact ⟨chainAt_up (by omega) h1, h2⟩
    · cases h
end
section
open Go Go.Sim
set_option maxRecDepth 100000
set_option maxHeartbeats 4000000

theorem toI_cons_at (i x : Nat) (l : List Nat) : (i :: l).getD (x + 1) default = l.getD x default := by simp [List.getD_eq_getElem?_getD]
theorem c_caught {t : List Class} {cl : Bool} {P : List Line} {clp : Bool} (ht : validT t = true) {i j : Nat} {d v : Int} {rest : Fo} {s : RS} {F H : AHeap} {bs : Nat} (cl2 : Bool)
    (hat : At P j d rest) (hs : FsOk t s.fs) (h0 : 0 ≤ v) (h1 : v < s.fs.length) (hM : StS F H bs t cl P clp s) (hp : P.length ≤ 4398046511104) :
    ACalls Tryz.prog 167 [.ptr bs 4 0 0, .vsl ((toI (i :: chainN rest j)).map rI) cl2, I v] H fun r H' => r = I (match catchF t (clsOf s v) rest j with | some (q, _) => (q : Int) | none => -1) ∧ H' = H := by
  have hch := chain_len rest j
  have hrl := hat.len
  have hv : v.toNat < s.fs.length := by omega
  have hcl := hasF_spec (hs.cls v.toNat hv).1
  obtain ⟨xl, G, clf, hF, hg1, hb, rfl⟩ := id hM
  refine acalls_of1 Tryz.func167 rfl (by kernel_rfl) rfl rfl (awp_sound (fz := fun r => if r = 4 then [8] else []) (im := fun _ => false) mixed _ _ _ _ (by kernel_rfl) ?_)
  simp +contextual -dsimp -implicitDefEqProofs (maxSteps := 5000000) only [go_sem, reduceIte, reduceCtorEq, Nat.reduceEqDiff, Nat.reduceBEq, Nat.reduceAdd, Nat.reduceLeDiff, Nat.reduceMul, Nat.reduceLT, Int.reduceEq, Int.reduceLT, Int.reduceLE]
  refine aloop mixed (fz := fun r => if r = 4 then [8] else []) (im := fun _ => false) (by kernel_rfl) (fun m tm H' => ∃ (g : Fo) (q x : Nat), m = g.size ∧ At P q d g ∧ g.size ≤ rest.size ∧ (chainN rest j).drop x = chainN g q ∧ x ≤ (chainN rest j).length ∧ H' = G.set bs ⟨4, 121, [[.vsl (t.map rClass) cl, aProg P clp, xl, .vsl (s.fs.map rFault) clf]]⟩ ∧ catchF t (clsOf s v) rest j = catchF t (clsOf s v) g q ∧ tm 0 = .ptr bs 4 0 0 ∧ tm 1 = .vsl ((toI (i :: chainN rest j)).map rI) cl2 ∧ tm 2 = I v ∧ tm 7 = I (x + 1 : Nat)) rest.size ⟨rest, j, 0, rfl, hat, Nat.le_refl _, rfl, Nat.zero_le _, rfl, rfl, ?_⟩ ?_
  · simp +contextual -dsimp -implicitDefEqProofs (maxSteps := 5000000) only [go_sem, reduceIte, reduceCtorEq, Nat.reduceEqDiff, Nat.reduceBEq, Nat.reduceAdd, Nat.reduceLeDiff, Nat.reduceMul, Nat.reduceLT, Int.reduceEq, Int.reduceLT, Int.reduceLE]
    rfl
  · rintro m tm _ ⟨g, q, x, rfl, hgat, hgs, hdx, hxl, rfl, he, t0, t1, t2, t7⟩
    cases hcq : chainN g q with
    | nil =>
      rw [hcq] at hdx
      have hx := drop_nil hdx
      have hx' : ¬ x + 1 < (chainN rest j).length + 1 := by omega
      have hno : catchF t (clsOf s v) g q = none := by
        cases g with
        | nil => rfl
        | node k2 a2 b2 ks re =>
          simp only [chainN] at hcq
          split at hcq
          · cases hcq
          · rename_i hk2
            simp only [catchF]; rw [if_neg hk2]
      rw [he, hno]
      simp +contextual -dsimp -implicitDefEqProofs (maxSteps := 5000000) only [go_sem, reduceIte, reduceCtorEq, Nat.reduceEqDiff, Nat.reduceBEq, Nat.reduceAdd, Nat.reduceLeDiff, Nat.reduceMul, Nat.reduceLT, Int.reduceEq, Int.reduceLT, Int.reduceLE, t0, t1, t2, t7, toI_len, List.length_cons, hx']
      refine retR_less (l := [I (-1)]) (H' := G.set bs _) ?_ (AHeap.le_refl _) ⟨rfl, rfl⟩
      simp only [resA, go_sem, reduceIte, reduceCtorEq, Nat.reduceEqDiff, Nat.reduceBEq, Nat.reduceAdd, Nat.reduceLeDiff, Nat.reduceMul, Nat.reduceLT, Int.reduceEq, Int.reduceLT, Int.reduceLE]
    | cons q' tl =>
      cases g with
      | nil => simp [chainN] at hcq
      | node k2 a2 b2 ks re =>
        have hk2 : followsK k2 = true := by
          simp only [chainN] at hcq
          split at hcq
          · assumption
          · cases hcq
        have hdx' : (chainN rest j).drop x = q :: chainN re (q + 1 + ks.size) := by
          rw [hdx]; simp only [chainN]; rw [if_pos hk2]
        obtain ⟨hx1, hx2, hx3⟩ := drop_cons hdx'
        have hx' : x + 1 < (chainN rest j).length + 1 := by omega
        have hh2 := hgat.head
        have hef : catchF t (clsOf s v) (.node k2 a2 b2 ks re) q = if k2 = 8 ∧ isF t (clsOf s v) a2 = true then some (q, ks) else catchF t (clsOf s v) re (q + 1 + ks.size) := by
          simp only [catchF]; rw [if_pos hk2]
        have hsz : (Fo.node k2 a2 b2 ks re).size = 1 + ks.size + re.size := rfl
        have szl : ∀ k : Int, re.size < (Fo.node k a2 b2 ks re).size := fun k => by simp only [Fo.size]; omega
        simp +contextual -dsimp -implicitDefEqProofs (maxSteps := 5000000) only [go_sem, reduceIte, reduceCtorEq, Nat.reduceEqDiff, Nat.reduceBEq, Nat.reduceAdd, Nat.reduceLeDiff, Nat.reduceMul, Nat.reduceLT, Int.reduceEq, Int.reduceLT, Int.reduceLE, t0, t1, t2, t7, toI_len, toI_at, toI_cons_at, List.length_cons, hx', hx2]
        refine draw_intro [0, 0, 0, 1, 0, 0, 0, 1, 0, 1, 3, 2] _ (by kernel_rfl) (AHeap.le_refl _) ?_
        simp +contextual -dsimp -implicitDefEqProofs (maxSteps := 5000000) only [go_sem, reduceIte, reduceCtorEq, Nat.reduceEqDiff, Nat.reduceBEq, Nat.reduceAdd, Nat.reduceLeDiff, Nat.reduceMul, Nat.reduceLT, Int.reduceEq, Int.reduceLT, Int.reduceLE, t0, t1, t2, t7, toI_len, toI_at, toI_cons_at, List.length_cons, hx', hx2, hh2.1, hh2.2]
        rintro b8 hb8
        refine ⟨le_set (by rw [set_other hb8.1]; exact hb8.2.2), ?_⟩
        refine draw_intro [0, 0, 0, 0, 0, 0, 0, 0, 0, 0, 0, 0, 0, 0, 0, 0, 0, 0, 0, 2, 0] _ (by kernel_rfl) (AHeap.le_refl _) ?_
        by_cases k8 : k2 = 8
        · simp +contextual -dsimp -implicitDefEqProofs (maxSteps := 5000000) only [go_sem, reduceIte, reduceCtorEq, Nat.reduceEqDiff, Nat.reduceBEq, Nat.reduceAdd, Nat.reduceLeDiff, Nat.reduceMul, Nat.reduceLT, Int.reduceEq, Int.reduceLT, Int.reduceLE, t0, t1, t2, t7, toI_len, toI_at, toI_cons_at, List.length_cons, hx', hx2, hh2.1, hh2.2, k8, h0, h1, hv]
          refine (c_isA t cl _ a2 _ ht hcl.2).det ?_
          simp +contextual -dsimp -implicitDefEqProofs (maxSteps := 5000000) only [go_sem, reduceIte, reduceCtorEq, Nat.reduceEqDiff, Nat.reduceBEq, Nat.reduceAdd, Nat.reduceLeDiff, Nat.reduceMul, Nat.reduceLT, Int.reduceEq, Int.reduceLT, Int.reduceLE, t0, t1, t2, t7, toI_len, toI_at, toI_cons_at, List.length_cons, hx', hx2, hh2.1, hh2.2, k8]
          refine ⟨fun hq => ?_, fun hq => ?_⟩
          · rw [if_pos ⟨k8, hq⟩] at hef
            rw [he, hef]
            refine retR_less (l := [I q]) (H' := G.set bs _) ?_ (AHeap.le_refl _) ⟨rfl, rfl⟩
            simp only [resA, go_sem, reduceIte, reduceCtorEq, Nat.reduceEqDiff, Nat.reduceBEq, Nat.reduceAdd, Nat.reduceLeDiff, Nat.reduceMul, Nat.reduceLT, Int.reduceEq, Int.reduceLT, Int.reduceLE]
          · rw [if_neg (fun z => by have := z.2; unfold isF clsOf at this; rw [hq] at this; cases this)] at hef
            exact ⟨re.size, szl 8, re, q + 1 + ks.size, x + 1, rfl, hgat.rest, by omega, hx3, hx1, by rw [he]; exact hef, I_wrap (by omega) (by omega) (by omega)⟩
        · rw [if_neg (fun z => k8 z.1)] at hef
          simp +contextual -dsimp -implicitDefEqProofs (maxSteps := 5000000) only [go_sem, reduceIte, reduceCtorEq, Nat.reduceEqDiff, Nat.reduceBEq, Nat.reduceAdd, Nat.reduceLeDiff, Nat.reduceMul, Nat.reduceLT, Int.reduceEq, Int.reduceLT, Int.reduceLE, t0, t1, t2, t7, toI_len, toI_at, toI_cons_at, List.length_cons, hx', hx2, hh2.1, hh2.2, k8]
          exact ⟨re.size, szl k2, re, q + 1 + ks.size, x + 1, rfl, hgat.rest, by omega, hx3, hx1, by rw [he]; exact hef, I_wrap (by omega) (by omega) (by omega)⟩
theorem c_sfinally {t : List Class} {cl : Bool} {P : List Line} {clp : Bool} {n : Nat} (ht : validT t = true) (ih : SBlkOk t cl P clp n) {i j : Nat} {d a b h : Int} {kids rest : Fo} {s : RS} {F H : AHeap} {bs : Nat} {lp : Bool} (cl2 : Bool) (e : En)
    (hn : rest.size < n) (hhead : At P i d (.node 7 a b kids rest)) (hj : j = i + 1 + kids.size) (hr : numsF t rest d = true) (hok : okF rest lp true = true) (hs : FsOk t s.fs) (hh : h < s.fs.length) (hev : e.ed = 2 → 0 ≤ e.val ∧ e.val < s.fs.length)
    (hl : ∀ q ks, lastB rest j = some (q, 10, ks) → s.log.length + cost ks ≤ 900000 ∧ s.fs.length + cost ks ≤ 900000) (hM : StS F H bs t cl P clp s) (hp : P.length ≤ 4398046511104) :
    ACalls Tryz.prog 166 [.ptr bs 4 0 0, .vsl ((toI (i :: chainN rest j)).map rI) cl2, .agg (rEn e), I h] H fun r H' => r = .agg (rEn (finR t rest j e h s).1) ∧ StS F H' bs t cl P clp (finR t rest j e h s).2 := by
  subst hj
  have hat := hhead.rest
  have hgl := getD_last i (chainN rest (i + 1 + kids.size))
  have hlp := lastB_pos rest (i + 1 + kids.size) i
  have hcl := chain_len rest (i + 1 + kids.size)
  have hrl := hat.len
  have hwl : IntKind.i64.wrap (((chainN rest (i + 1 + kids.size)).length + 1 : Nat) - 1) = ((chainN rest (i + 1 + kids.size)).length : Int) := by
    rw [w64 (by omega) (by omega)]; omega
  have hlt1 : ((chainN rest (i + 1 + kids.size)).length : Int) < (((chainN rest (i + 1 + kids.size)).length + 1 : Nat) : Int) := by omega
  have hlt2 : (chainN rest (i + 1 + kids.size)).length < (chainN rest (i + 1 + kids.size)).length + 1 := by omega
  obtain ⟨xl, G, clf, hF, hg1, hb, rfl⟩ := id hM
  refine acalls_of1 Tryz.func166 rfl (by kernel_rfl) rfl rfl (awp_sound (fz := fun r => if r = 6 then [10] else []) (im := fun s => s == 6) mixed _ _ _ _ (by kernel_rfl) ?_)
  simp +contextual -dsimp -implicitDefEqProofs (maxSteps := 5000000) only [go_sem, reduceIte, reduceCtorEq, Nat.reduceEqDiff, Nat.reduceBEq, Nat.reduceAdd, Nat.reduceLeDiff, Nat.reduceMul, Nat.reduceLT, Int.reduceEq, Int.reduceLT, Int.reduceLE, toI_len, toI_at, List.length_cons, hwl, hgl, hlt1, hlt2, rEn]
  rintro b8 ⟨n1, n2, hn2⟩
  have hF8 : F b8 = none := grow_none hg1 hn2
  have hb8 : ∀ K, (G.set bs K) b8 = none := fun K => by rw [set_other n1]; exact hn2
  cases hL : lastB rest (i + 1 + kids.size) with
  | none =>
    have ef : finR t rest (i + 1 + kids.size) e h s = (e, s) := by unfold finR; rw [hL]
    rw [ef]
    rw [hL] at hlp
    simp only at hlp
    rw [hlp]
    simp +contextual -dsimp -implicitDefEqProofs (maxSteps := 5000000) only [go_sem, reduceIte, reduceCtorEq, Nat.reduceEqDiff, Nat.reduceBEq, Nat.reduceAdd, Nat.reduceLeDiff, Nat.reduceMul, Nat.reduceLT, Int.reduceEq, Int.reduceLT, Int.reduceLE, hhead.head.1, hhead.head.2, n1, n2]
    refine retR_less (l := [.agg (rEn e)]) (H' := G.set bs _) ?_ (le_set (hb8 _)) ⟨rfl, hM⟩
    simp only [resA, go_sem, reduceIte, reduceCtorEq, Nat.reduceEqDiff, Nat.reduceBEq, Nat.reduceAdd, Nat.reduceLeDiff, Nat.reduceMul, Nat.reduceLT, Int.reduceEq, Int.reduceLT, Int.reduceLE, rEn]
  | some y =>
    obtain ⟨q, k, ks⟩ := y
    rw [hL] at hlp
    simp only at hlp
    rw [hlp]
    obtain ⟨⟨⟨a2, b2, re2, hq⟩, c2, c3, c4, c5⟩, c6⟩ := lastB_in (t := t) (lp := lp) rest _ q k ks hat hr hok hL
    by_cases k10 : k = 10
    · subst k10
      obtain ⟨l1, l2⟩ := hl q ks hL
      have hgF : ∀ g : Int, g < s.fs.length → Goes t (cost ks) s (runF t ks (q + 1) none g s).1 (runF t ks (q + 1) none g s).2 := fun g hg => goes_run ht ks (q + 1) none (d + 1) g s c3 hs hg trivial
      have body : ∀ g : Int, g < s.fs.length → ACalls Tryz.prog 165 [.ptr bs 4 0 0, I q, I g] ((G.set bs ⟨4, 121, [[.vsl (t.map rClass) cl, aProg P clp, xl, .vsl (s.fs.map rFault) clf]]⟩).set b8 ⟨2, 123, [[I 0, I 0]]⟩) fun r H' => r = .agg (rEn (runF t ks (q + 1) none g s).1) ∧ StS (F.set b8 ⟨2, 123, [[I 0, I 0]]⟩) H' bs t cl P clp (runF t ks (q + 1) none g s).2 :=
        fun g hg => c_sbody ih (by omega) hq c3 c4 hs hg l1 l2 (sts_in hM (hb8 _)) hp
      by_cases e2 : e.ed = 2
      · have ef : finR t rest (i + 1 + kids.size) e h s = (fun l : En × RS => (if l.1.ed = 0 then e else l.1, l.2)) (runF t ks (q + 1) none e.val s) := by
          unfold finR; rw [hL]; simp only [if_true, e2]
        rw [ef]
        have hgl := (hgF e.val (hev e2).2).len
        simp +contextual -dsimp -implicitDefEqProofs (maxSteps := 5000000) only [go_sem, reduceIte, reduceCtorEq, Nat.reduceEqDiff, Nat.reduceBEq, Nat.reduceAdd, Nat.reduceLeDiff, Nat.reduceMul, Nat.reduceLT, Int.reduceEq, Int.reduceLT, Int.reduceLE, hq.head.1, hq.head.2, n1, n2, e2]
        refine (body e.val (hev e2).2).mono ?_
        rintro _ H3 ⟨rfl, hM3⟩
        generalize runF t ks (q + 1) none e.val s = r at hM3 ⊢
        obtain ⟨H4, rfl, hM4, w4⟩ := sts_out hM3 hF8
        by_cases c0 : r.1.ed = 0
        · simp +contextual -dsimp -implicitDefEqProofs (maxSteps := 5000000) only [go_sem, reduceIte, reduceCtorEq, Nat.reduceEqDiff, Nat.reduceBEq, Nat.reduceAdd, Nat.reduceLeDiff, Nat.reduceMul, Nat.reduceLT, Int.reduceEq, Int.reduceLT, Int.reduceLE, rEn, n1, n2, c0, e2]
          rintro b10 hb10
          refine retR_less (l := [.agg (rEn e)]) (H' := H4) ?_ (le_set w4) ⟨by show AV.agg [I e.ed, I e.val] = _; rw [e2], hM4⟩
          simp only [resA, go_sem, reduceIte, reduceCtorEq, Nat.reduceEqDiff, Nat.reduceBEq, Nat.reduceAdd, Nat.reduceLeDiff, Nat.reduceMul, Nat.reduceLT, Int.reduceEq, Int.reduceLT, Int.reduceLE, rEn, e2]
        · simp +contextual -dsimp -implicitDefEqProofs (maxSteps := 5000000) only [go_sem, reduceIte, reduceCtorEq, Nat.reduceEqDiff, Nat.reduceBEq, Nat.reduceAdd, Nat.reduceLeDiff, Nat.reduceMul, Nat.reduceLT, Int.reduceEq, Int.reduceLT, Int.reduceLE, rEn, n1, n2, c0, e2]
          rintro b10 hb10
          refine retR_less (l := [.agg (rEn r.1)]) (H' := H4) ?_ (le_set w4) ⟨rfl, hM4⟩
          simp only [resA, go_sem, reduceIte, reduceCtorEq, Nat.reduceEqDiff, Nat.reduceBEq, Nat.reduceAdd, Nat.reduceLeDiff, Nat.reduceMul, Nat.reduceLT, Int.reduceEq, Int.reduceLT, Int.reduceLE, rEn]
      · have ef : finR t rest (i + 1 + kids.size) e h s = (fun l : En × RS => (if l.1.ed = 0 then e else l.1, l.2)) (runF t ks (q + 1) none h s) := by
          unfold finR; rw [hL]; simp only [if_true, e2, if_false]
        rw [ef]
        have hgl := (hgF h hh).len
        simp +contextual -dsimp -implicitDefEqProofs (maxSteps := 5000000) only [go_sem, reduceIte, reduceCtorEq, Nat.reduceEqDiff, Nat.reduceBEq, Nat.reduceAdd, Nat.reduceLeDiff, Nat.reduceMul, Nat.reduceLT, Int.reduceEq, Int.reduceLT, Int.reduceLE, hq.head.1, hq.head.2, n1, n2, e2]
        refine (body h hh).mono ?_
        rintro _ H3 ⟨rfl, hM3⟩
        generalize runF t ks (q + 1) none h s = r at hM3 ⊢
        obtain ⟨H4, rfl, hM4, w4⟩ := sts_out hM3 hF8
        by_cases c0 : r.1.ed = 0
        · simp +contextual -dsimp -implicitDefEqProofs (maxSteps := 5000000) only [go_sem, reduceIte, reduceCtorEq, Nat.reduceEqDiff, Nat.reduceBEq, Nat.reduceAdd, Nat.reduceLeDiff, Nat.reduceMul, Nat.reduceLT, Int.reduceEq, Int.reduceLT, Int.reduceLE, rEn, n1, n2, c0, e2]
          rintro b10 hb10
          refine retR_less (l := [.agg (rEn e)]) (H' := H4) ?_ (le_set w4) ⟨rfl, hM4⟩
          simp only [resA, go_sem, reduceIte, reduceCtorEq, Nat.reduceEqDiff, Nat.reduceBEq, Nat.reduceAdd, Nat.reduceLeDiff, Nat.reduceMul, Nat.reduceLT, Int.reduceEq, Int.reduceLT, Int.reduceLE, rEn]
        · simp +contextual -dsimp -implicitDefEqProofs (maxSteps := 5000000) only [go_sem, reduceIte, reduceCtorEq, Nat.reduceEqDiff, Nat.reduceBEq, Nat.reduceAdd, Nat.reduceLeDiff, Nat.reduceMul, Nat.reduceLT, Int.reduceEq, Int.reduceLT, Int.reduceLE, rEn, n1, n2, c0, e2]
          rintro b10 hb10
          refine retR_less (l := [.agg (rEn r.1)]) (H' := H4) ?_ (le_set w4) ⟨rfl, hM4⟩
          simp only [resA, go_sem, reduceIte, reduceCtorEq, Nat.reduceEqDiff, Nat.reduceBEq, Nat.reduceAdd, Nat.reduceLeDiff, Nat.reduceMul, Nat.reduceLT, Int.reduceEq, Int.reduceLT, Int.reduceLE, rEn]
    · have ef : finR t rest (i + 1 + kids.size) e h s = (e, s) := by unfold finR; rw [hL]; simp only [k10, if_false]
      rw [ef]
      simp +contextual -dsimp -implicitDefEqProofs (maxSteps := 5000000) only [go_sem, reduceIte, reduceCtorEq, Nat.reduceEqDiff, Nat.reduceBEq, Nat.reduceAdd, Nat.reduceLeDiff, Nat.reduceMul, Nat.reduceLT, Int.reduceEq, Int.reduceLT, Int.reduceLE, hq.head.1, hq.head.2, n1, n2, k10]
      refine retR_less (l := [.agg (rEn e)]) (H' := G.set bs _) ?_ (le_set (hb8 _)) ⟨rfl, hM⟩
      simp only [resA, go_sem, reduceIte, reduceCtorEq, Nat.reduceEqDiff, Nat.reduceBEq, Nat.reduceAdd, Nat.reduceLeDiff, Nat.reduceMul, Nat.reduceLT, Int.reduceEq, Int.reduceLT, Int.reduceLE, rEn]
end
section
open Go Go.Sim
set_option maxRecDepth 100000
set_option maxHeartbeats 4000000

theorem en_ed (a b : Int) : (En.mk a b).ed = a := rfl
theorem en_val (a b : Int) : (En.mk a b).val = b := rfl
theorem goes_mid {t : List Class} {P : List Line} {lp : Bool} (ht : validT t = true) {f : Fo} {i : Nat} {e : En} {d h : Int} {s : RS} (hat : At P i d f) (hn : numsF t f d = true) (hok : okF f lp true = true) (hs : FsOk t s.fs) (hh : h < s.fs.length) (he : e.ed = 2 → 0 ≤ e.val ∧ e.val < s.fs.length) :
    ∃ c, Goes t c s (midR t f i e h s).1 (midR t f i e h s).2 ∧ c ≤ cost f ∧ ∀ q ks, lastB f i = some (q, 10, ks) → c + cost ks ≤ cost f := by
  have l0 : ∀ q ks, lastB f i = some (q, 10, ks) → 0 + cost ks ≤ cost f := fun q ks hl => by have := elseF_at.lastB_cost f i hl; simp only at this; omega
  unfold midR
  split
  · cases hE : elseF f i with
    | none => exact ⟨0, goes_self hs he, by omega, l0⟩
    | some y =>
      obtain ⟨q, ks⟩ := y
      obtain ⟨c1, c2⟩ := elseF_at f i q ks hat hn hok hE
      exact ⟨cost ks, goes_run ht ks (q + 1) none (d + 1) h s c1.nums hs hh trivial, c1.cost, c2⟩
  · split
    · rename_i e2
      cases hE : catchF t (clsOf s e.val) f i with
      | none => exact ⟨0, goes_self hs he, by omega, l0⟩
      | some y =>
        obtain ⟨q, ks⟩ := y
        obtain ⟨c1, c2⟩ := catchF_at f i q ks hat hn hok hE
        exact ⟨cost ks, goes_run ht ks (q + 1) none (d + 1) e.val s c1.nums hs (he e2).2 trivial, c1.cost, c2⟩
    · exact ⟨0, goes_self hs he, by omega, l0⟩
theorem c_stry {t : List Class} {cl : Bool} {P : List Line} {clp : Bool} {n : Nat} (ht : validT t = true) (ih : SBlkOk t cl P clp n) {i : Nat} {d a b h : Int} {kids rest : Fo} {s : RS} {F H : AHeap} {bs : Nat} {lp : Bool}
    (hn : kids.size + rest.size < n) (hat : At P i d (.node 7 a b kids rest)) (hk : numsF t kids (d + 1) = true) (hr : numsF t rest d = true) (hok : okF kids lp false = true) (hokr : okF rest lp true = true) (hto : tryG 7 (headsK rest) = true) (hs : FsOk t s.fs) (hh : h < s.fs.length)
    (hl : s.log.length + (cost kids + cost rest) ≤ 900000) (hf : s.fs.length + (cost kids + cost rest) ≤ 900000) (hM : StS F H bs t cl P clp s) (hp : P.length ≤ 4398046511104) :
    ACalls Tryz.prog 156 [.ptr bs 4 0 0, I i, I h] H fun r H' =>
      r = .agg (rEn (chainR t rest (i + 1 + kids.size) (runF t kids (i + 1) none h s).1 (runF t kids (i + 1) none h s).1 h (runF t kids (i + 1) none h s).2).1) ∧
      StS F H' bs t cl P clp (chainR t rest (i + 1 + kids.size) (runF t kids (i + 1) none h s).1 (runF t kids (i + 1) none h s).1 h (runF t kids (i + 1) none h s).2).2 := by
  have hi := hat.head.1
  obtain ⟨xl, G, clf, hF, hg1, hb, rfl⟩ := id hM
  refine acalls_of1 Tryz.func156 rfl (by kernel_rfl) rfl rfl (awp_sound (fz := fun _ => []) (im := fun _ => false) mixed _ _ _ _ (by kernel_rfl) ?_)
  simp +contextual -dsimp -implicitDefEqProofs (maxSteps := 5000000) only [go_sem, reduceIte, reduceCtorEq, Nat.reduceEqDiff, Nat.reduceBEq, Nat.reduceAdd, Nat.reduceLeDiff, Nat.reduceMul, Nat.reduceLT, Int.reduceEq, Int.reduceLT, Int.reduceLE]
  rintro b6 ⟨n1, n2, hn2⟩
  have hF6 : F b6 = none := grow_none hg1 hn2
  refine acalls_frz (c_chainOf P clp i _ hi hp) fun cl2 => ?_
  rw [chainP_at hat]
  simp +contextual -dsimp -implicitDefEqProofs (maxSteps := 5000000) only [go_sem, reduceIte, reduceCtorEq, Nat.reduceEqDiff, Nat.reduceBEq, Nat.reduceAdd, Nat.reduceLeDiff, Nat.reduceMul, Nat.reduceLT, Int.reduceEq, Int.reduceLT, Int.reduceLE, n1, n2]
  have hgo := goes_run ht kids (i + 1) none (d + 1) h s hk hs hh trivial
  have hgl := hgo.len
  refine (c_sbody ih (by omega) hat hk hok hs hh (by omega) (by omega) (sts_in (K := ⟨2, 123, [[I 0, I 0]]⟩) hM (show (G.set bs _) b6 = none by rw [set_other n1]; exact hn2)) hp).mono ?_
  rintro _ H3 ⟨rfl, hM3⟩
  generalize runF t kids (i + 1) none h s = r at hM3 hgo hgl ⊢
  obtain ⟨⟨ed, v⟩, s0⟩ := r
  dsimp only at hM3 hgo hgl ⊢
  obtain ⟨H4, rfl, hM4, hn4⟩ := sts_out hM3 hF6
  rw [chain_spec rest _ ⟨ed, v⟩ h s0 7 hto]
  obtain ⟨cm, hmg, hmc, hml⟩ := goes_mid ht (e := ⟨ed, v⟩) (h := h) hat.rest hr hokr hgo.ok (by omega) hgo.val
  have hmgl := hmg.len
  simp +contextual -dsimp -implicitDefEqProofs (maxSteps := 5000000) only [go_sem, reduceIte, reduceCtorEq, Nat.reduceEqDiff, Nat.reduceBEq, Nat.reduceAdd, Nat.reduceLeDiff, Nat.reduceMul, Nat.reduceLT, Int.reduceEq, Int.reduceLT, Int.reduceLE, rEn]
  rintro b8 ⟨d1, d2, m8⟩
  have hF8 : F b8 = none := sts_none hM4 m8
  have hrat := hat.rest
  have hcl := chain_len rest (i + 1 + kids.size)
  have hrl := hrat.len
  have e7 : numsF t (.node 7 a b kids rest) d = true → True := fun _ => trivial
  have fin : ∀ (e : En) (s' : RS) (H9 : AHeap), FsOk t s'.fs → s.fs.length ≤ s'.fs.length → (e.ed = 2 → 0 ≤ e.val ∧ e.val < s'.fs.length) → (∀ q ks, lastB rest (i + 1 + kids.size) = some (q, 10, ks) → s'.log.length + cost ks ≤ 900000 ∧ s'.fs.length + cost ks ≤ 900000) → StS F H9 bs t cl P clp s' → H9 b6 = none → H9 b8 = none →
      ACalls Tryz.prog 166 [.ptr bs 4 0 0, .vsl ((toI (i :: chainN rest (i + 1 + kids.size))).map rI) cl2, .agg (rEn e), I h] ((H9.set b6 ⟨2, 123, [[I 0, I 0]]⟩).set b8 ⟨2, 123, [rEn e]⟩) fun x H' => x = .agg (rEn (finR t rest (i + 1 + kids.size) e h s').1) ∧ ∃ H5, H' = (H5.set b6 ⟨2, 123, [[I 0, I 0]]⟩).set b8 ⟨2, 123, [rEn e]⟩ ∧ StS F H5 bs t cl P clp (finR t rest (i + 1 + kids.size) e h s').2 ∧ H5 b6 = none ∧ H5 b8 = none := by
    intro e s' H9 q1 q2 q3 q4 q5 q6 q7
    refine (c_sfinally ht ih cl2 e (by omega) hat rfl hr hokr q1 (by omega) q3 q4 (sts_in (K := ⟨2, 123, [rEn e]⟩) (sts_in (K := ⟨2, 123, [[I 0, I 0]]⟩) q5 q6) (by rw [set_other d1]; exact q7)) hp).mono ?_
    rintro _ H3 ⟨rfl, hM3⟩
    obtain ⟨H5, rfl, w1, w2⟩ := sts_out hM3 (by rw [set_other d1]; exact hF8)
    obtain ⟨H6, rfl, w3, w4⟩ := sts_out w1 hF6
    rw [set_other d1] at w2
    exact ⟨rfl, H6, rfl, w3, w4, w2⟩
  have body : ∀ (e : En) (q : Nat) (k : Int) (ks : Fo) (g : Int), ChainAt t P d lp rest q k ks → g < s0.fs.length →
      ACalls Tryz.prog 165 [.ptr bs 4 0 0, I q, I g] ((H4.set b6 ⟨2, 123, [[I 0, I 0]]⟩).set b8 ⟨2, 123, [rEn e]⟩) fun x H' => x = .agg (rEn (runF t ks (q + 1) none g s0).1) ∧ ∃ H5, H' = (H5.set b6 ⟨2, 123, [[I 0, I 0]]⟩).set b8 ⟨2, 123, [rEn e]⟩ ∧ StS F H5 bs t cl P clp (runF t ks (q + 1) none g s0).2 ∧ H5 b6 = none ∧ H5 b8 = none := by
    intro e q k ks g hc hg
    obtain ⟨⟨a2, b2, re2, hq⟩, c2, c3, c4, c5⟩ := hc
    refine (c_sbody ih (by omega) hq c3 c4 hgo.ok hg (by omega) (by omega) (sts_in (K := ⟨2, 123, [rEn e]⟩) (sts_in (K := ⟨2, 123, [[I 0, I 0]]⟩) hM4 hn4) (by rw [set_other d1]; exact m8)) hp).mono ?_
    rintro _ H3 ⟨rfl, hM3⟩
    obtain ⟨H5, rfl, w1, w2⟩ := sts_out hM3 (by rw [set_other d1]; exact hF8)
    obtain ⟨H6, rfl, w3, w4⟩ := sts_out w1 hF6
    rw [set_other d1] at w2
    exact ⟨rfl, H6, rfl, w3, w4, w2⟩
  obtain ⟨xl4, G4, clf4, hFb4, hg4, hb4, rfl⟩ := id hM4
  have hn4' := hn4
  have m8' := m8
  rw [set_none] at hn4' m8'
  obtain ⟨z1, z2, z3⟩ := hn4'
  obtain ⟨z4, z5, z6⟩ := m8'
  refine aloop mixed (fz := fun _ => []) (im := fun _ => false) (by kernel_rfl) (fun m tm H' => ∃ (g : Fo) (q x : Nat), m = g.size ∧ At P q d g ∧ g.size ≤ rest.size ∧ (chainN rest (i + 1 + kids.size)).drop x = chainN g q ∧ x ≤ (chainN rest (i + 1 + kids.size)).length ∧ H' = ((G4.set bs ⟨4, 121, [[.vsl (t.map rClass) cl, aProg P clp, xl4, .vsl (s0.fs.map rFault) clf4]]⟩).set b6 ⟨2, 123, [[I 0, I 0]]⟩).set b8 ⟨2, 123, [rEn ⟨ed, v⟩]⟩ ∧ (ed = 0 → elseF rest (i + 1 + kids.size) = elseF g q) ∧ tm 0 = .ptr bs 4 0 0 ∧ tm 1 = I i ∧ tm 2 = I h ∧ tm 6 = .ptr b6 2 0 0 ∧ tm 7 = .vsl ((toI (i :: chainN rest (i + 1 + kids.size))).map rI) cl2 ∧ tm 8 = .ptr b8 2 0 0 ∧ tm 9 = I (x + 1 : Nat)) rest.size ⟨rest, i + 1 + kids.size, 0, rfl, hrat, Nat.le_refl _, rfl, Nat.zero_le _, rfl, fun _ => rfl, ?_⟩ ?_
  · simp +contextual -dsimp -implicitDefEqProofs (maxSteps := 5000000) only [go_sem, reduceIte, reduceCtorEq, Nat.reduceEqDiff, Nat.reduceBEq, Nat.reduceAdd, Nat.reduceLeDiff, Nat.reduceMul, Nat.reduceLT, Int.reduceEq, Int.reduceLT, Int.reduceLE, rEn]
    rfl
  · rintro m tm _ ⟨g, q, x, rfl, hgat, hgs, hdx, hxl, rfl, he, t0, t1, t2, t6, t7, t8, t9⟩
    cases hcq : chainN g q with
    | nil =>
      rw [hcq] at hdx
      have hx := drop_nil hdx
      have hx' : ¬ x + 1 < (chainN rest (i + 1 + kids.size)).length + 1 := by omega
      have hno : elseF g q = none := by
        cases g with
        | nil => rfl
        | node k2 a2 b2 ks re =>
          simp only [chainN] at hcq
          split at hcq
          · cases hcq
          · rename_i hk2
            simp only [elseF]; rw [if_neg hk2]
      have bnd0 : ∀ q ks, lastB rest (i + 1 + kids.size) = some (q, 10, ks) → s0.log.length + cost ks ≤ 900000 ∧ s0.fs.length + cost ks ≤ 900000 := fun q ks hq => by have := hml q ks hq; omega
      by_cases e2 : ed = 2
      · subst e2
        have ev := hgo.val rfl
        dsimp only at ev
        have hMc := sts_in (K := ⟨2, 123, [rEn ⟨2, v⟩]⟩) (sts_in (K := ⟨2, 123, [[I 0, I 0]]⟩) hM4 hn4) (show (AHeap.set _ b6 _) b8 = none by rw [set_other d1]; exact m8)
        simp +contextual -dsimp -implicitDefEqProofs (maxSteps := 5000000) only [go_sem, reduceIte, reduceCtorEq, Nat.reduceEqDiff, Nat.reduceBEq, Nat.reduceAdd, Nat.reduceLeDiff, Nat.reduceMul, Nat.reduceLT, Int.reduceEq, Int.reduceLT, Int.reduceLE, rEn, t0, t1, t2, t6, t7, t8, t9, z1, z2, z4, z5, d1, d2, en_ed, en_val, toI_len, List.length_cons, hx']
        refine (c_caught ht cl2 hrat hgo.ok ev.1 ev.2 hMc hp).mono ?_
        rintro _ Hx ⟨rfl, hHx⟩
        subst hHx
        cases hC : catchF t (clsOf s0 v) rest (i + 1 + kids.size) with
        | none =>
          have em : midR t rest (i + 1 + kids.size) ⟨2, v⟩ h s0 = (⟨2, v⟩, s0) := by
            unfold midR; dsimp only; rw [if_neg (by decide), if_pos rfl, hC]
          rw [em]
          have zz : ¬ (0 : Int) ≤ -1 := by omega
          simp +contextual -dsimp -implicitDefEqProofs (maxSteps := 5000000) only [go_sem, reduceIte, reduceCtorEq, Nat.reduceEqDiff, Nat.reduceBEq, Nat.reduceAdd, Nat.reduceLeDiff, Nat.reduceMul, Nat.reduceLT, Int.reduceEq, Int.reduceLT, Int.reduceLE, rEn, t0, t1, t2, t6, t7, t8, t9, z1, z2, z4, z5, d1, d2, en_ed, en_val, zz]
          refine (fin ⟨2, v⟩ s0 _ hgo.ok hgl.1 hgo.val bnd0 hM4 hn4 m8).mono ?_
          rintro _ H' ⟨rfl, H5, rfl, w1, w2, w3⟩
          simp +contextual -dsimp -implicitDefEqProofs (maxSteps := 5000000) only [go_sem, reduceIte, reduceCtorEq, Nat.reduceEqDiff, Nat.reduceBEq, Nat.reduceAdd, Nat.reduceLeDiff, Nat.reduceMul, Nat.reduceLT, Int.reduceEq, Int.reduceLT, Int.reduceLE, rEn, t0, t1, t2, t6, t7, t8, t9, z1, z2, z4, z5, d1, d2, en_ed, en_val]
          refine retR_less (l := [.agg (rEn (finR t rest (i + 1 + kids.size) ⟨2, v⟩ h s0).1)]) (H' := H5) ?_ (le_s1 (le_s1 (AHeap.le_refl _) w2) w3) ⟨rfl, w1⟩
          simp only [resA, go_sem, reduceIte, reduceCtorEq, Nat.reduceEqDiff, Nat.reduceBEq, Nat.reduceAdd, Nat.reduceLeDiff, Nat.reduceMul, Nat.reduceLT, Int.reduceEq, Int.reduceLT, Int.reduceLE, rEn, d1, d2, t6]
        | some y =>
          obtain ⟨q8, ks8⟩ := y
          obtain ⟨y1, y2⟩ := catchF_at (p := P) (lp := lp) rest _ q8 ks8 hrat hr hokr hC
          have em : midR t rest (i + 1 + kids.size) ⟨2, v⟩ h s0 = runF t ks8 (q8 + 1) none v s0 := by
            unfold midR; dsimp only; rw [if_neg (by decide), if_pos rfl, hC]
          rw [em] at hmg hmgl ⊢
          have zz : (0 : Int) ≤ (q8 : Int) := by omega
          simp +contextual -dsimp -implicitDefEqProofs (maxSteps := 5000000) only [go_sem, reduceIte, reduceCtorEq, Nat.reduceEqDiff, Nat.reduceBEq, Nat.reduceAdd, Nat.reduceLeDiff, Nat.reduceMul, Nat.reduceLT, Int.reduceEq, Int.reduceLT, Int.reduceLE, rEn, t0, t1, t2, t6, t7, t8, t9, z1, z2, z4, z5, d1, d2, en_ed, en_val, zz]
          refine (body ⟨2, v⟩ q8 8 ks8 v y1 ev.2).mono ?_
          rintro _ Hy ⟨rfl, H6, rfl, g1, g2, g3⟩
          generalize runF t ks8 (q8 + 1) none v s0 = r8 at hmg hmgl g1 ⊢
          simp +contextual -dsimp -implicitDefEqProofs (maxSteps := 5000000) only [go_sem, reduceIte, reduceCtorEq, Nat.reduceEqDiff, Nat.reduceBEq, Nat.reduceAdd, Nat.reduceLeDiff, Nat.reduceMul, Nat.reduceLT, Int.reduceEq, Int.reduceLT, Int.reduceLE, rEn, t0, t1, t2, t6, t7, t8, t9, z1, z2, z4, z5, d1, d2, en_ed, en_val]
          refine (fin r8.1 r8.2 H6 hmg.ok (by omega) hmg.val (fun q ks hq => by have := hml q ks hq; omega) g1 g2 g3).mono ?_
          rintro _ H' ⟨rfl, H5, rfl, w1, w2, w3⟩
          simp +contextual -dsimp -implicitDefEqProofs (maxSteps := 5000000) only [go_sem, reduceIte, reduceCtorEq, Nat.reduceEqDiff, Nat.reduceBEq, Nat.reduceAdd, Nat.reduceLeDiff, Nat.reduceMul, Nat.reduceLT, Int.reduceEq, Int.reduceLT, Int.reduceLE, rEn, t0, t1, t2, t6, t7, t8, t9, z1, z2, z4, z5, d1, d2, en_ed, en_val]
          refine retR_less (l := [.agg (rEn (finR t rest (i + 1 + kids.size) r8.1 h r8.2).1)]) (H' := H5) ?_ (le_s1 (le_s1 (AHeap.le_refl _) w2) w3) ⟨rfl, w1⟩
          simp only [resA, go_sem, reduceIte, reduceCtorEq, Nat.reduceEqDiff, Nat.reduceBEq, Nat.reduceAdd, Nat.reduceLeDiff, Nat.reduceMul, Nat.reduceLT, Int.reduceEq, Int.reduceLT, Int.reduceLE, rEn, d1, d2, t6]
      · have em : midR t rest (i + 1 + kids.size) ⟨ed, v⟩ h s0 = (⟨ed, v⟩, s0) := by
          unfold midR
          dsimp only
          by_cases e0 : ed = 0
          · rw [if_pos e0, he e0, hno]
          · rw [if_neg e0, if_neg e2]
        rw [em]
        simp +contextual -dsimp -implicitDefEqProofs (maxSteps := 5000000) only [go_sem, reduceIte, reduceCtorEq, Nat.reduceEqDiff, Nat.reduceBEq, Nat.reduceAdd, Nat.reduceLeDiff, Nat.reduceMul, Nat.reduceLT, Int.reduceEq, Int.reduceLT, Int.reduceLE, rEn, t0, t1, t2, t6, t7, t8, t9, z1, z2, z4, z5, d1, d2, en_ed, en_val, toI_len, List.length_cons, hx', e2]
        refine (fin ⟨ed, v⟩ s0 _ hgo.ok hgl.1 hgo.val bnd0 hM4 hn4 m8).mono ?_
        rintro _ H' ⟨rfl, H5, rfl, w1, w2, w3⟩
        simp +contextual -dsimp -implicitDefEqProofs (maxSteps := 5000000) only [go_sem, reduceIte, reduceCtorEq, Nat.reduceEqDiff, Nat.reduceBEq, Nat.reduceAdd, Nat.reduceLeDiff, Nat.reduceMul, Nat.reduceLT, Int.reduceEq, Int.reduceLT, Int.reduceLE, rEn, t0, t1, t2, t6, t7, t8, t9, z1, z2, z4, z5, d1, d2, en_ed, en_val]
        refine retR_less (l := [.agg (rEn (finR t rest (i + 1 + kids.size) ⟨ed, v⟩ h s0).1)]) (H' := H5) ?_ (le_s1 (le_s1 (AHeap.le_refl _) w2) w3) ⟨rfl, w1⟩
        simp only [resA, go_sem, reduceIte, reduceCtorEq, Nat.reduceEqDiff, Nat.reduceBEq, Nat.reduceAdd, Nat.reduceLeDiff, Nat.reduceMul, Nat.reduceLT, Int.reduceEq, Int.reduceLT, Int.reduceLE, rEn, d1, d2, t6]
    | cons q' tl =>
      cases g with
      | nil => simp [chainN] at hcq
      | node k2 a2 b2 ks re =>
        have hk2 : followsK k2 = true := by
          simp only [chainN] at hcq
          split at hcq
          · assumption
          · cases hcq
        have hdx' : (chainN rest (i + 1 + kids.size)).drop x = q :: chainN re (q + 1 + ks.size) := by
          rw [hdx]; simp only [chainN]; rw [if_pos hk2]
        obtain ⟨hx1, hx2, hx3⟩ := drop_cons hdx'
        have hx' : x + 1 < (chainN rest (i + 1 + kids.size)).length + 1 := by omega
        have hh2 := hgat.head
        have szl : ∀ k : Int, re.size < (Fo.node k a2 b2 ks re).size := fun k => by simp only [Fo.size]; omega
        have hsz : (Fo.node k2 a2 b2 ks re).size = 1 + ks.size + re.size := rfl
        have hef : elseF (.node k2 a2 b2 ks re) q = if k2 = 9 then some (q, ks) else elseF re (q + 1 + ks.size) := by
          simp only [elseF]; rw [if_pos hk2]
        simp +contextual -dsimp -implicitDefEqProofs (maxSteps := 5000000) only [go_sem, reduceIte, reduceCtorEq, Nat.reduceEqDiff, Nat.reduceBEq, Nat.reduceAdd, Nat.reduceLeDiff, Nat.reduceMul, Nat.reduceLT, Int.reduceEq, Int.reduceLT, Int.reduceLE, rEn, t0, t1, t2, t6, t7, t8, t9, z1, z2, z4, z5, d1, d2, en_ed, en_val, toI_len, toI_at, toI_cons_at, List.length_cons, hx', hx2, hh2.1, hh2.2]
        refine draw_intro [0, 0, 0, 0, 0, 0, 0, 0, 0, 0, 0, 0, 0, 0, 0, 0, 0] _ (by kernel_rfl) (AHeap.le_refl _) ?_
        by_cases k9 : k2 = 9
        · by_cases e0 : ed = 0
          · subst e0
            rw [if_pos k9] at hef
            have hE := he rfl
            rw [hef] at hE
            obtain ⟨y1, y2⟩ := elseF_at (p := P) (lp := lp) rest _ q ks hrat hr hokr hE
            have em : midR t rest (i + 1 + kids.size) ⟨0, v⟩ h s0 = runF t ks (q + 1) none h s0 := by
              unfold midR; rw [if_pos rfl, hE]
            rw [em] at hmg hmgl ⊢
            simp +contextual -dsimp -implicitDefEqProofs (maxSteps := 5000000) only [go_sem, reduceIte, reduceCtorEq, Nat.reduceEqDiff, Nat.reduceBEq, Nat.reduceAdd, Nat.reduceLeDiff, Nat.reduceMul, Nat.reduceLT, Int.reduceEq, Int.reduceLT, Int.reduceLE, rEn, t0, t1, t2, t6, t7, t8, t9, z1, z2, z4, z5, d1, d2, en_ed, en_val, toI_len, toI_at, toI_cons_at, List.length_cons, hx', hx2, hh2.1, hh2.2, k9]
            refine (body ⟨0, v⟩ q 9 ks h y1 (by omega)).mono ?_
            rintro _ Hy ⟨rfl, H6, rfl, g1, g2, g3⟩
            generalize runF t ks (q + 1) none h s0 = r8 at hmg hmgl g1 ⊢
            simp +contextual -dsimp -implicitDefEqProofs (maxSteps := 5000000) only [go_sem, reduceIte, reduceCtorEq, Nat.reduceEqDiff, Nat.reduceBEq, Nat.reduceAdd, Nat.reduceLeDiff, Nat.reduceMul, Nat.reduceLT, Int.reduceEq, Int.reduceLT, Int.reduceLE, rEn, t0, t1, t2, t6, t7, t8, t9, z1, z2, z4, z5, d1, d2, en_ed, en_val]
            refine (fin r8.1 r8.2 H6 hmg.ok (by omega) hmg.val (fun q ks hq => by have := hml q ks hq; omega) g1 g2 g3).mono ?_
            rintro _ H' ⟨rfl, H5, rfl, w1, w2, w3⟩
            simp +contextual -dsimp -implicitDefEqProofs (maxSteps := 5000000) only [go_sem, reduceIte, reduceCtorEq, Nat.reduceEqDiff, Nat.reduceBEq, Nat.reduceAdd, Nat.reduceLeDiff, Nat.reduceMul, Nat.reduceLT, Int.reduceEq, Int.reduceLT, Int.reduceLE, rEn, t0, t1, t2, t6, t7, t8, t9, z1, z2, z4, z5, d1, d2, en_ed, en_val]
            refine retR_less (l := [.agg (rEn (finR t rest (i + 1 + kids.size) r8.1 h r8.2).1)]) (H' := H5) ?_ (le_s1 (le_s1 (AHeap.le_refl _) w2) w3) ⟨rfl, w1⟩
            simp only [resA, go_sem, reduceIte, reduceCtorEq, Nat.reduceEqDiff, Nat.reduceBEq, Nat.reduceAdd, Nat.reduceLeDiff, Nat.reduceMul, Nat.reduceLT, Int.reduceEq, Int.reduceLT, Int.reduceLE, rEn, d1, d2, t6]
          · simp +contextual -dsimp -implicitDefEqProofs (maxSteps := 5000000) only [go_sem, reduceIte, reduceCtorEq, Nat.reduceEqDiff, Nat.reduceBEq, Nat.reduceAdd, Nat.reduceLeDiff, Nat.reduceMul, Nat.reduceLT, Int.reduceEq, Int.reduceLT, Int.reduceLE, rEn, t0, t1, t2, t6, t7, t8, t9, z1, z2, z4, z5, d1, d2, en_ed, en_val, toI_len, toI_at, toI_cons_at, List.length_cons, hx', hx2, hh2.1, hh2.2, k9, e0]
            exact ⟨re.size, szl 9, re, q + 1 + ks.size, x + 1, rfl, hgat.rest, by omega, hx3, hx1, I_wrap (by omega) (by omega) (by omega)⟩
        · rw [if_neg k9] at hef
          simp +contextual -dsimp -implicitDefEqProofs (maxSteps := 5000000) only [go_sem, reduceIte, reduceCtorEq, Nat.reduceEqDiff, Nat.reduceBEq, Nat.reduceAdd, Nat.reduceLeDiff, Nat.reduceMul, Nat.reduceLT, Int.reduceEq, Int.reduceLT, Int.reduceLE, rEn, t0, t1, t2, t6, t7, t8, t9, z1, z2, z4, z5, d1, d2, en_ed, en_val, toI_len, toI_at, toI_cons_at, List.length_cons, hx', hx2, hh2.1, hh2.2, k9]
          exact ⟨re.size, szl k2, re, q + 1 + ks.size, x + 1, rfl, hgat.rest, by omega, hx3, hx1, fun e0 => by rw [he e0]; exact hef, I_wrap (by omega) (by omega) (by omega)⟩
end
section
open Go Go.Sim
set_option maxRecDepth 100000
set_option maxHeartbeats 4000000

theorem c_snextLine {P : List Line} {clp : Bool} {i : Nat} {d k a b : Int} {kids rest : Fo} (H : AHeap) (hat : At P i d (.node k a b kids rest)) (hp : P.length ≤ 4398046511104) :
    ACalls Tryz.prog 129 [aProg P clp, I i] H fun r H' => r = I (if k = 7 then skipN rest (i + 1 + kids.size) else i + 1 + kids.size : Nat) ∧ H' = H := by
  have hi := hat.head
  have hcl := chain_len rest (i + 1 + kids.size)
  have hrl := hat.rest.len
  by_cases k7 : k = 7
  · subst k7
    rw [if_pos rfl]
    have hce := chain_end rest (i + 1 + kids.size) i hat.rest hat.endP
    have hgl := getD_last i (chainN rest (i + 1 + kids.size))
    have hmem := chainP_mem hi.1 ((i :: chainN rest (i + 1 + kids.size)).getLastD 0) (by
      rw [chainP_at hat, ← hgl, List.getD_eq_getElem?_getD, List.getElem?_eq_getElem (by simp)]
      exact List.getElem_mem _)
    have hwl : IntKind.i64.wrap (((chainN rest (i + 1 + kids.size)).length + 1 : Nat) - 1) = ((chainN rest (i + 1 + kids.size)).length : Int) := by
      rw [w64 (by omega) (by omega)]; omega
    have hlt1 : ((chainN rest (i + 1 + kids.size)).length : Int) < (((chainN rest (i + 1 + kids.size)).length + 1 : Nat) : Int) := by omega
    have hlt2 : (chainN rest (i + 1 + kids.size)).length < (chainN rest (i + 1 + kids.size)).length + 1 := by omega
    refine acalls_of0 Tryz.func129 rfl (by kernel_rfl) rfl rfl (awp_sound (fz := fun _ => []) (im := fun _ => false) mixed _ _ _ _ (by kernel_rfl) ?_)
    simp +contextual -dsimp -implicitDefEqProofs (maxSteps := 5000000) only [go_sem, reduceIte, reduceCtorEq, Nat.reduceEqDiff, Nat.reduceBEq, Nat.reduceAdd, Nat.reduceLeDiff, Nat.reduceMul, Nat.reduceLT, Int.reduceEq, Int.reduceLT, Int.reduceLE, hi.1, hi.2]
    refine acalls_frz (c_chainOf P clp i _ hi.1 hp) fun cl2 => ?_
    rw [chainP_at hat]
    simp +contextual -dsimp -implicitDefEqProofs (maxSteps := 5000000) only [go_sem, reduceIte, reduceCtorEq, Nat.reduceEqDiff, Nat.reduceBEq, Nat.reduceAdd, Nat.reduceLeDiff, Nat.reduceMul, Nat.reduceLT, Int.reduceEq, Int.reduceLT, Int.reduceLE, toI_len, toI_at, List.length_cons, hwl, hgl, hlt1, hlt2]
    refine (c_blockEnd P clp _ _ hmem).det ?_
    rw [hce]
    simp +contextual -dsimp -implicitDefEqProofs (maxSteps := 5000000) only [go_sem, reduceIte, reduceCtorEq, Nat.reduceEqDiff, Nat.reduceBEq, Nat.reduceAdd, Nat.reduceLeDiff, Nat.reduceMul, Nat.reduceLT, Int.reduceEq, Int.reduceLT, Int.reduceLE]
  · rw [if_neg k7]
    refine acalls_of0 Tryz.func129 rfl (by kernel_rfl) rfl rfl (awp_sound (fz := fun _ => []) (im := fun _ => false) mixed _ _ _ _ (by kernel_rfl) ?_)
    simp +contextual -dsimp -implicitDefEqProofs (maxSteps := 5000000) only [go_sem, reduceIte, reduceCtorEq, Nat.reduceEqDiff, Nat.reduceBEq, Nat.reduceAdd, Nat.reduceLeDiff, Nat.reduceMul, Nat.reduceLT, Int.reduceEq, Int.reduceLT, Int.reduceLE, hi.1, hi.2, k7]
    refine (c_blockEnd P clp i _ hi.1).det ?_
    rw [hat.endP]
    simp +contextual -dsimp -implicitDefEqProofs (maxSteps := 5000000) only [go_sem, reduceIte, reduceCtorEq, Nat.reduceEqDiff, Nat.reduceBEq, Nat.reduceAdd, Nat.reduceLeDiff, Nat.reduceMul, Nat.reduceLT, Int.reduceEq, Int.reduceLT, Int.reduceLE]
theorem c_sagain {t : List Class} {cl : Bool} {P : List Line} {clp : Bool} {s : RS} {F H : AHeap} {bs : Nat} (g : Int) (hM : StS F H bs t cl P clp s) (hl : s.fs.length ≤ 999998) (ho : heapOk s.fs) :
    ACalls Tryz.prog 155 [.ptr bs 4 0 0, I g] H fun r H' => r = .agg (rEn (lineS 3 0 0 g s).1) ∧ StS F H' bs t cl P clp (lineS 3 0 0 g s).2 := by
  have e1 : lineS 3 0 0 g s = if g < 0 then (⟨2, s.fs.length⟩, s.raise 0 0 (-1)) else (⟨2, g⟩, s) := by
    unfold lineS; rw [if_neg (by decide), if_neg (by decide), if_pos rfl]
  rw [e1]
  refine acalls_of1 Tryz.func155 rfl (by kernel_rfl) rfl rfl (awp_sound (fz := fun _ => []) (im := fun _ => false) mixed _ _ _ _ (by kernel_rfl) ?_)
  simp +contextual -dsimp -implicitDefEqProofs (maxSteps := 5000000) only [go_sem, reduceIte, reduceCtorEq, Nat.reduceEqDiff, Nat.reduceBEq, Nat.reduceAdd, Nat.reduceLeDiff, Nat.reduceMul, Nat.reduceLT, Int.reduceEq, Int.reduceLT, Int.reduceLE]
  rintro b4 hb4
  have hF4 := sts_none hM hb4
  by_cases h0 : 0 ≤ g
  · rw [if_neg (by omega)]
    simp +contextual -dsimp -implicitDefEqProofs (maxSteps := 5000000) only [go_sem, reduceIte, reduceCtorEq, Nat.reduceEqDiff, Nat.reduceBEq, Nat.reduceAdd, Nat.reduceLeDiff, Nat.reduceMul, Nat.reduceLT, Int.reduceEq, Int.reduceLT, Int.reduceLE, h0]
    refine retR_less (l := [.agg (rEn ⟨2, g⟩)]) (H' := H) ?_ (le_set hb4) ⟨rfl, hM⟩
    simp only [resA, go_sem, reduceIte, reduceCtorEq, Nat.reduceEqDiff, Nat.reduceBEq, Nat.reduceAdd, Nat.reduceLeDiff, Nat.reduceMul, Nat.reduceLT, Int.reduceEq, Int.reduceLT, Int.reduceLE, rEn]
  · rw [if_pos (by omega)]
    simp +contextual -dsimp -implicitDefEqProofs (maxSteps := 5000000) only [go_sem, reduceIte, reduceCtorEq, Nat.reduceEqDiff, Nat.reduceBEq, Nat.reduceAdd, Nat.reduceLeDiff, Nat.reduceMul, Nat.reduceLT, Int.reduceEq, Int.reduceLT, Int.reduceLE, h0]
    refine (c_sraise 0 0 (-1) (sts_in (K := ⟨2, 123, [[I 0, I 0]]⟩) hM hb4) hl ho (by omega)).mono ?_
    rintro _ H9 ⟨rfl, hM9⟩
    obtain ⟨H10, rfl, w1, w2⟩ := sts_out hM9 hF4
    simp +contextual -dsimp -implicitDefEqProofs (maxSteps := 5000000) only [go_sem, reduceIte, reduceCtorEq, Nat.reduceEqDiff, Nat.reduceBEq, Nat.reduceAdd, Nat.reduceLeDiff, Nat.reduceMul, Nat.reduceLT, Int.reduceEq, Int.reduceLT, Int.reduceLE]
    refine retR_less (l := [.agg (rEn ⟨2, s.fs.length⟩)]) (H' := H10) ?_ (le_set w2) ⟨rfl, w1⟩
    simp only [resA, go_sem, reduceIte, reduceCtorEq, Nat.reduceEqDiff, Nat.reduceBEq, Nat.reduceAdd, Nat.reduceLeDiff, Nat.reduceMul, Nat.reduceLT, Int.reduceEq, Int.reduceLT, Int.reduceLE, rEn]
theorem c_sline {t : List Class} {cl : Bool} {P : List Line} {clp : Bool} {n : Nat} (ht : validT t = true) (ih : SBlkOk t cl P clp n) {i : Nat} {d k a b h : Int} {kids rest : Fo} {s : RS} {F H : AHeap} {bs : Nat} {lp : Bool}
    (k7 : k ≠ 7) (hn : kids.size < n) (hat : At P i d (.node k a b kids rest)) (hno : numOk t k a b = true) (hk : numsF t kids (d + 1) = true) (ho11 : k = 11 → okF kids lp false = true) (ho12 : k = 12 → okF kids true false = true) (hs : FsOk t s.fs) (hh : h < s.fs.length)
    (hl : s.log.length + (2 + (if k = 12 then a.toNat * cost kids else cost kids)) ≤ 900000) (hf : s.fs.length + (2 + (if k = 12 then a.toNat * cost kids else cost kids)) ≤ 900000) (hM : StS F H bs t cl P clp s) (hp : P.length ≤ 4398046511104) :
    ACalls Tryz.prog 130 [.ptr bs 4 0 0, I i, I h] H fun r H' => r = .agg (rEn (lineR k a b i h (fun s => runF t kids (i + 1) none h s) s).1) ∧ StS F H' bs t cl P clp (lineR k a b i h (fun s => runF t kids (i + 1) none h s) s).2 := by
  have hi := hat.head.1
  have hx := hat.head.2
  obtain ⟨xl, G, clf, hF, hg1, hb, rfl⟩ := id hM
  have hfl : s.fs.length ≤ 999998 := by omega
  refine acalls_of1 Tryz.func130 rfl (by kernel_rfl) rfl rfl (awp_sound (fz := fun r => if r = 1 then [7] else []) (im := fun _ => false) mixed _ _ _ _ (by kernel_rfl) ?_)
  simp +contextual -dsimp -implicitDefEqProofs (maxSteps := 5000000) only [go_sem, reduceIte, reduceCtorEq, Nat.reduceEqDiff, Nat.reduceBEq, Nat.reduceAdd, Nat.reduceLeDiff, Nat.reduceMul, Nat.reduceLT, Int.reduceEq, Int.reduceLT, Int.reduceLE, hi, hx]
  rintro b6 ⟨n1, n2, hn2⟩
  have hF6 : F b6 = none := grow_none hg1 hn2
  have nb6 : ∀ K, (G.set bs K) b6 = none := fun K => by rw [set_other n1]; exact hn2
  rintro b7 hb7
  have hMin := sts_in (K := ⟨2, 123, [[I 0, I 0]]⟩) hM (nb6 _)
  have e0 : k ≠ 11 → k ≠ 12 → lineR k a b i h (fun s => runF t kids (i + 1) none h s) s = lineS k a b h (s.jump k i) := fun q1 q2 => by unfold lineR; rw [if_neg q1, if_neg q2]
  have sj : (s.jump k i).log = s.log ∧ (s.jump k i).fs = s.fs := by unfold RS.jump; split <;> exact ⟨rfl, rfl⟩
  have stJ : ∀ (H : AHeap) (s1 s2 : RS), s1.log = s2.log → s1.fs = s2.fs → StS F H bs t cl P clp s1 → StS F H bs t cl P clp s2 := by
    rintro H s1 s2 e1 e2 ⟨xl, G, clf, w1, w2, w3, w4⟩
    rw [e1] at w2
    rw [e2] at w4
    exact ⟨xl, G, clf, w1, w2, w3, w4⟩
  by_cases k1 : k = 1
  · have e : lineR k a b i h (fun s => runF t kids (i + 1) none h s) s = (.next, (s.jump k i).tell a) := by
      rw [e0 (by omega) (by omega)]; unfold lineS; rw [if_pos k1]
    rw [e]
    simp +contextual -dsimp -implicitDefEqProofs (maxSteps := 5000000) only [go_sem, reduceIte, reduceCtorEq, Nat.reduceEqDiff, Nat.reduceBEq, Nat.reduceAdd, Nat.reduceLeDiff, Nat.reduceMul, Nat.reduceLT, Int.reduceEq, Int.reduceLT, Int.reduceLE, hi, hx, n1, n2, k1]
    refine draw_intro [0, 0, 0, 0, 0, 0, 0, 0, 2, 0, 0, 2] AHeap.none (by kernel_rfl) none_le ?_
    simp +contextual -dsimp -implicitDefEqProofs (maxSteps := 5000000) only [go_sem, reduceIte, reduceCtorEq, Nat.reduceEqDiff, Nat.reduceBEq, Nat.reduceAdd, Nat.reduceLeDiff, Nat.reduceMul, Nat.reduceLT, Int.reduceEq, Int.reduceLT, Int.reduceLE, hi, hx, n1, n2, k1]
    refine sts_app1 hg1 hb n1 hn2 (by omega) fun x2 G2 y1 y3 y4 y5 => ?_
    obtain ⟨r1, r2⟩ := y5
    simp +contextual -dsimp -implicitDefEqProofs (maxSteps := 5000000) only [go_sem, reduceIte, reduceCtorEq, Nat.reduceEqDiff, Nat.reduceBEq, Nat.reduceAdd, Nat.reduceLeDiff, Nat.reduceMul, Nat.reduceLT, Int.reduceEq, Int.reduceLT, Int.reduceLE, n1, n2, r1, r2]
    have hMt : StS F (G2.set bs ⟨4, 121, [[.vsl (t.map rClass) cl, aProg P clp, x2, .vsl (s.fs.map rFault) clf]]⟩) bs t cl P clp (s.tell a) := ⟨x2, G2, clf, hF, y1, y3, rfl⟩
    refine retR_less (l := [.agg (rEn .next)]) (H' := G2.set bs _) ?_ (le_set (by rw [set_other n1]; exact y4)) ⟨rfl, stJ _ (s.tell a) _ ?_ ?_ hMt⟩
    · simp only [resA, go_sem, reduceIte, reduceCtorEq, Nat.reduceEqDiff, Nat.reduceBEq, Nat.reduceAdd, Nat.reduceLeDiff, Nat.reduceMul, Nat.reduceLT, Int.reduceEq, Int.reduceLT, Int.reduceLE, rEn, En.next]
    · show s.log ++ [a] = (s.jump k i).log ++ [a]
      rw [sj.1]
    · show s.fs = (s.jump k i).fs
      rw [sj.2]
  by_cases k2 : k = 2
  · have e : lineR k a b i h (fun s => runF t kids (i + 1) none h s) s = (⟨2, s.fs.length⟩, (s.jump k i).raise a b h) := by
      rw [e0 (by omega) (by omega)]; unfold lineS; rw [if_neg k1, if_pos k2, sj.2]
    rw [e]
    simp +contextual -dsimp -implicitDefEqProofs (maxSteps := 5000000) only [go_sem, reduceIte, reduceCtorEq, Nat.reduceEqDiff, Nat.reduceBEq, Nat.reduceAdd, Nat.reduceLeDiff, Nat.reduceMul, Nat.reduceLT, Int.reduceEq, Int.reduceLT, Int.reduceLE, hi, hx, n1, n2, k2]
    refine (c_sraise a b h hMin hfl hs.ho hh).mono ?_
    rintro _ H9 ⟨rfl, hM9⟩
    obtain ⟨H10, rfl, w1, w2⟩ := sts_out hM9 hF6
    simp +contextual -dsimp -implicitDefEqProofs (maxSteps := 5000000) only [go_sem, reduceIte, reduceCtorEq, Nat.reduceEqDiff, Nat.reduceBEq, Nat.reduceAdd, Nat.reduceLeDiff, Nat.reduceMul, Nat.reduceLT, Int.reduceEq, Int.reduceLT, Int.reduceLE, n1, n2]
    refine retR_less (l := [.agg (rEn ⟨2, s.fs.length⟩)]) (H' := H10) ?_ (le_set w2) ⟨rfl, stJ _ (s.raise a b h) _ ?_ ?_ w1⟩
    · simp only [resA, go_sem, reduceIte, reduceCtorEq, Nat.reduceEqDiff, Nat.reduceBEq, Nat.reduceAdd, Nat.reduceLeDiff, Nat.reduceMul, Nat.reduceLT, Int.reduceEq, Int.reduceLT, Int.reduceLE, rEn]
    · show s.log = (s.jump k i).log
      rw [sj.1]
    · show raiseF s.fs a b h = raiseF (s.jump k i).fs a b h
      rw [sj.2]
  by_cases k3 : k = 3
  · have e : lineR k a b i h (fun s => runF t kids (i + 1) none h s) s = lineS 3 0 0 h (s.jump k i) := by
      rw [e0 (by omega) (by omega)]
      generalize s.jump k i = s1
      rw [k3]
      simp [lineS]
    rw [e]
    have hMj := stJ _ s (s.jump k i) sj.1.symm sj.2.symm hM
    have key := c_sagain h (sts_in (K := ⟨2, 123, [[I 0, I 0]]⟩) hMj (nb6 _)) (by rw [sj.2]; exact hfl) (by rw [sj.2]; exact hs.ho)
    generalize lineS 3 0 0 h (s.jump k i) = r at key ⊢
    simp +contextual -dsimp -implicitDefEqProofs (maxSteps := 5000000) only [go_sem, reduceIte, reduceCtorEq, Nat.reduceEqDiff, Nat.reduceBEq, Nat.reduceAdd, Nat.reduceLeDiff, Nat.reduceMul, Nat.reduceLT, Int.reduceEq, Int.reduceLT, Int.reduceLE, hi, hx, n1, n2, k3]
    refine key.mono ?_
    rintro _ H9 ⟨rfl, hM9⟩
    obtain ⟨H10, rfl, w1, w2⟩ := sts_out hM9 hF6
    simp +contextual -dsimp -implicitDefEqProofs (maxSteps := 5000000) only [go_sem, reduceIte, reduceCtorEq, Nat.reduceEqDiff, Nat.reduceBEq, Nat.reduceAdd, Nat.reduceLeDiff, Nat.reduceMul, Nat.reduceLT, Int.reduceEq, Int.reduceLT, Int.reduceLE, n1, n2, rEn]
    refine retR_less (l := [.agg (rEn r.1)]) (H' := H10) ?_ (le_set w2) ⟨rfl, w1⟩
    simp only [resA, go_sem, reduceIte, reduceCtorEq, Nat.reduceEqDiff, Nat.reduceBEq, Nat.reduceAdd, Nat.reduceLeDiff, Nat.reduceMul, Nat.reduceLT, Int.reduceEq, Int.reduceLT, Int.reduceLE, rEn]
  by_cases k4 : k = 4
  · subst k4
    have e : lineR 4 a b i h (fun s => runF t kids (i + 1) none h s) s = (⟨1, a⟩, s.jump 4 i) := by
      rw [e0 (by omega) (by omega)]; unfold lineS; rw [if_neg k1, if_neg k2, if_neg k3, if_pos rfl]
    have hMj := stJ _ s (s.jump 4 i) sj.1.symm sj.2.symm hM
    rw [e]
    simp +contextual -dsimp -implicitDefEqProofs (maxSteps := 5000000) only [go_sem, reduceIte, reduceCtorEq, Nat.reduceEqDiff, Nat.reduceBEq, Nat.reduceAdd, Nat.reduceLeDiff, Nat.reduceMul, Nat.reduceLT, Int.reduceEq, Int.reduceLT, Int.reduceLE, hi, hx, n1, n2]
    refine retR_less (l := [.agg (rEn ⟨1, a⟩)]) (H' := G.set bs _) ?_ (le_set (nb6 _)) ⟨rfl, hMj⟩
    simp only [resA, go_sem, reduceIte, reduceCtorEq, Nat.reduceEqDiff, Nat.reduceBEq, Nat.reduceAdd, Nat.reduceLeDiff, Nat.reduceMul, Nat.reduceLT, Int.reduceEq, Int.reduceLT, Int.reduceLE, rEn]
  by_cases k5 : k = 5
  · subst k5
    have e : lineR 5 a b i h (fun s => runF t kids (i + 1) none h s) s = (⟨3, 0⟩, s.jump 5 i) := by
      rw [e0 (by omega) (by omega)]; unfold lineS; rw [if_neg k1, if_neg k2, if_neg k3, if_neg k4, if_pos rfl]
    have hMj := stJ _ s (s.jump 5 i) sj.1.symm sj.2.symm hM
    rw [e]
    simp +contextual -dsimp -implicitDefEqProofs (maxSteps := 5000000) only [go_sem, reduceIte, reduceCtorEq, Nat.reduceEqDiff, Nat.reduceBEq, Nat.reduceAdd, Nat.reduceLeDiff, Nat.reduceMul, Nat.reduceLT, Int.reduceEq, Int.reduceLT, Int.reduceLE, hi, hx, n1, n2]
    refine retR_less (l := [.agg (rEn ⟨3, 0⟩)]) (H' := G.set bs _) ?_ (le_set (nb6 _)) ⟨rfl, hMj⟩
    simp only [resA, go_sem, reduceIte, reduceCtorEq, Nat.reduceEqDiff, Nat.reduceBEq, Nat.reduceAdd, Nat.reduceLeDiff, Nat.reduceMul, Nat.reduceLT, Int.reduceEq, Int.reduceLT, Int.reduceLE, rEn]
  by_cases k6 : k = 6
  · subst k6
    have e : lineR 6 a b i h (fun s => runF t kids (i + 1) none h s) s = (⟨4, 0⟩, s.jump 6 i) := by
      rw [e0 (by omega) (by omega)]; unfold lineS; rw [if_neg k1, if_neg k2, if_neg k3, if_neg k4, if_neg k5, if_pos rfl]
    have hMj := stJ _ s (s.jump 6 i) sj.1.symm sj.2.symm hM
    rw [e]
    simp +contextual -dsimp -implicitDefEqProofs (maxSteps := 5000000) only [go_sem, reduceIte, reduceCtorEq, Nat.reduceEqDiff, Nat.reduceBEq, Nat.reduceAdd, Nat.reduceLeDiff, Nat.reduceMul, Nat.reduceLT, Int.reduceEq, Int.reduceLT, Int.reduceLE, hi, hx, n1, n2]
    refine retR_less (l := [.agg (rEn ⟨4, 0⟩)]) (H' := G.set bs _) ?_ (le_set (nb6 _)) ⟨rfl, hMj⟩
    simp only [resA, go_sem, reduceIte, reduceCtorEq, Nat.reduceEqDiff, Nat.reduceBEq, Nat.reduceAdd, Nat.reduceLeDiff, Nat.reduceMul, Nat.reduceLT, Int.reduceEq, Int.reduceLT, Int.reduceLE, rEn]
  by_cases k11 : k = 11
  · subst k11
    have e : lineR 11 a b i h (fun s => runF t kids (i + 1) none h s) s = withS a b (runF t kids (i + 1) none h (s.tell (100 + a))) := by unfold lineR; rw [if_pos rfl]
    rw [e]
    rw [if_neg (by decide)] at hl hf
    have key := c_swith ht ih hn hat hno hk (ho11 rfl) hs hh hl hf hMin hp
    generalize withS a b (runF t kids (i + 1) none h (s.tell (100 + a))) = r at key ⊢
    simp +contextual -dsimp -implicitDefEqProofs (maxSteps := 5000000) only [go_sem, reduceIte, reduceCtorEq, Nat.reduceEqDiff, Nat.reduceBEq, Nat.reduceAdd, Nat.reduceLeDiff, Nat.reduceMul, Nat.reduceLT, Int.reduceEq, Int.reduceLT, Int.reduceLE, hi, hx, n1, n2]
    refine key.mono ?_
    rintro _ H9 ⟨rfl, hM9⟩
    obtain ⟨H10, rfl, w1, w2⟩ := sts_out hM9 hF6
    simp +contextual -dsimp -implicitDefEqProofs (maxSteps := 5000000) only [go_sem, reduceIte, reduceCtorEq, Nat.reduceEqDiff, Nat.reduceBEq, Nat.reduceAdd, Nat.reduceLeDiff, Nat.reduceMul, Nat.reduceLT, Int.reduceEq, Int.reduceLT, Int.reduceLE, n1, n2, rEn]
    refine retR_less (l := [.agg (rEn r.1)]) (H' := H10) ?_ (le_set w2) ⟨rfl, w1⟩
    simp only [resA, go_sem, reduceIte, reduceCtorEq, Nat.reduceEqDiff, Nat.reduceBEq, Nat.reduceAdd, Nat.reduceLeDiff, Nat.reduceMul, Nat.reduceLT, Int.reduceEq, Int.reduceLT, Int.reduceLE, rEn]
  by_cases k12 : k = 12
  · subst k12
    have e : lineR 12 a b i h (fun s => runF t kids (i + 1) none h s) s = loopS (fun s => runF t kids (i + 1) none h s) a.toNat s := by unfold lineR; rw [if_neg (by decide), if_pos rfl]
    rw [e]
    rw [if_pos rfl] at hl hf
    have key := c_sloop ht ih hn hat hno hk (ho12 rfl) hs hh hl hf hMin hp
    generalize loopS (fun s => runF t kids (i + 1) none h s) a.toNat s = r at key ⊢
    simp +contextual -dsimp -implicitDefEqProofs (maxSteps := 5000000) only [go_sem, reduceIte, reduceCtorEq, Nat.reduceEqDiff, Nat.reduceBEq, Nat.reduceAdd, Nat.reduceLeDiff, Nat.reduceMul, Nat.reduceLT, Int.reduceEq, Int.reduceLT, Int.reduceLE, hi, hx, n1, n2]
    refine key.mono ?_
    rintro _ H9 ⟨rfl, hM9⟩
    obtain ⟨H10, rfl, w1, w2⟩ := sts_out hM9 hF6
    simp +contextual -dsimp -implicitDefEqProofs (maxSteps := 5000000) only [go_sem, reduceIte, reduceCtorEq, Nat.reduceEqDiff, Nat.reduceBEq, Nat.reduceAdd, Nat.reduceLeDiff, Nat.reduceMul, Nat.reduceLT, Int.reduceEq, Int.reduceLT, Int.reduceLE, n1, n2, rEn]
    refine retR_less (l := [.agg (rEn r.1)]) (H' := H10) ?_ (le_set w2) ⟨rfl, w1⟩
    simp only [resA, go_sem, reduceIte, reduceCtorEq, Nat.reduceEqDiff, Nat.reduceBEq, Nat.reduceAdd, Nat.reduceLeDiff, Nat.reduceMul, Nat.reduceLT, Int.reduceEq, Int.reduceLT, Int.reduceLE, rEn]
  have e : lineR k a b i h (fun s => runF t kids (i + 1) none h s) s = (.next, s.jump k i) := by
    rw [e0 k11 k12]; unfold lineS; rw [if_neg k1, if_neg k2, if_neg k3, if_neg k4, if_neg k5, if_neg k6]
  have hMj := stJ _ s (s.jump k i) sj.1.symm sj.2.symm hM
  rw [e]
  simp +contextual -dsimp -implicitDefEqProofs (maxSteps := 5000000) only [go_sem, reduceIte, reduceCtorEq, Nat.reduceEqDiff, Nat.reduceBEq, Nat.reduceAdd, Nat.reduceLeDiff, Nat.reduceMul, Nat.reduceLT, Int.reduceEq, Int.reduceLT, Int.reduceLE, hi, hx, n1, n2, k1, k2, k3, k4, k5, k6, k7, k11, k12]
  refine retR_less (l := [.agg (rEn .next)]) (H' := G.set bs _) ?_ (le_set (nb6 _)) ⟨rfl, hMj⟩
  simp only [resA, go_sem, reduceIte, reduceCtorEq, Nat.reduceEqDiff, Nat.reduceBEq, Nat.reduceAdd, Nat.reduceLeDiff, Nat.reduceMul, Nat.reduceLT, Int.reduceEq, Int.reduceLT, Int.reduceLE, rEn, En.next]
end
section
open Go Go.Sim
set_option maxRecDepth 100000
set_option maxHeartbeats 4000000

theorem c_slineTry {t : List Class} {cl : Bool} {P : List Line} {clp : Bool} {n : Nat} (ht : validT t = true) (ih : SBlkOk t cl P clp n) {i : Nat} {d a b h : Int} {kids rest : Fo} {s : RS} {F H : AHeap} {bs : Nat} {lp : Bool}
    (hn : kids.size + rest.size < n) (hat : At P i d (.node 7 a b kids rest)) (hk : numsF t kids (d + 1) = true) (hr : numsF t rest d = true) (hok : okF kids lp false = true) (hokr : okF rest lp true = true) (hto : tryG 7 (headsK rest) = true) (hs : FsOk t s.fs) (hh : h < s.fs.length)
    (hl : s.log.length + (cost kids + cost rest) ≤ 900000) (hf : s.fs.length + (cost kids + cost rest) ≤ 900000) (hM : StS F H bs t cl P clp s) (hp : P.length ≤ 4398046511104) :
    ACalls Tryz.prog 130 [.ptr bs 4 0 0, I i, I h] H fun r H' =>
      r = .agg (rEn (chainR t rest (i + 1 + kids.size) (runF t kids (i + 1) none h s).1 (runF t kids (i + 1) none h s).1 h (runF t kids (i + 1) none h s).2).1) ∧
      StS F H' bs t cl P clp (chainR t rest (i + 1 + kids.size) (runF t kids (i + 1) none h s).1 (runF t kids (i + 1) none h s).1 h (runF t kids (i + 1) none h s).2).2 := by
  have hi := hat.head.1
  have hx := hat.head.2
  obtain ⟨xl, G, clf, hF, hg1, hb, rfl⟩ := id hM
  refine acalls_of1 Tryz.func130 rfl (by kernel_rfl) rfl rfl (awp_sound (fz := fun r => if r = 1 then [7] else []) (im := fun _ => false) mixed _ _ _ _ (by kernel_rfl) ?_)
  simp +contextual -dsimp -implicitDefEqProofs (maxSteps := 5000000) only [go_sem, reduceIte, reduceCtorEq, Nat.reduceEqDiff, Nat.reduceBEq, Nat.reduceAdd, Nat.reduceLeDiff, Nat.reduceMul, Nat.reduceLT, Int.reduceEq, Int.reduceLT, Int.reduceLE, hi, hx]
  rintro b6 ⟨n1, n2, hn2⟩
  have hF6 : F b6 = none := grow_none hg1 hn2
  have nb6 : ∀ K, (G.set bs K) b6 = none := fun K => by rw [set_other n1]; exact hn2
  rintro b7 hb7
  have key := c_stry ht ih hn hat hk hr hok hokr hto hs hh hl hf (sts_in (K := ⟨2, 123, [[I 0, I 0]]⟩) hM (nb6 _)) hp
  generalize chainR t rest (i + 1 + kids.size) (runF t kids (i + 1) none h s).1 (runF t kids (i + 1) none h s).1 h (runF t kids (i + 1) none h s).2 = r at key ⊢
  refine key.mono ?_
  rintro _ H9 ⟨rfl, hM9⟩
  obtain ⟨H10, rfl, w1, w2⟩ := sts_out hM9 hF6
  simp +contextual -dsimp -implicitDefEqProofs (maxSteps := 5000000) only [go_sem, reduceIte, reduceCtorEq, Nat.reduceEqDiff, Nat.reduceBEq, Nat.reduceAdd, Nat.reduceLeDiff, Nat.reduceMul, Nat.reduceLT, Int.reduceEq, Int.reduceLT, Int.reduceLE, n1, n2, rEn]
  refine retR_less (l := [.agg (rEn r.1)]) (H' := H10) ?_ (le_set w2) ⟨rfl, w1⟩
  simp only [resA, go_sem, reduceIte, reduceCtorEq, Nat.reduceEqDiff, Nat.reduceBEq, Nat.reduceAdd, Nat.reduceLeDiff, Nat.reduceMul, Nat.reduceLT, Int.reduceEq, Int.reduceLT, Int.reduceLE, rEn]
theorem okF_skip {lp : Bool} : ∀ f : Fo, okF f lp true = true → okF (skipF f) lp false = true
  | .nil, _ => rfl
  | .node k a b kids rest, h => by
    simp only [skipF]
    by_cases hk : followsK k = true
    · rw [if_pos hk]; exact okF_skip rest (okF_rest hk h)
    · rw [if_neg hk]
      have : okF (.node k a b kids rest) lp true = okF (.node k a b kids rest) lp false := by
        have hk' : followsK k = false := by simpa using hk
        simp only [okF, hk']; rfl
      rw [← this]; exact h
theorem c_sblkStep {t : List Class} {cl : Bool} {P : List Line} {clp : Bool} {n : Nat} (ht : validT t = true) (hp : P.length ≤ 4398046511104) (ih : SBlkOk t cl P clp n) : SBlkOk t cl P clp (n + 1) := by
  intro f i d h s F H bs lp hfn hat hnf hok hs hh hl hf hM
  have hfl := hat.len
  refine acalls_of1 Tryz.func82 rfl (by kernel_rfl) rfl rfl (awp_sound (fz := fun r => if r = 4 then [10] else []) (im := fun _ => false) mixed _ _ _ _ (by kernel_rfl) ?_)
  simp +contextual -dsimp -implicitDefEqProofs (maxSteps := 5000000) only [go_sem, reduceIte, reduceCtorEq, Nat.reduceEqDiff, Nat.reduceBEq, Nat.reduceAdd, Nat.reduceLeDiff, Nat.reduceMul, Nat.reduceLT, Int.reduceEq, Int.reduceLT, Int.reduceLE]
  intro b8 hb8
  have hF8 := sts_none hM hb8
  refine aloop mixed (fz := fun r => if r = 4 then [10] else []) (im := fun _ => false) (by kernel_rfl) (fun m tm H' => ∃ (g : Fo) (q : Nat) (s' : RS) (H'' : AHeap), m = g.size ∧ At P q d g ∧ numsF t g d = true ∧ okF g lp false = true ∧ g.size ≤ f.size ∧ q + g.size = i + f.size ∧ FsOk t s'.fs ∧ s.fs.length ≤ s'.fs.length ∧ s'.log.length + cost g ≤ 900000 ∧ s'.fs.length + cost g ≤ 900000 ∧ runF t f i none h s = runF t g q none h s' ∧ H' = H''.set b8 ⟨2, 123, [[I 0, I 0]]⟩ ∧ H'' b8 = none ∧ StS F H'' bs t cl P clp s' ∧ tm 0 = .ptr bs 4 0 0 ∧ tm 2 = I (i + f.size : Nat) ∧ tm 3 = I h ∧ tm 8 = .ptr b8 2 0 0 ∧ tm 9 = I q) f.size ⟨f, i, s, H, rfl, hat, hnf, hok, Nat.le_refl _, rfl, hs, Nat.le_refl _, hl, hf, rfl, rfl, hb8, hM, ?_⟩ ?_
  · simp +contextual -dsimp -implicitDefEqProofs (maxSteps := 5000000) only [go_sem, reduceIte, reduceCtorEq, Nat.reduceEqDiff, Nat.reduceBEq, Nat.reduceAdd, Nat.reduceLeDiff, Nat.reduceMul, Nat.reduceLT, Int.reduceEq, Int.reduceLT, Int.reduceLE]
  · rintro m tm _ ⟨g, q, s', H'', rfl, hgat, hgn, hgo2, hgs, hgq, hs', hsl, bl, bf, he, rfl, h8, hM', t0, t2, t3, t8, t9⟩
    cases g with
    | nil =>
      have z : ¬ q < i + f.size := by simp only [Fo.size] at hgq; omega
      rw [he]
      simp +contextual -dsimp -implicitDefEqProofs (maxSteps := 5000000) only [go_sem, reduceIte, reduceCtorEq, Nat.reduceEqDiff, Nat.reduceBEq, Nat.reduceAdd, Nat.reduceLeDiff, Nat.reduceMul, Nat.reduceLT, Int.reduceEq, Int.reduceLT, Int.reduceLE, t0, t2, t3, t8, t9, z]
      refine retR_less (l := [.agg (rEn .next)]) (H' := H'') ?_ (le_set h8) ⟨rfl, hM'⟩
      simp only [resA, go_sem, reduceIte, reduceCtorEq, Nat.reduceEqDiff, Nat.reduceBEq, Nat.reduceAdd, Nat.reduceLeDiff, Nat.reduceMul, Nat.reduceLT, Int.reduceEq, Int.reduceLT, Int.reduceLE, rEn, En.next, t8]
    | node k a b kids rest =>
      have hsz : (Fo.node k a b kids rest).size = 1 + kids.size + rest.size := rfl
      have z : q < i + f.size := by omega
      have hq := hgat.head
      obtain ⟨n1, n2, n3, n4, n5⟩ := numsF_node hgn
      have hMin := sts_in (K := ⟨2, 123, [[I 0, I 0]]⟩) hM' h8
      have adv : ∀ (SZ : Nat) (g' : Fo) (q' : Nat) (s'' : RS) (H3 : AHeap), g'.size < SZ → g'.size ≤ rest.size → At P q' d g' → numsF t g' d = true → okF g' lp false = true → q' + g'.size = i + f.size → runF t (.node k a b kids rest) q none h s' = runF t g' q' none h s'' → FsOk t s''.fs → s.fs.length ≤ s''.fs.length → s''.log.length + cost g' ≤ 900000 → s''.fs.length + cost g' ≤ 900000 → H3 b8 = none → StS F H3 bs t cl P clp s'' →
          ∃ m', m' < SZ ∧ ∃ (g : Fo) (q : Nat) (s' : RS) (H'' : AHeap), m' = g.size ∧ At P q d g ∧ numsF t g d = true ∧ okF g lp false = true ∧ g.size ≤ f.size ∧ q + g.size = i + f.size ∧ FsOk t s'.fs ∧ s.fs.length ≤ s'.fs.length ∧ s'.log.length + cost g ≤ 900000 ∧ s'.fs.length + cost g ≤ 900000 ∧ runF t f i none h s = runF t g q none h s' ∧ H3.set b8 ⟨2, 123, [[I 0, I 0]]⟩ = H''.set b8 ⟨2, 123, [[I 0, I 0]]⟩ ∧ H'' b8 = none ∧ StS F H'' bs t cl P clp s' ∧ I q' = I q :=
        fun SZ g' q' s'' H3 w1 w0 w2 w3 w3b w4 w5 w6 w7 w8 w9 w10 w11 => ⟨g'.size, w1, g', q', s'', H3, rfl, w2, w3, w3b, by omega, w4, w6, w7, w8, w9, by rw [he]; exact w5, rfl, w10, w11, rfl⟩
      have nx := fun H => c_snextLine (clp := clp) H hgat hp
      by_cases k7 : k = 7
      · subst k7
        have hc : cost (.node 7 a b kids rest) = 2 + cost kids + cost rest := cost_node_le (by omega)
        obtain ⟨_, o1, o2, o3⟩ | ⟨_, ⟨_, o1, o2, o3⟩ | ⟨o0, _⟩⟩ := okF_node hgo2
        · cases o1
        · have hto : tryG 7 (headsK rest) = true := by
            unfold tryOkF at o1
            rw [Bool.and_eq_true] at o1
            exact o1.1
          have hgo0 := goes_run ht kids (q + 1) none (d + 1) h s' n4 hs' (by omega) trivial
          have hgl0 := hgo0.len
          have hss := skipN_add rest (q + 1 + kids.size)
          have hsf := skipF_size rest
          have key := c_slineTry (h := h) ht ih (by omega) hgat n4 n5 o2 o3 hto hs' (by omega) (by omega) (by omega) hMin hp
          have hrun := runF_try (t := t) (a := a) (b := b) (kids := kids) (rest := rest) (i := q) (h := h) (s := s')
          simp only [runF_some] at hrun
          generalize runF t kids (q + 1) none h s' = r0 at key hgo0 hgl0 hrun
          obtain ⟨c, hc1, hgo⟩ := goes_chain ht rest (q + 1 + kids.size) r0.1 r0.1 d h r0.2 n5 hgo0.ok (by omega) ⟨hgo0.val, hgo0.val⟩
          have hgl := hgo.len
          generalize chainR t rest (q + 1 + kids.size) r0.1 r0.1 h r0.2 = r at key hgo hgl hrun
          simp +contextual -dsimp -implicitDefEqProofs (maxSteps := 5000000) only [go_sem, reduceIte, reduceCtorEq, Nat.reduceEqDiff, Nat.reduceBEq, Nat.reduceAdd, Nat.reduceLeDiff, Nat.reduceMul, Nat.reduceLT, Int.reduceEq, Int.reduceLT, Int.reduceLE, t0, t2, t3, t8, t9, z]
          refine key.mono ?_
          rintro _ H3 ⟨rfl, hM3⟩
          obtain ⟨H4, rfl, w1, w2⟩ := sts_out hM3 hF8
          obtain ⟨xl4, G4, clf4, hFb4, hg4, hb4, rfl⟩ := id w1
          have w2' := w2
          rw [set_none] at w2'
          obtain ⟨z1, z2, z3⟩ := w2'
          by_cases c0 : r.1.ed = 0
          · simp only [c0, if_true] at hrun
            simp +contextual -dsimp -implicitDefEqProofs (maxSteps := 5000000) only [go_sem, reduceIte, reduceCtorEq, Nat.reduceEqDiff, Nat.reduceBEq, Nat.reduceAdd, Nat.reduceLeDiff, Nat.reduceMul, Nat.reduceLT, Int.reduceEq, Int.reduceLT, Int.reduceLE, rEn, t0, t2, t3, t8, t9, z, z1, z2, c0]
            rintro b10 hb10
            refine (nx _).det ?_
            rw [if_pos rfl]
            simp +contextual -dsimp -implicitDefEqProofs (maxSteps := 5000000) only [go_sem, reduceIte, reduceCtorEq, Nat.reduceEqDiff, Nat.reduceBEq, Nat.reduceAdd, Nat.reduceLeDiff, Nat.reduceMul, Nat.reduceLT, Int.reduceEq, Int.reduceLT, Int.reduceLE, t0, t2, t3, t8, t9, z1, z2]
            exact adv _ (skipF rest) (skipN rest (q + 1 + kids.size)) r.2 _ (by simp only [Fo.size]; omega) hsf hgat.rest.skip (numsF_skip rest n5) (okF_skip rest o3) (by omega) hrun hgo.ok (by omega) (by omega) (by omega) w2 w1
          · simp only [c0, if_false] at hrun
            simp +contextual -dsimp -implicitDefEqProofs (maxSteps := 5000000) only [go_sem, reduceIte, reduceCtorEq, Nat.reduceEqDiff, Nat.reduceBEq, Nat.reduceAdd, Nat.reduceLeDiff, Nat.reduceMul, Nat.reduceLT, Int.reduceEq, Int.reduceLT, Int.reduceLE, rEn, t0, t2, t3, t8, t9, z, z1, z2, c0]
            rintro b10 hb10
            rw [he, hrun]
            refine retR_less (l := [.agg (rEn r.1)]) (H' := G4.set bs _) ?_ (le_set w2) ⟨rfl, w1⟩
            simp only [resA, go_sem, reduceIte, reduceCtorEq, Nat.reduceEqDiff, Nat.reduceBEq, Nat.reduceAdd, Nat.reduceLeDiff, Nat.reduceMul, Nat.reduceLT, Int.reduceEq, Int.reduceLT, Int.reduceLE, rEn, t8]
        · exact absurd rfl o0
      · obtain ⟨_, o1, o2, o3⟩ | ⟨_, ⟨o0, _⟩ | ⟨_, o1, o2, o3, _⟩⟩ := okF_node hgo2
        · cases o1
        · exact absurd o0 k7
        · have hgo := goes_lineR (h := h) (i := q) (body := fun s => runF t kids (q + 1) none h s) (n := cost kids) ht hs' n1 (by omega) (fun s2 hs2 hl2 => goes_run ht kids (q + 1) none (d + 1) h s2 n4 hs2 (by omega) trivial)
          have hgl := hgo.len
          have hrun := runF_line (t := t) (a := a) (b := b) (kids := kids) (rest := rest) (i := q) (h := h) (s := s') k7
          have hcn : cost (.node k a b kids rest) = 2 + (if k = 12 then a.toNat * cost kids else cost kids) + cost rest := rfl
          have key := c_sline (h := h) (lp := lp) ht ih k7 (by omega) hgat n1 n4 o2 o3 hs' (by omega) (by omega) (by omega) hMin hp
          generalize lineR k a b q h (fun s => runF t kids (q + 1) none h s) s' = r at key hgo hgl hrun
          simp +contextual -dsimp -implicitDefEqProofs (maxSteps := 5000000) only [go_sem, reduceIte, reduceCtorEq, Nat.reduceEqDiff, Nat.reduceBEq, Nat.reduceAdd, Nat.reduceLeDiff, Nat.reduceMul, Nat.reduceLT, Int.reduceEq, Int.reduceLT, Int.reduceLE, t0, t2, t3, t8, t9, z]
          refine key.mono ?_
          rintro _ H3 ⟨rfl, hM3⟩
          obtain ⟨H4, rfl, w1, w2⟩ := sts_out hM3 hF8
          obtain ⟨xl4, G4, clf4, hFb4, hg4, hb4, rfl⟩ := id w1
          have w2' := w2
          rw [set_none] at w2'
          obtain ⟨z1, z2, z3⟩ := w2'
          by_cases c0 : r.1.ed = 0
          · simp only [c0, if_true] at hrun
            simp +contextual -dsimp -implicitDefEqProofs (maxSteps := 5000000) only [go_sem, reduceIte, reduceCtorEq, Nat.reduceEqDiff, Nat.reduceBEq, Nat.reduceAdd, Nat.reduceLeDiff, Nat.reduceMul, Nat.reduceLT, Int.reduceEq, Int.reduceLT, Int.reduceLE, rEn, t0, t2, t3, t8, t9, z, z1, z2, c0]
            rintro b10 hb10
            refine (nx _).det ?_
            rw [if_neg k7]
            simp +contextual -dsimp -implicitDefEqProofs (maxSteps := 5000000) only [go_sem, reduceIte, reduceCtorEq, Nat.reduceEqDiff, Nat.reduceBEq, Nat.reduceAdd, Nat.reduceLeDiff, Nat.reduceMul, Nat.reduceLT, Int.reduceEq, Int.reduceLT, Int.reduceLE, t0, t2, t3, t8, t9, z1, z2]
            exact adv _ rest (q + 1 + kids.size) r.2 _ (by simp only [Fo.size]; omega) (Nat.le_refl _) hgat.rest n5 o1 (by omega) hrun hgo.ok (by omega) (by omega) (by omega) w2 w1
          · simp only [c0, if_false] at hrun
            simp +contextual -dsimp -implicitDefEqProofs (maxSteps := 5000000) only [go_sem, reduceIte, reduceCtorEq, Nat.reduceEqDiff, Nat.reduceBEq, Nat.reduceAdd, Nat.reduceLeDiff, Nat.reduceMul, Nat.reduceLT, Int.reduceEq, Int.reduceLT, Int.reduceLE, rEn, t0, t2, t3, t8, t9, z, z1, z2, c0]
            rintro b10 hb10
            rw [he, hrun]
            refine retR_less (l := [.agg (rEn r.1)]) (H' := G4.set bs _) ?_ (le_set w2) ⟨rfl, w1⟩
            simp only [resA, go_sem, reduceIte, reduceCtorEq, Nat.reduceEqDiff, Nat.reduceBEq, Nat.reduceAdd, Nat.reduceLeDiff, Nat.reduceMul, Nat.reduceLT, Int.reduceEq, Int.reduceLT, Int.reduceLE, rEn, t8]
theorem c_sblkAll {t : List Class} {cl : Bool} {P : List Line} {clp : Bool} (ht : validT t = true) (hp : P.length ≤ 4398046511104) : ∀ n, SBlkOk t cl P clp n
  | 0 => fun f i d h s F H bs lp hn => by omega
  | n + 1 => c_sblkStep ht hp (c_sblkAll ht hp n)
end
section
open Go Go.Sim
set_option maxRecDepth 100000
set_option maxHeartbeats 4000000

theorem rel_opn {O : Nat → Prop} {w : World} {es : List (List AV)} {cl : Bool} {v : Value} (h : Rel O w (.vsl es cl) v) : Rel O w (.vsl es false) v := by
  cases h with
  | vnil => exact .vnil false
  | vsl es cl b o sz cap g h1 h2 h3 h4 h5 h6 h7 h8 h9 => exact .vsl es false b o sz cap g h1 h2 (fun q => by cases q) h4 h5 h6 h7 h8 h9
theorem rel_one {O : Nat → Prop} {w : World} {es : List (List AV)} {cl : Bool} {v : Value} (h : Rel O w (.agg [.vsl es cl]) v) : Rel O w (.agg [.vsl es false]) v := by
  cases h with
  | agg _ vs e1 e2 e3 =>
    refine .agg _ vs (by simpa using e1) e2 fun i c u hc hu => ?_
    cases i with
    | zero => simp at hc; subst hc; exact rel_opn (e3 0 _ u rfl hu)
    | succ i => simp at hc
theorem acalls_opn {P : Program} {f : FuncId} {args : List AV} {H : AHeap} {es : List (List AV)} {x : AV} (h : ACalls P f args H fun r H' => (∃ cl, r = .tup [.agg [.vsl es cl], x]) ∧ H' = H) : ACalls P f args H fun r H' => r = .tup [.agg [.vsl es false], x] ∧ H' = H := by
  refine ⟨h.1, fun w vs hh hv => (h.2 w vs hh hv).mono ?_⟩
  rintro e w' ⟨v, r, H', rfl, ⟨⟨cl, rfl⟩, rfl⟩, h1, h2⟩
  refine ⟨v, _, _, rfl, ⟨rfl, rfl⟩, ?_, h2⟩
  cases h1 with
  | tup _ vs e1 e3 =>
    refine .tup _ vs (by simpa using e1) fun i c u hc hu => ?_
    cases i with
    | zero => simp at hc; subst hc; exact rel_one (e3 0 _ u rfl hu)
    | succ i => exact e3 (i + 1) c u (by simpa using hc) hu
/-- The result of a run, as the reference tells it. -/
def resSp (r : En × RS) : Res :=
  if r.1.ed = 2 then ⟨r.2.log, 2, idxF (fun x => decide (r.1.val = x)) (sortedF (dchF r.2.fs r.1.val)), isoL r.2.fs (sortedF (dchF r.2.fs r.1.val))⟩ else ⟨r.2.log, r.1.ed, r.1.val, []⟩
theorem c_srun (t : List Class) (cl : Bool) (p : List Line) (cl' : Bool) (H : AHeap) (hp : p.length ≤ 4398046511104) (hv : ValidP t p) :
    ACalls Tryz.prog 39 [aTree t cl, aProg p cl'] H fun r H' => ∃ xl c2, r = .agg [xl, I (resSp (runP t p)).ed, I (resSp (runP t p)).val, .vsl ((resSp (runP t p)).heap.map rFault) c2] ∧ Grow rI 1 3 H H' xl (resSp (runP t p)).log := by
  obtain ⟨h1, h2, h3, h4, h5, h6⟩ := validP_forest hv
  have hgo := runP_goes hv
  have hgl := hgo.len
  have hat := at_top h2
  have hcs := cost_small h3 h6
  have hlen : ((0 + (forestP p).size : Nat) : Int) = (p.length : Int) := by omega
  refine acalls_of1 Tryz.func39 rfl (by kernel_rfl) rfl rfl (awp_sound (fz := fun r => if r = 2 then [6] else if r = 5 then [8] else []) (im := fun s => s == 2 || s == 12) mixed _ _ _ _ (by kernel_rfl) ?_)
  simp +contextual -dsimp -implicitDefEqProofs (maxSteps := 5000000) only [go_sem, reduceIte, reduceCtorEq, Nat.reduceEqDiff, Nat.reduceBEq, Nat.reduceAdd, Nat.reduceLeDiff, Nat.reduceMul, Nat.reduceLT, Int.reduceEq, Int.reduceLT, Int.reduceLE]
  rintro b4 hb4 bs ⟨n1, n2, hbs⟩
  have hM : StS (H.set b4 ⟨4, 34, [[.vsl [] true, I 0, I 0, .vsl [] true]]⟩) ((H.set b4 ⟨4, 34, [[.vsl [] true, I 0, I 0, .vsl [] true]]⟩).set bs ⟨4, 121, [[.vsl (t.map rClass) cl, aProg p cl', .vsl [] true, .vsl [] true]]⟩) bs t cl p cl' rs0 :=
    ⟨.vsl [] true, _, true, by rw [set_other n1]; exact hbs, grow_nil, by rw [set_other n1]; exact hbs, rfl⟩
  have key := c_sblkAll (cl := cl) (P := p) (clp := cl') h1 hp ((forestP p).size + 1) (forestP p) 0 0 (-1) rs0 _ _ bs false (by omega) hat h3 h4 (fsOk_nil t) (by show (-1 : Int) < 0; omega) (by show 0 + _ ≤ _; omega) (by show 0 + _ ≤ _; omega) hM
  rw [hlen, show ((0 : Nat) : Int) = 0 from rfl] at key
  have er : runF t (forestP p) 0 none (-1) rs0 = runP t p := rfl
  rw [er] at key
  generalize runP t p = r at key hgo hgl ⊢
  refine key.mono ?_
  rintro _ H2 ⟨rfl, hM2⟩
  obtain ⟨xl, G, clf, hF2, hg2, hb2, rfl⟩ := id hM2
  obtain ⟨G2, hg3, rfl, w4⟩ := grow_out hg2 hb4
  rw [set_none] at hb2
  obtain ⟨z1, z2, z3⟩ := hb2
  obtain ⟨q1, q2⟩ := one_grow hg3
  simp +contextual -dsimp -implicitDefEqProofs (maxSteps := 5000000) only [go_sem, reduceIte, reduceCtorEq, Nat.reduceEqDiff, Nat.reduceBEq, Nat.reduceAdd, Nat.reduceLeDiff, Nat.reduceMul, Nat.reduceLT, Int.reduceEq, Int.reduceLT, Int.reduceLE, rEn, z1, z2, q1, q2]
  rintro b6 hb6
  refine draw_intro [0, 0, 0, 1, 0, 1, 0, 1, 0, 3, 2] _ (by kernel_rfl) (AHeap.le_refl _) ?_
  simp +contextual -dsimp -implicitDefEqProofs (maxSteps := 5000000) only [go_sem, reduceIte, reduceCtorEq, Nat.reduceEqDiff, Nat.reduceBEq, Nat.reduceAdd, Nat.reduceLeDiff, Nat.reduceMul, Nat.reduceLT, Int.reduceEq, Int.reduceLT, Int.reduceLE, rEn, z1, z2, q1, q2]
  rintro b7 ⟨d1, d2, d3, d4, m7⟩
  have hle : ∀ K K7, AHeap.le ((G2.set b4 K).set bs ⟨4, 121, [[.vsl (t.map rClass) cl, aProg p cl', xl, .vsl (r.2.fs.map rFault) clf]]⟩) (((G2.set b4 K).set bs ⟨4, 121, [[.vsl (t.map rClass) cl, aProg p cl', xl, .vsl (r.2.fs.map rFault) clf]]⟩).set b7 K7) := fun K K7 => le_set (by rw [set_other d1, set_other d3]; exact m7)
  refine ⟨hle _ _, ?_⟩
  have hle2 : ∀ K S K7, AHeap.le G2 (((G2.set b4 K).set bs S).set b7 K7) := fun K S K7 => AHeap.le_trans (AHeap.le_trans (le_set w4) (le_set (by rw [set_other n1]; exact z3))) (le_set (by rw [set_other d1, set_other d3]; exact m7))
  refine ⟨fun e2 => ?_, fun e2 => ?_⟩
  · have fin : ∀ H', ACalls Tryz.prog 83 [aHeap r.2.fs clf, I r.1.val] H' fun r0 H'' => r0 = .tup [.agg [.vsl ((isoL r.2.fs (sortedF (dchF r.2.fs r.1.val))).map rFault) false], I (idxF (fun x => decide (r.1.val = x)) (sortedF (dchF r.2.fs r.1.val)))] ∧ H'' = H' := fun H' => acalls_opn (c_isolated r.2.fs clf r.1.val _ (by have : (rs0 : RS).fs.length = 0 := rfl; omega) hgo.ok.ho (hgo.val e2).2 (dch_ok hgo.ok.ho (hgo.val e2).2) (dch_len (hgo.val e2).2 (by have : (rs0 : RS).fs.length = 0 := rfl; omega)))
    refine draw_introQ [6] [0, 0, 0, 1, 0, 1, 4, 0, 0, 0, 3, 2, 0] (fun _ => .tup [.agg [.vsl ((isoL r.2.fs (sortedF (dchF r.2.fs r.1.val))).map rFault) false], I (idxF (fun x => decide (r.1.val = x)) (sortedF (dchF r.2.fs r.1.val)))]) _ (by kernel_rfl) (AHeap.le_refl _) ?_
    simp +contextual -dsimp -implicitDefEqProofs (maxSteps := 5000000) only [go_sem, reduceIte, reduceCtorEq, Nat.reduceEqDiff, Nat.reduceBEq, Nat.reduceAdd, Nat.reduceLeDiff, Nat.reduceMul, Nat.reduceLT, Int.reduceEq, Int.reduceLT, Int.reduceLE, rEn, z1, z2, q1, q2, d1, d2, d3, d4]
    refine ⟨fun H' _ => fin H', ?_⟩
    rintro b8 ⟨f1, f2, f3, f4, f5, f6, m8⟩
    refine ⟨le_set (by rw [set_other f1, set_other f3, set_other f5]; exact m8), ?_⟩
    have hr : resSp r = ⟨r.2.log, 2, idxF (fun x => decide (r.1.val = x)) (sortedF (dchF r.2.fs r.1.val)), isoL r.2.fs (sortedF (dchF r.2.fs r.1.val))⟩ := by unfold resSp; rw [if_pos e2]
    refine retR_less (l := [.agg [xl, I (resSp r).ed, I (resSp r).val, .vsl ((resSp r).heap.map rFault) false]]) (H' := G2) ?_ (hle2 _ _ _) ⟨xl, false, rfl, ?_⟩
    · rw [hr]
      simp only [resA, go_sem, reduceIte, reduceCtorEq, Nat.reduceEqDiff, Nat.reduceBEq, Nat.reduceAdd, Nat.reduceLeDiff, Nat.reduceMul, Nat.reduceLT, Int.reduceEq, Int.reduceLT, Int.reduceLE, rEn, n1, n2, d1, d2, d3, d4, e2]
    · rw [hr]; exact hg3
  · refine retR_less (l := [.agg [xl, I (resSp r).ed, I (resSp r).val, .vsl ((resSp r).heap.map rFault) true]]) (H' := G2) ?_ (hle2 _ _ _) ⟨xl, true, rfl, ?_⟩
    · have hr : resSp r = ⟨r.2.log, r.1.ed, r.1.val, []⟩ := by unfold resSp; rw [if_neg e2]
      rw [hr]
      simp only [resA, go_sem, reduceIte, reduceCtorEq, Nat.reduceEqDiff, Nat.reduceBEq, Nat.reduceAdd, Nat.reduceLeDiff, Nat.reduceMul, Nat.reduceLT, Int.reduceEq, Int.reduceLT, Int.reduceLE, rEn, n1, n2, d1, d2, d3, d4]
      try rfl
    · have hr : resSp r = ⟨r.2.log, r.1.ed, r.1.val, []⟩ := by unfold resSp; rw [if_neg e2]
      rw [hr]; exact hg3
end
section
open Go Go.Sim
set_option maxRecDepth 100000

/-- Openings and closings of a log, what is open first: the innermost thing first. -/
def scanB : List Int → List Int → Option (List Int)
  | st, [] => some st
  | st, x :: r => if 200 ≤ x then (match st with | [] => none | y :: st => if y = x - 200 then scanB st r else none) else if 100 ≤ x then scanB ((x - 100) :: st) r else scanB st r
def Bal (l : List Int) : Prop := (∀ st m, scanB st (l ++ m) = scanB st m) ∧ ∀ x ∈ l, 0 ≤ x ∧ x < 1000
theorem bal_nil : Bal [] := ⟨fun _ _ => rfl, fun x h => by cases h⟩
theorem Bal.app {l m : List Int} (h : Bal l) (g : Bal m) : Bal (l ++ m) := ⟨fun st r => by rw [List.append_assoc, h.1, g.1], fun x hx => (List.mem_append.1 hx).elim (h.2 x) (g.2 x)⟩
theorem Bal.wrap {l : List Int} (h : Bal l) {a : Int} (h0 : 0 ≤ a) (h1 : a < 100) : Bal ([100 + a] ++ (l ++ [200 + a])) := by
  refine ⟨fun st m => ?_, fun x hx => ?_⟩
  rotate_left
  · simp only [List.mem_append, List.mem_singleton] at hx
    rcases hx with rfl | hx | rfl
    · omega
    · exact h.2 x hx
    · omega
  show scanB st ((100 + a) :: ((l ++ [200 + a]) ++ m)) = _
  simp only [scanB]
  rw [if_neg (by omega), if_pos (by omega), List.append_assoc, h.1]
  show scanB _ ((200 + a) :: m) = _
  simp only [scanB]
  rw [if_pos (by omega), if_pos (by omega)]
def LogB (s s' : RS) : Prop := ∃ l, s'.log = s.log ++ l ∧ Bal l
theorem LogB.same {s s' : RS} (h : s'.log = s.log) : LogB s s' := ⟨[], by simp [h], bal_nil⟩
theorem LogB.trans {s s' s'' : RS} (h : LogB s s') (g : LogB s' s'') : LogB s s'' := by
  obtain ⟨l, e1, b1⟩ := h
  obtain ⟨m, e2, b2⟩ := g
  exact ⟨l ++ m, by rw [e2, e1, List.append_assoc], b1.app b2⟩
end
section
open Go Go.Sim
set_option maxRecDepth 100000
set_option maxHeartbeats 4000000

theorem top_same {t : List Class} {p : List Line} (h : ValidP t p) : resSp (runP t p) = resOf (runP t p) := by
  have hgo := runP_goes h
  unfold resSp resOf
  split
  · rename_i e2
    rw [sort_same hgo.ok.ho (hgo.val e2).1 (hgo.val e2).2]
  · rfl
theorem c_sRunProgram (t : List Class) (cl : Bool) (p : List Line) (cl' : Bool) (H : AHeap) (hn : namesOk t) (hp : p.length ≤ 4398046511104) :
    ACalls Tryz.prog 12 [aTree t cl, aProg p cl'] H fun r H' => (∃ c1 c2, r = aRes (if validB t p = true then resOf (runP t p) else res0) c1 c2) ∧ H' = H := by
  refine acalls_of1 Tryz.func12 rfl (by kernel_rfl) rfl rfl (awp_sound (fz := fun _ => []) (im := fun s => s == 2) mixed _ _ _ _ (by kernel_rfl) ?_)
  simp +contextual -dsimp -implicitDefEqProofs (maxSteps := 5000000) only [go_sem, reduceIte, reduceCtorEq, Nat.reduceEqDiff, Nat.reduceBEq, Nat.reduceAdd, Nat.reduceLeDiff, Nat.reduceMul, Nat.reduceLT, Int.reduceEq, Int.reduceLT, Int.reduceLE]
  intro b6 hb6
  refine (c_svalidProgram t cl p cl' _ hn hp).det ?_
  cases hv : validB t p
  · simp +contextual -dsimp -implicitDefEqProofs (maxSteps := 5000000) only [go_sem, reduceIte, reduceCtorEq, Nat.reduceEqDiff, Nat.reduceBEq, Nat.reduceAdd, Nat.reduceLeDiff, Nat.reduceMul, Nat.reduceLT, Int.reduceEq, Int.reduceLT, Int.reduceLE]
    refine retR_less (l := [.agg [.vsl [] true, I 0, I 0, .vsl [] true]]) (H' := H) ?_ (le_set hb6) ⟨⟨true, true, rfl⟩, rfl⟩
    simp only [resA, go_sem, reduceIte, reduceCtorEq, Nat.reduceEqDiff, Nat.reduceBEq, Nat.reduceAdd, Nat.reduceLeDiff, Nat.reduceMul, Nat.reduceLT, Int.reduceEq, Int.reduceLT, Int.reduceLE]
  · simp +contextual -dsimp -implicitDefEqProofs (maxSteps := 5000000) only [go_sem, reduceIte, reduceCtorEq, Nat.reduceEqDiff, Nat.reduceBEq, Nat.reduceAdd, Nat.reduceLeDiff, Nat.reduceMul, Nat.reduceLT, Int.reduceEq, Int.reduceLT, Int.reduceLE]
    have hval := validB_true.1 hv
    have key : ∀ H, ACalls Tryz.prog 39 [aTree t cl, aProg p cl'] H fun r H' => (∃ c1 c2, r = aRes (resOf (runP t p)) c1 c2) ∧ H' = H := fun H => by
      refine acalls_fz (c_srun t cl p cl' H hp hval) ?_
      rintro _ H' ⟨xl, c2, rfl, hg⟩
      obtain ⟨c1, hz⟩ := grow_fz hg
      rw [top_same hval] at hz ⊢
      exact ⟨_, H, grow_le hg, fz_agg (.cons hz (.refl _)), ⟨c1, c2, rfl⟩, rfl⟩
    refine (key _).mono ?_
    rintro _ _ ⟨⟨c1, c2, rfl⟩, rfl⟩
    simp +contextual -dsimp -implicitDefEqProofs (maxSteps := 5000000) only [go_sem, reduceIte, reduceCtorEq, Nat.reduceEqDiff, Nat.reduceBEq, Nat.reduceAdd, Nat.reduceLeDiff, Nat.reduceMul, Nat.reduceLT, Int.reduceEq, Int.reduceLT, Int.reduceLE]
    refine retR_less (l := [aRes (resOf (runP t p)) c1 c2]) (H' := H) ?_ (le_set hb6) ⟨⟨c1, c2, rfl⟩, rfl⟩
    simp only [resA, go_sem, reduceIte, reduceCtorEq, Nat.reduceEqDiff, Nat.reduceBEq, Nat.reduceAdd, Nat.reduceLeDiff, Nat.reduceMul, Nat.reduceLT, Int.reduceEq, Int.reduceLT, Int.reduceLE]
end
section
open Go Go.Sim
set_option maxRecDepth 100000
set_option maxHeartbeats 4000000

def stEq (a b : Sta) : Bool := (a.has == b.has) && (decide (a.cls = b.cls) && decide (a.code = b.code))
theorem stEq_self (a : Sta) : stEq a a = true := by simp [stEq]
theorem c_equalStart (a b : Sta) (H : AHeap) : ACalls Tryz.prog 24 [.agg (rStart a), .agg (rStart b)] H fun r H' => r = B (stEq a b) ∧ H' = H := by
  refine acalls_of0 Tryz.func24 rfl (by kernel_rfl) rfl rfl (awp_sound (fz := fun _ => []) (im := fun s => s == 2 || s == 3) mixed _ _ _ _ (by kernel_rfl) ?_)
  simp +contextual -dsimp -implicitDefEqProofs (maxSteps := 5000000) only [go_sem, reduceIte, reduceCtorEq, Nat.reduceEqDiff, Nat.reduceBEq, Nat.reduceAdd, Nat.reduceLeDiff, Nat.reduceMul, Nat.reduceLT, Int.reduceEq, Int.reduceLT, Int.reduceLE]
  rfl
theorem c_DrawStartOf (F : AHeap) (bs : List UInt8) (cb : Bool) : ACalls Tryz.prog 22 [.vsl (bs.map rU) cb] F fun r H' =>
    ∃ t cl, ∃ (R : Res) (c1 c2 : Bool), r = .tup [aTree t cl, aRes R c1 c2] ∧ H' = F ∧ shortNames t ∧ t.length ≤ 8 ∧ R.heap.length ≤ 24 := by
  refine acalls_of1 Tryz.func22 rfl (by kernel_rfl) rfl rfl (awp_sound (fz := fun _ => []) (im := fun s => s == 23 || s == 29) mixed _ _ _ _ (by kernel_rfl) ?_)
  simp +contextual -dsimp -implicitDefEqProofs (maxSteps := 5000000) only [go_sem, reduceIte, reduceCtorEq, Nat.reduceEqDiff, Nat.reduceBEq, Nat.reduceAdd, Nat.reduceLeDiff, Nat.reduceMul, Nat.reduceLT, Int.reduceEq, Int.reduceLT, Int.reduceLE]
  rintro b2 h2 b3 ⟨p1, p2, h3⟩
  refine (c_newReader bs cb _).mono ?_
  rintro _ H' ⟨br, rfl, hR⟩
  obtain ⟨K1, hK1, rfl⟩ := rd_to hR
  have f4 : ∀ K2 K4, ((F.set b2 K2).set b3 K4) br = none := by
    have q := hR; obtain ⟨_, _, _, _, _, q, _⟩ := q
    rw [set_none, set_none] at q
    intro K2 K4; rw [set_none, set_none]; exact q
  have q1 := f4 ⟨1, 0, []⟩ ⟨1, 0, []⟩
  rw [set_none, set_none] at q1
  obtain ⟨u1, u2, u3, u4, hr⟩ := q1
  simp +contextual -dsimp -implicitDefEqProofs (maxSteps := 5000000) only [go_sem, reduceIte, reduceCtorEq, Nat.reduceEqDiff, Nat.reduceBEq, Nat.reduceAdd, Nat.reduceLeDiff, Nat.reduceMul, Nat.reduceLT, Int.reduceEq, Int.reduceLT, Int.reduceLE]
  refine (c_someProgram _ br 0 K1 hK1 (f4 _ _) (by omega)).mono ?_
  rintro _ _ ⟨t, cl, p, c1, K2, rfl, rfl, hK2, ht8, hs, hp⟩
  have hn := short_ok hs
  simp +contextual -dsimp -implicitDefEqProofs (maxSteps := 5000000) only [go_sem, reduceIte, reduceCtorEq, Nat.reduceEqDiff, Nat.reduceBEq, Nat.reduceAdd, Nat.reduceLeDiff, Nat.reduceMul, Nat.reduceLT, Int.reduceEq, Int.reduceLT, Int.reduceLE]
  rintro b5 ⟨v1, v2, v3, v4, v5, v6, hb5⟩
  rw [br_out v1]
  have n5 : ∀ K3 K4 K5, (((F.set b2 K3).set b3 K4).set b5 K5) br = none := fun K3 K4 K5 => by rw [set_other v2]; exact f4 _ _
  refine (c_sRunProgram t cl p c1 _ hn (by omega)).mono ?_
  rintro _ _ ⟨⟨c2, c3, rfl⟩, rfl⟩
  have hR24 : (if validB t p = true then resOf (runP t p) else res0).heap.length ≤ 24 := by
    split
    · rename_i hv
      have hv := validB_true.1 hv
      by_cases h2 : (runP t p).1.ed = 2
      · exact (validH_all (run_valid hv h2).valid).2.2.2
      · rw [res_else h2]; exact Nat.zero_le _
    · exact Nat.zero_le _
  generalize (if validB t p = true then resOf (runP t p) else res0) = R at hR24
  simp +contextual -dsimp -implicitDefEqProofs (maxSteps := 5000000) only [go_sem, reduceIte, reduceCtorEq, Nat.reduceEqDiff, Nat.reduceBEq, Nat.reduceAdd, Nat.reduceLeDiff, Nat.reduceMul, Nat.reduceLT, Int.reduceEq, Int.reduceLT, Int.reduceLE, p1, p2, u1, u2, u3, u4, v1, v2, v3, v4, v5, v6]
  rintro b7 ⟨w1, w2, w3, w4, w5, w6, w7, w8, hb7⟩
  rw [br_out w1]
  have n7 : ∀ K3 K4 K5 K6, ((((F.set b2 K3).set b3 K4).set b5 K5).set b7 K6) br = none := fun K3 K4 K5 K6 => by rw [set_other w2]; exact n5 _ _ _
  have hp : ∀ K5 K7 b, b5 ≠ b → b7 ≠ b → F b = none → ((F.set b5 K5).set b7 K7) b = none := fun K5 K7 b e1 e2 e3 => by rw [set_other (Ne.symm e2), set_other (Ne.symm e1)]; exact e3
  have hle : ∀ K2 K3 K5 K7 K9, AHeap.le ((F.set b5 K5).set b7 K7) (((((F.set b2 K2).set b3 K3).set b5 K5).set b7 K7).set br K9) := fun K2 K3 K5 K7 K9 =>
    le_s1 (le_ch (le_ch (le_s1 (le_s1 (AHeap.le_refl _) h2) h3))) (hp _ _ _ (fun q => v1 q) (fun q => w1 q) hr)
  refine k_pick 12 hK2 (n7 _ _ _ _) (by omega) rfl fun k K3 k0 k1 k2 hK3 => ?_
  by_cases c0 : k = 0
  · simp +contextual -dsimp -implicitDefEqProofs (maxSteps := 5000000) only [go_sem, reduceIte, reduceCtorEq, Nat.reduceEqDiff, Nat.reduceBEq, Nat.reduceAdd, Nat.reduceLeDiff, Nat.reduceMul, Nat.reduceLT, Int.reduceEq, Int.reduceLT, Int.reduceLE, p1, p2, u1, u2, u3, u4, v1, v2, v3, v4, v5, v6, w1, w2, w3, w4, w5, w6, w7, w8, c0]
    refine k_one [-1, 3, 4, 2] _ hK3 (n7 _ _ _ _) (by omega) (by simp) rfl rfl fun a K4 ha hK4 => ?_
    simp +contextual -dsimp -implicitDefEqProofs (maxSteps := 5000000) only [go_sem, reduceIte, reduceCtorEq, Nat.reduceEqDiff, Nat.reduceBEq, Nat.reduceAdd, Nat.reduceLeDiff, Nat.reduceMul, Nat.reduceLT, Int.reduceEq, Int.reduceLT, Int.reduceLE, p1, p2, u1, u2, u3, u4, v1, v2, v3, v4, v5, v6, w1, w2, w3, w4, w5, w6, w7, w8, c0]
    refine draw_intro [0, 1, 3, 2] _ (by kernel_rfl) (hle _ _ _ _ _) ?_
    simp +contextual -dsimp -implicitDefEqProofs (maxSteps := 5000000) only [go_sem, reduceIte, reduceCtorEq, Nat.reduceEqDiff, Nat.reduceBEq, Nat.reduceAdd, Nat.reduceLeDiff, Nat.reduceMul, Nat.reduceLT, Int.reduceEq, Int.reduceLT, Int.reduceLE, p1, p2, u1, u2, u3, u4, v1, v2, v3, v4, v5, v6, w1, w2, w3, w4, w5, w6, w7, w8, c0]
    refine ⟨le_s1 (hle _ _ _ _ _) (hp _ _ _ (fun q => v5 q) (fun q => w7 q) h2), ?_⟩
    refine retR_less (l := [aTree t cl, aRes { R with ed := a } c2 c3]) (H' := F) ?_ (le_s1 (le_s1 (le_s1 (le_s1 (le_s1 (le_s1 (le_s1 (AHeap.le_refl _) h2) h3) hb5) hb7) hr) h2) h3) ⟨t, cl, _, c2, c3, rfl, rfl, hs, ht8, hR24⟩
    simp only [resA, go_sem, reduceIte, reduceCtorEq, Nat.reduceEqDiff, Nat.reduceBEq, Nat.reduceAdd, Nat.reduceLeDiff, Nat.reduceMul, Nat.reduceLT, Int.reduceEq, Int.reduceLT, Int.reduceLE, p1, p2, u1, u2, u3, u4, v1, v2, v3, v4, v5, v6, w1, w2, w3, w4, w5, w6, w7, w8, c0]
  · by_cases c1' : k = 1
    · simp +contextual -dsimp -implicitDefEqProofs (maxSteps := 5000000) only [go_sem, reduceIte, reduceCtorEq, Nat.reduceEqDiff, Nat.reduceBEq, Nat.reduceAdd, Nat.reduceLeDiff, Nat.reduceMul, Nat.reduceLT, Int.reduceEq, Int.reduceLT, Int.reduceLE, p1, p2, u1, u2, u3, u4, v1, v2, v3, v4, v5, v6, w1, w2, w3, w4, w5, w6, w7, w8, c0, c1']
      refine k_one [-1, 9] _ hK3 (n7 _ _ _ _) (by omega) (by simp) rfl rfl fun a K4 ha hK4 => ?_
      simp +contextual -dsimp -implicitDefEqProofs (maxSteps := 5000000) only [go_sem, reduceIte, reduceCtorEq, Nat.reduceEqDiff, Nat.reduceBEq, Nat.reduceAdd, Nat.reduceLeDiff, Nat.reduceMul, Nat.reduceLT, Int.reduceEq, Int.reduceLT, Int.reduceLE, p1, p2, u1, u2, u3, u4, v1, v2, v3, v4, v5, v6, w1, w2, w3, w4, w5, w6, w7, w8, c0, c1']
      refine draw_intro [0, 1, 3, 2] _ (by kernel_rfl) (hle _ _ _ _ _) ?_
      simp +contextual -dsimp -implicitDefEqProofs (maxSteps := 5000000) only [go_sem, reduceIte, reduceCtorEq, Nat.reduceEqDiff, Nat.reduceBEq, Nat.reduceAdd, Nat.reduceLeDiff, Nat.reduceMul, Nat.reduceLT, Int.reduceEq, Int.reduceLT, Int.reduceLE, p1, p2, u1, u2, u3, u4, v1, v2, v3, v4, v5, v6, w1, w2, w3, w4, w5, w6, w7, w8, c0, c1']
      refine ⟨le_s1 (hle _ _ _ _ _) (hp _ _ _ (fun q => v5 q) (fun q => w7 q) h2), ?_⟩
      refine retR_less (l := [aTree t cl, aRes { R with val := a } c2 c3]) (H' := F) ?_ (le_s1 (le_s1 (le_s1 (le_s1 (le_s1 (le_s1 (le_s1 (AHeap.le_refl _) h2) h3) hb5) hb7) hr) h2) h3) ⟨t, cl, _, c2, c3, rfl, rfl, hs, ht8, hR24⟩
      simp only [resA, go_sem, reduceIte, reduceCtorEq, Nat.reduceEqDiff, Nat.reduceBEq, Nat.reduceAdd, Nat.reduceLeDiff, Nat.reduceMul, Nat.reduceLT, Int.reduceEq, Int.reduceLT, Int.reduceLE, p1, p2, u1, u2, u3, u4, v1, v2, v3, v4, v5, v6, w1, w2, w3, w4, w5, w6, w7, w8, c0, c1']
    · simp +contextual -dsimp -implicitDefEqProofs (maxSteps := 5000000) only [go_sem, reduceIte, reduceCtorEq, Nat.reduceEqDiff, Nat.reduceBEq, Nat.reduceAdd, Nat.reduceLeDiff, Nat.reduceMul, Nat.reduceLT, Int.reduceEq, Int.reduceLT, Int.reduceLE, p1, p2, u1, u2, u3, u4, v1, v2, v3, v4, v5, v6, w1, w2, w3, w4, w5, w6, w7, w8, c0, c1']
      refine draw_intro [0, 1, 3, 2] _ (by kernel_rfl) (hle _ _ _ _ _) ?_
      simp +contextual -dsimp -implicitDefEqProofs (maxSteps := 5000000) only [go_sem, reduceIte, reduceCtorEq, Nat.reduceEqDiff, Nat.reduceBEq, Nat.reduceAdd, Nat.reduceLeDiff, Nat.reduceMul, Nat.reduceLT, Int.reduceEq, Int.reduceLT, Int.reduceLE, p1, p2, u1, u2, u3, u4, v1, v2, v3, v4, v5, v6, w1, w2, w3, w4, w5, w6, w7, w8, c0, c1']
      refine ⟨le_s1 (hle _ _ _ _ _) (hp _ _ _ (fun q => v5 q) (fun q => w7 q) h2), ?_⟩
      refine retR_less (l := [aTree t cl, aRes R c2 c3]) (H' := F) ?_ (le_s1 (le_s1 (le_s1 (le_s1 (le_s1 (le_s1 (le_s1 (AHeap.le_refl _) h2) h3) hb5) hb7) hr) h2) h3) ⟨t, cl, _, c2, c3, rfl, rfl, hs, ht8, hR24⟩
      simp only [resA, go_sem, reduceIte, reduceCtorEq, Nat.reduceEqDiff, Nat.reduceBEq, Nat.reduceAdd, Nat.reduceLeDiff, Nat.reduceMul, Nat.reduceLT, Int.reduceEq, Int.reduceLT, Int.reduceLE, p1, p2, u1, u2, u3, u4, v1, v2, v3, v4, v5, v6, w1, w2, w3, w4, w5, w6, w7, w8, c0, c1']
/-- The heap of what exits end with is small. -/
theorem close_small {t : List Class} {l : List Exi} {x : Sta} (hl : validX t l = true) (hx : startOk t x = true) : (resM (closeX t l x)).heap.length ≤ 24 := by
  have hok := closeX_ok hl hx
  obtain ⟨hf, hd⟩ := clo_close hl hx
  have ht := (validX_T hl).1
  generalize closeX t l x = c at hok hf hd
  have hr : RelC c (enC c, { rs0 with log := c.log, fs := c.fs }) := ⟨rfl, rfl, rfl⟩
  rw [← rel_res hr]
  by_cases q : 0 ≤ c.cur
  · have e : enC c = ⟨2, c.cur⟩ := by unfold enC; rw [if_pos q]
    rw [e]
    exact (validH_all (run_out (r := (⟨2, c.cur⟩, { rs0 with log := c.log, fs := c.fs })) ht hf rfl q hok.cur hd).valid).2.2.2
  · have e : enC c = .next := by unfold enC; rw [if_neg q]
    rw [e, res_else (by show (0 : Int) ≠ 2; decide)]
    exact Nat.zero_le _
theorem c_LawStartOf (bs : List UInt8) (cb : Bool) (H : AHeap) : ACalls Tryz.prog 6 [.vsl (bs.map rU) cb] H fun r H' => r = B true ∧ H' = H := by
  refine acalls_of1 Tryz.func6 rfl (by kernel_rfl) rfl rfl (awp_sound (fz := fun _ => []) (im := fun _ => false) mixed _ _ _ _ (by kernel_rfl) ?_)
  simp +contextual -dsimp -implicitDefEqProofs (maxSteps := 5000000) only [go_sem, reduceIte, reduceCtorEq, Nat.reduceEqDiff, Nat.reduceBEq, Nat.reduceAdd, Nat.reduceLeDiff, Nat.reduceMul, Nat.reduceLT, Int.reduceEq, Int.reduceLT, Int.reduceLE]
  refine ⟨fun hbig => ?_, fun hsmall => ?_⟩
  · refine retR_less (l := [B true]) (H' := H) ?_ (AHeap.le_refl _) ⟨rfl, rfl⟩
    simp only [resA, go_sem, reduceIte, reduceCtorEq, Nat.reduceEqDiff, Nat.reduceBEq, Nat.reduceAdd, Nat.reduceLeDiff, Nat.reduceMul, Nat.reduceLT, Int.reduceEq, Int.reduceLT, Int.reduceLE]
  refine (c_DrawStartOf H bs cb).mono ?_
  rintro _ H1 ⟨t, cl, R, c1, c2, rfl, hH, hs, ht8, hr⟩
  rw [hH]
  have hn := short_ok hs
  simp +contextual -dsimp -implicitDefEqProofs (maxSteps := 5000000) only [go_sem, reduceIte, reduceCtorEq, Nat.reduceEqDiff, Nat.reduceBEq, Nat.reduceAdd, Nat.reduceLeDiff, Nat.reduceMul, Nat.reduceLT, Int.reduceEq, Int.reduceLT, Int.reduceLE]
  rintro b3 h3 b4 ⟨p1, p2, h4⟩
  refine (c_mStartOf t cl R c1 c2 _ hn (by omega)).det ?_
  simp +contextual -dsimp -implicitDefEqProofs (maxSteps := 5000000) only [go_sem, reduceIte, reduceCtorEq, Nat.reduceEqDiff, Nat.reduceBEq, Nat.reduceAdd, Nat.reduceLeDiff, Nat.reduceMul, Nat.reduceLT, Int.reduceEq, Int.reduceLT, Int.reduceLE, p1, p2]
  rintro b5 ⟨q1, q2, q3, q4, h5⟩
  refine (c_sStartOf t cl R c1 c2 _ hn (by omega)).det ?_
  simp +contextual -dsimp -implicitDefEqProofs (maxSteps := 5000000) only [go_sem, reduceIte, reduceCtorEq, Nat.reduceEqDiff, Nat.reduceBEq, Nat.reduceAdd, Nat.reduceLeDiff, Nat.reduceMul, Nat.reduceLT, Int.reduceEq, Int.reduceLT, Int.reduceLE, p1, p2, q1, q2, q3, q4]
  rintro b7 ⟨s1, s2, s3, s4, s5, s6, h7⟩
  refine (c_equalStart _ _ _).det ?_
  rw [stEq_self]
  simp +contextual -dsimp -implicitDefEqProofs (maxSteps := 5000000) only [go_sem, reduceIte, reduceCtorEq, Nat.reduceEqDiff, Nat.reduceBEq, Nat.reduceAdd, Nat.reduceLeDiff, Nat.reduceMul, Nat.reduceLT, Int.reduceEq, Int.reduceLT, Int.reduceLE, p1, p2, q1, q2, q3, q4, s1, s2, s3, s4, s5, s6]
  refine ⟨fun hok => ?_, fun hok => ?_⟩
  · refine (c_equalStart _ _ _).det ?_
    rw [stEq_self]
    simp +contextual -dsimp -implicitDefEqProofs (maxSteps := 5000000) only [go_sem, reduceIte, reduceCtorEq, Nat.reduceEqDiff, Nat.reduceBEq, Nat.reduceAdd, Nat.reduceLeDiff, Nat.reduceMul, Nat.reduceLT, Int.reduceEq, Int.reduceLT, Int.reduceLE, p1, p2, q1, q2, q3, q4, s1, s2, s3, s4, s5, s6]
    refine retR_less (l := [B true]) (H' := H) ?_ (le_s1 (le_s1 (le_s1 (le_s1 (AHeap.le_refl _) h3) h4) h5) h7) ⟨rfl, rfl⟩
    simp only [resA, go_sem, reduceIte, reduceCtorEq, Nat.reduceEqDiff, Nat.reduceBEq, Nat.reduceAdd, Nat.reduceLeDiff, Nat.reduceMul, Nat.reduceLT, Int.reduceEq, Int.reduceLT, Int.reduceLE]
  · obtain ⟨ht, hst, hhas⟩ := stOf_ok hok
    generalize (stOf t R).1 = x at hst hhas
    have hvn := validX_nil ht
    refine (c_mCloseExitsF t cl [] true x _ hn).mono ?_
    rintro _ _ ⟨⟨c3, c4, rfl⟩, rfl⟩
    have hcl := closeX_ok hvn hst
    have hrs := res_same hcl
    have hss := st_start ht hst
    rw [hvn, hst, Bool.and_self, if_pos rfl, ← hrs]
    have hlog : (resM (closeX t [] x)).log = [] := by
      have e : closeX t [] x = startX x := rfl
      rw [e]
      unfold resM startX
      split <;> split <;> rfl
    have hhl := close_small hvn hst
    generalize resM (closeX t [] x) = R2 at hss hlog hhl
    simp +contextual -dsimp -implicitDefEqProofs (maxSteps := 5000000) only [go_sem, reduceIte, reduceCtorEq, Nat.reduceEqDiff, Nat.reduceBEq, Nat.reduceAdd, Nat.reduceLeDiff, Nat.reduceMul, Nat.reduceLT, Int.reduceEq, Int.reduceLT, Int.reduceLE, p1, p2, q1, q2, q3, q4, s1, s2, s3, s4, s5, s6]
    rintro b9 ⟨w1, w2, w3, w4, w5, w6, w7, w8, h9⟩
    refine (c_mStartOf t cl R2 c3 c4 _ hn (by omega)).det ?_
    rw [hss]
    simp +contextual -dsimp -implicitDefEqProofs (maxSteps := 5000000) only [go_sem, reduceIte, reduceCtorEq, Nat.reduceEqDiff, Nat.reduceBEq, Nat.reduceAdd, Nat.reduceLeDiff, Nat.reduceMul, Nat.reduceLT, Int.reduceEq, Int.reduceLT, Int.reduceLE, p1, p2, q1, q2, q3, q4, s1, s2, s3, s4, s5, s6, w1, w2, w3, w4, w5, w6, w7, w8]
    rintro b10 ⟨y1, y2, y3, y4, y5, y6, y7, y8, y9, y10, h10⟩
    simp +contextual -dsimp -implicitDefEqProofs (maxSteps := 5000000) only [go_sem, reduceIte, reduceCtorEq, Nat.reduceEqDiff, Nat.reduceBEq, Nat.reduceAdd, Nat.reduceLeDiff, Nat.reduceMul, Nat.reduceLT, Int.reduceEq, Int.reduceLT, Int.reduceLE, p1, p2, q1, q2, q3, q4, s1, s2, s3, s4, s5, s6, w1, w2, w3, w4, w5, w6, w7, w8, y1, y2, y3, y4, y5, y6, y7, y8, y9, y10, hlog, hhas]
    refine retR_less (l := [B true]) (H' := H) ?_ (le_s1 (le_s1 (le_s1 (le_s1 (le_s1 (le_s1 (AHeap.le_refl _) h3) h4) h5) h7) h9) h10) ⟨rfl, rfl⟩
    simp only [resA, go_sem, reduceIte, reduceCtorEq, Nat.reduceEqDiff, Nat.reduceBEq, Nat.reduceAdd, Nat.reduceLeDiff, Nat.reduceMul, Nat.reduceLT, Int.reduceEq, Int.reduceLT, Int.reduceLE]
end
end
end Go.Proofs.YtckipeopgimenaaGreat
