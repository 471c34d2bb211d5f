/- Walks and plain laws that the claims of this seat lean on. No condition. -/
import Derived.Test.YtckipeopgimenaaGreatJ4
import Derived.Test.YtckipeopgimenaaGreatJ2
set_option linter.unusedVariables false
set_option linter.unusedSimpArgs false
namespace Go.Proofs.YtckipeopgimenaaGreat
open Go Go.Sim
section
set_option maxRecDepth 100000
attribute [local go_sem ↓] aw_skip aw_ret aw_exit aw_region aw_draw aw_seq aw_block aw_loop aw_cond frz_nil frz_cons sq_normal sq_ret sq_exit exB_normal exB_ret exB_same exB_other retQ_ret retQ_normal ret0_ret ret0_normal ao_nil go1 g_move g_assign g_pick g_build g_load g_binOp g_unOp g_convert g_fieldAddr g_field g_indexAddr g_index g_extract g_lookup g_slice g_nilCheck g_len g_makeFunc h_call h_append h_alloc h_box h_buildSlice h_makeSlice h_store gV i_box i_buildSlice i_move i_assign i_build i_load i_binOp i_unOp i_convert i_fieldAddr i_field i_indexAddr i_index i_extract i_lookup i_makeMap i_mapUpdate i_slice i_nilCheck i_makeFunc i_len i_max i_min i_alloc i_makeSlice i_store i_append i_call i_pick boxI boxA buildSliceI buildSliceA makeSliceA makeMapA allocA storeA p_move p_assign p_pick p_build p_load p_binOp p_unOp p_convert p_fieldAddr p_field p_indexAddr p_index p_extract p_lookup p_makeMap p_mapUpdate p_slice p_nilCheck p_makeFunc p_len p_max p_min p_alloc p_box p_buildSlice p_makeSlice p_store p_append p_call x_nil x_go1 x_g0 x_g1 x_g2 x_g3 x_s0 x_s1 x_s2 x_s3 u_move u_assign u_pick u_build u_load u_binOp u_unOp u_convert u_fieldAddr u_field u_indexAddr u_index u_extract u_lookup u_slice u_nilCheck u_makeFunc u_len u_buildSlice x_s4 x_g4 rq_normal rq_ret rq_exit aw_range
attribute [local go_sem] frzV_sl frzK_some set_none set_other AHeap.set_self set_del set_set cnd_t cnd_f cnd_b retA_one retA_two retA_three retA_four retA_nil gIf_b mrgV_b mrgV_wh mrgV_U gIf_U gIf_wh mrgB_f mrgB_some mrgB_if wh_true wh_false keepA_some keepA_if gD_zero gD_succ gT_some bxA_t bxA_f callA_fn ev_tmp ev_const ev_global ev_func oc_bool oc_int oc_string oc_nil oc_nilptr oc_nilfunc cl_bool cl_int cl_string cl_nil updO_some updO_none upd_same upd_other init_at pickA_b pickA_wh selA_t selA_f selA_and selA_or selA_orn selA_orm selA_bb selA_ii beqt b_add b_sub b_mul b_and b_or b_xor b_eql b_neq b_lss b_leq b_gtr b_geq b_quo b_rem b_shr b_seql b_sneq b_sadd b_beql b_bneq b_aeql b_aneq u_not u_neg isConstOp eqA eqCellV List.getD_cons_zero List.getD_cons_succ List.map_cons List.map_nil List.nil_append List.cons_append List.append_nil if_true if_false Option.map_some Option.map_none ne_eq not_false_eq_true oneA ldv ld1v ld1s wr1s ldRow stRow row_lit row_agg row_vsl row_sl row_ptr row_fn one_I one_B one_S one_vsl one_sl one_ptr one_fn extractA okA rI rS rU rClass rFault rExit rStart rLine Int.toNat_natCast List.length_cons List.length_nil List.length_map List.all_cons List.all_nil Bool.and_true Nat.zero_add List.getElem?_cons_zero List.getElem?_cons_succ List.take_succ_cons List.take_zero List.drop_succ_cons List.drop_zero and_self true_and and_true implies_true decide_eq_true_eq decide_eq_false_iff_not Bool.or_eq_true Bool.or_eq_false_iff Bool.and_eq_true Bool.not_eq_true' Bool.not_eq_false' beq_false decide_true decide_false Int.ofNat_lt Int.ofNat_le Int.natCast_nonneg Bool.or_true Bool.or_false Bool.true_or Bool.false_or beq_self_eq_true List.drop_one Bool.not_true Bool.not_false Bool.not_not Bool.false_eq_true Bool.true_eq_false false_implies true_implies Bool.true_and Bool.false_and Bool.and_false not_true_eq_false Int.natCast_eq_zero Int.natCast_pos Int.natCast_zero false_and and_false or_false false_or or_true true_or Bool.or_self none_le_iff List.replicate_zero Int.toNat_zero List.replicate_succ buildRows List.set_cons_zero List.set_cons_succ List.set_nil List.mapM_nil maxLen_eq Nat.zero_le Nat.mul_one Nat.one_mul bldA fillA spliceA List.take_nil List.drop_nil List.getElem?_nil ld1o wr1o bldSliceA le_same cv_i cvI_t quietT_fn qvd_some ld_o ldO_1 ldO_l wr_o wrO_1 set_2 set_3 set_4 putL_nil putL_cons List.zip_cons_cons List.zip_nil_left List.zip_nil_right List.toList_toArray frzV_set ti1 ti2 tk2 ti3 te3 ts3 tk3 tz3 ti4 tb4 ti5 tk5 tz5 ti9 te9 ts9 tk9 tz9 ti12 tk12 ti13 tp13 tf13_0 tf13_1 ti20 ti21 tk21 tz21 ti22 te22 tz22 ti23 te23 ti24 tp24 tf24_0 ti25 tp25 tf25_0 ti26 te26 ti28 ti29 te29 ti30 te30 ti31 tp31 tf31_0 ti32 tp32 tf32_0 ti33 tp33 tf33_0 tf33_1 tf33_2 tf33_3 ti34 tp34 tf34_0 tf34_1 tf34_2 tf34_3 ti35 ti36 ti37 ti38 ti40 ti42 ti43 ti44 tq44 tp44 tf44_0 tf44_1 tf44_2 ti45 tq45 tp45 tf45_0 tf45_1 tf45_2 ti47 ti48 ti49 tq49 tp49 tf49_0 tf49_1 tf49_2 tf49_3 ti50 tq50 tp50 tf50_0 tf50_1 tf50_2 tf50_3 ti51 ti52 ti54 ti55 ti56 ti57 te57 ti59 ti60 ti61 ti62 ti63 ti64 ti65 ti66 ti67 ti68 tq68 tp68 tf68_0 tf68_1 ti69 tq69 tp69 tf69_0 tf69_1 ti70 ti71 ti72 ti73 ti74 ti75 ti77 ti78 ti79 ti80 ti81 ti82 ti83 ti84 ti85 tq85 tp85 tf85_0 tf85_1 tf85_2 tf85_3 tf85_4 ti86 tq86 tp86 tf86_0 tf86_1 tf86_2 tf86_3 tf86_4 ti87 ti88 ti89 ti90 ti91 ti93 ti94 ti95 ti96 ti97 tq97 tp97 tf97_0 tf97_1 tf97_2 ti98 tq98 tp98 tf98_0 tf98_1 tf98_2 ti99 ti100 ti101 ti102 ti103 ti104 ti105 ti106 ti107 tp107 tf107_0 tf107_1 ti108 tp108 tf108_0 tf108_1 ti109 tp109 tf109_0 tf109_1 tf109_2 tf109_3 tf109_4 ti110 tp110 tf110_0 tf110_1 tf110_2 tf110_3 tf110_4 ti111 ti113 ti114 ti115 ti116 ti117 ti118 ti119 ti120 tp120 tf120_0 tf120_1 tf120_2 tf120_3 ti121 tp121 tf121_0 tf121_1 tf121_2 tf121_3 ti122 tq122 tp122 tf122_0 tf122_1 ti123 tq123 tp123 tf123_0 tf123_1 ti124 ti125 ti126 tq126 tp126 tf126_0 tf126_1 ti127 tq127 tp127 tf127_0 tf127_1 ti128 ti129 ti130 ti131 ti132 ti133 te133 ti134 ti135 ti136 ti137 ti138 ti139 ti140 ti141 ti142 ti143 ti144 tp144 tf144_0 tf144_1 tf144_2 ti145 tp145 tf145_0 tf145_1 tf145_2 ti146 ti147 ti148 ti149 ti150 te150 ti151 ti152 ti153 ti154 ti155 ti156 ti157 ti158 ti159 ti160 ti161 ti162 ti163 ti164 ti165 ti166 ti167 ti168 ti169 ti170 ti171 ti172 ti173 ti174 ti175 tk175 tz175 ti176 ti177 ti178 ti179 ti180 tk180 ti182 ti183 ti184 ti186 ti187 ti188 tk188 tz188 ti189 ti190 tk190 tz190 ti191 tk191 ti192 ti193 ti194 ti195 ti196 ti197 ti199 ti200 ti206 ti210 ti215 fp13_0 fv13_0 fp13_1 fv13_1 fp24_0 fv24_0 fp25_0 fv25_0 fp31_0 fv31_0 fp32_0 fv32_0 fp33_0 fv33_0 fp33_1 fv33_1 fp33_2 fv33_2 fp33_3 fv33_3 fp34_0 fv34_0 fp34_1 fv34_1 fp34_2 fv34_2 fp34_3 fv34_3 fp44_0 fv44_0 fp44_1 fv44_1 fp44_2 fv44_2 fp45_0 fv45_0 fp45_1 fv45_1 fp45_2 fv45_2 fp49_0 fv49_0 fp49_1 fv49_1 fp49_2 fv49_2 fp49_3 fv49_3 fp50_0 fv50_0 fp50_1 fv50_1 fp50_2 fv50_2 fp50_3 fv50_3 fp68_0 fv68_0 fp68_1 fv68_1 fp69_0 fv69_0 fp69_1 fv69_1 fp85_0 fv85_0 fp85_1 fv85_1 fp85_2 fv85_2 fp85_3 fv85_3 fp85_4 fv85_4 fp86_0 fv86_0 fp86_1 fv86_1 fp86_2 fv86_2 fp86_3 fv86_3 fp86_4 fv86_4 fp97_0 fv97_0 fp97_1 fv97_1 fp97_2 fv97_2 fp98_0 fv98_0 fp98_1 fv98_1 fp98_2 fv98_2 fp107_0 fv107_0 fp107_1 fv107_1 fp108_0 fv108_0 fp108_1 fv108_1 fp109_0 fv109_0 fp109_1 fv109_1 fp109_2 fv109_2 fp109_3 fv109_3 fp109_4 fv109_4 fp110_0 fv110_0 fp110_1 fv110_1 fp110_2 fv110_2 fp110_3 fv110_3 fp110_4 fv110_4 fp120_0 fv120_0 fp120_1 fv120_1 fp120_2 fv120_2 fp120_3 fv120_3 fp121_0 fv121_0 fp121_1 fv121_1 fp121_2 fv121_2 fp121_3 fv121_3 fp122_0 fv122_0 fp122_1 fv122_1 fp123_0 fv123_0 fp123_1 fv123_1 fp126_0 fv126_0 fp126_1 fv126_1 fp127_0 fv127_0 fp127_1 fv127_1 fp144_0 fv144_0 fp144_1 fv144_1 fp144_2 fv144_2 fp145_0 fv145_0 fp145_1 fv145_1 fp145_2 fv145_2 lv22 ll22 is22 ix22 sh22 so22 sb22 sm22 sp22 lv23 ll23 is23 ix23 sh23 so23 sb23 sm23 sp23 lv26 ll26 is26 ix26 sh26 so26 sb26 sm26 sp26 lv29 ll29 is29 ix29 sh29 so29 sb29 sm29 sp29 lv30 ll30 is30 ix30 sh30 so30 sb30 sm30 sp30 lv57 ll57 is57 ix57 sh57 so57 sb57 sm57 sp57 lv133 ll133 is133 sp133 lv150 ll150 is150 ix150 sh150 so150 sb150 sm150 sp150 xs9 ls9 sx9 sy9 sz9
section
open Go Go.Sim
set_option maxRecDepth 100000
set_option maxHeartbeats 4000000

/-- A function that draws lines into a block of their own. -/
def Drawn (f : FuncId) (p : Nat) (d : Int) : Prop := ∀ (F : AHeap) (br n : Nat) (K : ABlk) (t : List Class) (cl : Bool) (lp : Bool), RdK n K → F br = none → n + p < 600000000 →
  ACalls Tryz.prog f [.ptr br 2 0 0, aTree t cl, I d, B lp] (F.set br K) fun r H' => ∃ (l : List Line) (G : AHeap) (K' : ABlk), Grow rLine 4 50 F G r l ∧ G br = none ∧ H' = G.set br K' ∧ RdK (n + p) K' ∧ 1 ≤ l.length ∧ l.length ≤ p
/-- The same, told when nobody writes them any more. -/
def DrawnF (f : FuncId) (p : Nat) (d : Int) : Prop := ∀ (F : AHeap) (br n : Nat) (K : ABlk) (t : List Class) (cl : Bool) (lp : Bool), RdK n K → F br = none → n + p < 600000000 →
  ACalls Tryz.prog f [.ptr br 2 0 0, aTree t cl, I d, B lp] (F.set br K) fun r H' => ∃ (l : List Line) (cl' : Bool) (K' : ABlk), r = .vsl (l.map rLine) cl' ∧ H' = F.set br K' ∧ RdK (n + p) K' ∧ 1 ≤ l.length ∧ l.length ≤ p
theorem Drawn.frz {f : FuncId} {p : Nat} {d : Int} (h : Drawn f p d) : DrawnF f p d := by
  intro F br n K t cl lp hK hF hn
  refine acalls_fz (h F br n K t cl lp hK hF hn) ?_
  rintro x _ ⟨l, G, K', hg, hr, rfl, hK', h1, h2⟩
  have hg' := grow_in (K := K') hg hr
  obtain ⟨cl', hz⟩ := grow_fz hg'
  exact ⟨_, F.set br K', grow_le hg', hz, l, cl', K', rfl, rfl, hK', h1, h2⟩
/-- Lines put behind a line that stands alone. -/
theorem app_lit {H : AHeap} {y : Line} {l : List Line} {cl : Bool} {d : AV} {K : AV → AHeap → Prop} {g : Tag (H, K)} (hd : d = .vsl [rLine y] true) (hl : 1 ≤ l.length) (hb : l.length ≤ 1000000) (k : ∀ x' H', Grow rLine 4 50 H H' x' (y :: l) → K x' H') : appT Tryz.prog H 26 d (.vsl (l.map rLine) cl) K g := by
  subst hd
  show appendA Tryz.prog H 26 (.vsl [rLine y] true) (.vsl (l.map rLine) cl) K
  have hmax : maxLen = 9223372036854775807 := rfl
  unfold appendA
  simp only [te26, ti50, rowsOf]
  refine ⟨by decide, fun r hr => by simp at hr; obtain ⟨y, _, rfl⟩ := hr; rfl, fun r hr => by simp at hr; subst hr; rfl, by simp; omega, by simp; omega, fun e => ?_, fun e => ⟨trivial, fun b' hb' => ?_⟩⟩
  · have : l = [] := by simpa using e
    rw [this] at hl; simp at hl
  · refine k _ _ (.inr ⟨b', false, hb', by simp [Nat.add_comm], by simp⟩)
theorem c_aBlock {d : Int} {p : Nat} (hp : p ≤ 300000) (hS : DrawnF 148 p d) : Drawn 117 (1 + 3 * p) d := by
  intro F br n K t cl lp hK hF hn
  refine acalls_of1 Tryz.func117 rfl (by kernel_rfl) rfl rfl (awp_sound (fz := fun _ => []) (im := fun s => s == 5 || s == 11 || s == 13) mixed _ _ _ _ (by kernel_rfl) ?_)
  simp +contextual -dsimp -implicitDefEqProofs (maxSteps := 5000000) only [go_sem, reduceIte, reduceCtorEq, Nat.reduceEqDiff, Nat.reduceBEq, Nat.reduceAdd, Nat.reduceLeDiff, Nat.reduceMul, Nat.reduceLT, Int.reduceEq, Int.reduceLT, Int.reduceLE]
  refine k_one [1, 2, 1, 2, 3] _ hK hF (by omega) (by simp) rfl rfl fun v K1 hv hK1 => ?_
  have hv3 : 1 ≤ v ∧ v ≤ 3 := by simp at hv; omega
  simp +contextual -dsimp -implicitDefEqProofs (maxSteps := 5000000) only [go_sem, reduceIte, reduceCtorEq, Nat.reduceEqDiff, Nat.reduceBEq, Nat.reduceAdd, Nat.reduceLeDiff, Nat.reduceMul, Nat.reduceLT, Int.reduceEq, Int.reduceLT, Int.reduceLE]
  refine aloop mixed (fz := fun _ => []) (im := fun s => s == 5 || s == 11 || s == 13) (by kernel_rfl) (fun m tm H' => ∃ (l : List Line) (G : AHeap) (x : AV) (K : ABlk) (i : Nat), m = (v - i).toNat ∧ i ≤ v ∧ Grow rLine 4 50 F G x l ∧ G br = none ∧ RdK (n + 1 + i * p) K ∧ i ≤ l.length ∧ l.length ≤ i * p ∧ H' = G.set br K ∧ tm 0 = .ptr br 2 0 0 ∧ tm 5 = .vptr [[.vsl (t.map rClass) cl]] 0 0 ∧ tm 2 = I d ∧ tm 3 = B lp ∧ tm 9 = x ∧ tm 10 = I (v - i)) v.toNat ⟨[], F, .vsl [] true, K1, 0, by simp, by omega, grow_nil, hF, by simpa using hK1, by simp, by simp, rfl, ?_⟩ ?_
  · simp +contextual -dsimp -implicitDefEqProofs (maxSteps := 5000000) only [go_sem, reduceIte, reduceCtorEq, Nat.reduceEqDiff, Nat.reduceBEq, Nat.reduceAdd, Nat.reduceLeDiff, Nat.reduceMul, Nat.reduceLT, Int.reduceEq, Int.reduceLT, Int.reduceLE]
    simp
  · rintro m tm H' ⟨l, G, x, K, i, rfl, hiv, hg, fr, hK, hl1, hl2, rfl, t0, t5, t2, t3, t9, t10⟩
    have hm3 : i * p ≤ 3 * p := Nat.mul_le_mul_right p (by omega)
    have hs : (i + 1) * p = i * p + p := Nat.succ_mul i p
    by_cases hlt : (0 : Int) < v - i
    · simp +contextual -dsimp -implicitDefEqProofs (maxSteps := 5000000) only [go_sem, reduceIte, reduceCtorEq, Nat.reduceEqDiff, Nat.reduceBEq, Nat.reduceAdd, Nat.reduceLeDiff, Nat.reduceMul, Nat.reduceLT, Int.reduceEq, Int.reduceLT, Int.reduceLE, t0, t2, t3, t5, t9, t10, hlt]
      have hm4 : (i + 1) * p ≤ 3 * p := Nat.mul_le_mul_right p (by omega)
      refine (hS G br _ K t cl lp hK fr (by omega)).mono ?_
      rintro _ H' ⟨l2, cl2, K2, rfl, rfl, hK2, h1, h2⟩
      simp +contextual -dsimp -implicitDefEqProofs (maxSteps := 5000000) only [go_sem, reduceIte, reduceCtorEq, Nat.reduceEqDiff, Nat.reduceBEq, Nat.reduceAdd, Nat.reduceLeDiff, Nat.reduceMul, Nat.reduceLT, Int.reduceEq, Int.reduceLT, Int.reduceLE, t0, t2, t3, t5, t9, t10, hlt]
      refine app_lines (m := l2) (grow_in hg fr) (by omega) rfl fun x' H' hg' => ?_
      obtain ⟨G1, hg1, rfl, u1⟩ := grow_out hg' (grow_none hg fr)
      simp +contextual -dsimp -implicitDefEqProofs (maxSteps := 5000000) only [go_sem, reduceIte, reduceCtorEq, Nat.reduceEqDiff, Nat.reduceBEq, Nat.reduceAdd, Nat.reduceLeDiff, Nat.reduceMul, Nat.reduceLT, Int.reduceEq, Int.reduceLT, Int.reduceLE, t0, t2, t3, t5, t9, t10, hlt]
      exact ⟨_, by omega, l ++ l2, G1, x', K2, i + 1, rfl, by omega, hg1, u1, rdk_mono hK2 (by omega), by simp; omega, by simp; omega, rfl, rfl, I_wrap (by omega) (by omega) (by omega)⟩
    · simp +contextual -dsimp -implicitDefEqProofs (maxSteps := 5000000) only [go_sem, reduceIte, reduceCtorEq, Nat.reduceEqDiff, Nat.reduceBEq, Nat.reduceAdd, Nat.reduceLeDiff, Nat.reduceMul, Nat.reduceLT, Int.reduceEq, Int.reduceLT, Int.reduceLE, t0, t2, t3, t5, t9, t10, hlt]
      have hi1 : 1 ≤ i := by omega
      refine retR_less (l := [x]) (H' := G.set br K) ?_ (AHeap.le_refl _) ⟨l, G, K, hg, fr, rfl, rdk_mono hK (by omega), by omega, by omega⟩
      simp only [resA, go_sem, reduceIte, reduceCtorEq, Nat.reduceEqDiff, Nat.reduceBEq, Nat.reduceAdd, Nat.reduceLeDiff, Nat.reduceMul, Nat.reduceLT, Int.reduceEq, Int.reduceLT, Int.reduceLE]
theorem c_aTry {d : Int} {p : Nat} (hd : 0 ≤ d ∧ d ≤ 10) (hp : p ≤ 100000) (hB : DrawnF 117 p (d + 1)) : Drawn 116 (10 + 5 * p) d := by
  intro F br n K t cl lp hK hF hn
  have hwd : IntKind.i64.wrap (d + 1) = d + 1 := w64 (by omega) (by omega)
  refine acalls_of1 Tryz.func116 rfl (by kernel_rfl) rfl rfl (awp_sound (fz := fun _ => []) (im := fun s => s == 5 || s == 14 || s == 23 || s == 38 || s == 41 || s == 61 || s == 81) mixed _ _ _ _ (by kernel_rfl) ?_)
  simp +contextual -dsimp -implicitDefEqProofs (maxSteps := 5000000) only [go_sem, reduceIte, reduceCtorEq, Nat.reduceEqDiff, Nat.reduceBEq, Nat.reduceAdd, Nat.reduceLeDiff, Nat.reduceMul, Nat.reduceLT, Int.reduceEq, Int.reduceLT, Int.reduceLE, hwd]
  refine (hB F br _ K t cl lp hK hF (by omega)).mono ?_
  rintro _ H' ⟨l0, cl0, K0, rfl, rfl, hK0, h1, h2⟩
  simp +contextual -dsimp -implicitDefEqProofs (maxSteps := 5000000) only [go_sem, reduceIte, reduceCtorEq, Nat.reduceEqDiff, Nat.reduceBEq, Nat.reduceAdd, Nat.reduceLeDiff, Nat.reduceMul, Nat.reduceLT, Int.reduceEq, Int.reduceLT, Int.reduceLE]
  refine app_lit (y := ⟨d, 7, 0, 0⟩) rfl h1 (by omega) fun x H' hg => ?_
  obtain ⟨G, hg0, rfl, u0⟩ := grow_out hg hF
  simp +contextual -dsimp -implicitDefEqProofs (maxSteps := 5000000) only [go_sem, reduceIte, reduceCtorEq, Nat.reduceEqDiff, Nat.reduceBEq, Nat.reduceAdd, Nat.reduceLeDiff, Nat.reduceMul, Nat.reduceLT, Int.reduceEq, Int.reduceLT, Int.reduceLE]
  refine k_one [1, 2, 0, 1] _ hK0 u0 (by omega) (by simp) rfl rfl fun v K1 hv hK1 => ?_
  have hv2 : 0 ≤ v ∧ v ≤ 2 := by simp at hv; omega
  simp +contextual -dsimp -implicitDefEqProofs (maxSteps := 5000000) only [go_sem, reduceIte, reduceCtorEq, Nat.reduceEqDiff, Nat.reduceBEq, Nat.reduceAdd, Nat.reduceLeDiff, Nat.reduceMul, Nat.reduceLT, Int.reduceEq, Int.reduceLT, Int.reduceLE]
  refine aloop mixed (fz := fun _ => []) (im := fun s => s == 5 || s == 14 || s == 23 || s == 38 || s == 41 || s == 61 || s == 81) (by kernel_rfl) (fun m tm H' => ∃ (l : List Line) (G : AHeap) (x : AV) (K : ABlk) (i : Nat), m = (v - i).toNat ∧ i ≤ v ∧ Grow rLine 4 50 F G x l ∧ G br = none ∧ RdK (n + p + 1 + i * (p + 2)) K ∧ 1 ≤ l.length ∧ l.length ≤ 1 + p + i * (p + 2) ∧ H' = G.set br K ∧ tm 0 = .ptr br 2 0 0 ∧ tm 5 = .vptr [[.vsl (t.map rClass) cl]] 0 0 ∧ tm 2 = I d ∧ tm 3 = B lp ∧ tm 9 = x ∧ tm 10 = I v ∧ tm 11 = I (v - i)) v.toNat ⟨_, G, x, K1, 0, by simp, by omega, hg0, u0, by simpa using hK1, by simp, by simp; omega, rfl, ?_⟩ ?_
  · simp +contextual -dsimp -implicitDefEqProofs (maxSteps := 5000000) only [go_sem, reduceIte, reduceCtorEq, Nat.reduceEqDiff, Nat.reduceBEq, Nat.reduceAdd, Nat.reduceLeDiff, Nat.reduceMul, Nat.reduceLT, Int.reduceEq, Int.reduceLT, Int.reduceLE]
    simp
  · rintro m tm H' ⟨l, G, x, K, i, rfl, hiv, hg, fr, hK, hl1, hl2, rfl, t0, t5, t2, t3, t9, t10, t11⟩
    have hi2 : i * (p + 2) ≤ 2 * (p + 2) := Nat.mul_le_mul_right (p + 2) (by omega)
    have hs : (i + 1) * (p + 2) = i * (p + 2) + (p + 2) := Nat.succ_mul i (p + 2)
    by_cases hlt : (0 : Int) < v - i
    · have hi3 : (i + 1) * (p + 2) ≤ 2 * (p + 2) := Nat.mul_le_mul_right (p + 2) (by omega)
      simp +contextual -dsimp -implicitDefEqProofs (maxSteps := 5000000) only [go_sem, reduceIte, reduceCtorEq, Nat.reduceEqDiff, Nat.reduceBEq, Nat.reduceAdd, Nat.reduceLeDiff, Nat.reduceMul, Nat.reduceLT, Int.reduceEq, Int.reduceLT, Int.reduceLE, t0, t2, t3, t5, t9, t10, t11, hlt, hwd]
      refine k_pick t.length hK fr (by omega) rfl fun a K2 _ _ _ hK2 => ?_
      simp +contextual -dsimp -implicitDefEqProofs (maxSteps := 5000000) only [go_sem, reduceIte, reduceCtorEq, Nat.reduceEqDiff, Nat.reduceBEq, Nat.reduceAdd, Nat.reduceLeDiff, Nat.reduceMul, Nat.reduceLT, Int.reduceEq, Int.reduceLT, Int.reduceLE, t0, t2, t3, t5, t9, t10, t11, hlt, hwd]
      refine k_one [a, 0] _ hK2 fr (by omega) (by simp) rfl rfl fun a K3 _ hK3 => ?_
      simp +contextual -dsimp -implicitDefEqProofs (maxSteps := 5000000) only [go_sem, reduceIte, reduceCtorEq, Nat.reduceEqDiff, Nat.reduceBEq, Nat.reduceAdd, Nat.reduceLeDiff, Nat.reduceMul, Nat.reduceLT, Int.reduceEq, Int.reduceLT, Int.reduceLE, t0, t2, t3, t5, t9, t10, t11, hlt, hwd]
      refine app_lines (m := [⟨d, 8, a, 0⟩]) (grow_in hg fr) (by simp; omega) rfl fun x' H' hg' => ?_
      obtain ⟨G1, hg1, rfl, u1⟩ := grow_out hg' (grow_none hg fr)
      simp +contextual -dsimp -implicitDefEqProofs (maxSteps := 5000000) only [go_sem, reduceIte, reduceCtorEq, Nat.reduceEqDiff, Nat.reduceBEq, Nat.reduceAdd, Nat.reduceLeDiff, Nat.reduceMul, Nat.reduceLT, Int.reduceEq, Int.reduceLT, Int.reduceLE, t0, t2, t3, t5, t9, t10, t11, hlt, hwd]
      refine (hB G1 br _ K3 t cl lp hK3 u1 (by omega)).mono ?_
      rintro _ H' ⟨l2, cl2, K4, rfl, rfl, hK4, h3, h4⟩
      simp +contextual -dsimp -implicitDefEqProofs (maxSteps := 5000000) only [go_sem, reduceIte, reduceCtorEq, Nat.reduceEqDiff, Nat.reduceBEq, Nat.reduceAdd, Nat.reduceLeDiff, Nat.reduceMul, Nat.reduceLT, Int.reduceEq, Int.reduceLT, Int.reduceLE, t0, t2, t3, t5, t9, t10, t11, hlt, hwd]
      refine app_lines (m := l2) (grow_in hg1 u1) (by simp; omega) rfl fun x' H' hg' => ?_
      obtain ⟨G2, hg2, rfl, u2⟩ := grow_out hg' (grow_none hg1 u1)
      simp +contextual -dsimp -implicitDefEqProofs (maxSteps := 5000000) only [go_sem, reduceIte, reduceCtorEq, Nat.reduceEqDiff, Nat.reduceBEq, Nat.reduceAdd, Nat.reduceLeDiff, Nat.reduceMul, Nat.reduceLT, Int.reduceEq, Int.reduceLT, Int.reduceLE, t0, t2, t3, t5, t9, t10, t11, hlt, hwd]
      exact ⟨_, by omega, _, G2, x', K4, i + 1, rfl, by omega, hg2, u2, rdk_mono hK4 (by omega), by simp; omega, by simp; omega, rfl, rfl, I_wrap (by omega) (by omega) (by omega)⟩
    · simp +contextual -dsimp -implicitDefEqProofs (maxSteps := 5000000) only [go_sem, reduceIte, reduceCtorEq, Nat.reduceEqDiff, Nat.reduceBEq, Nat.reduceAdd, Nat.reduceLeDiff, Nat.reduceMul, Nat.reduceLT, Int.reduceEq, Int.reduceLT, Int.reduceLE, t0, t2, t3, t5, t9, t10, t11, hlt, hwd]
      refine ⟨fun v1 => ?_, fun v1 => ⟨fun v0 => absurd v1 (by omega), fun v0 => ?_⟩⟩
      · have v0 : ¬ v = 0 := by omega
        refine k_pick 3 hK fr (by omega) rfl fun a K2 _ _ _ hK2 => ?_
        simp +contextual -dsimp -implicitDefEqProofs (maxSteps := 5000000) only [go_sem, reduceIte, reduceCtorEq, Nat.reduceEqDiff, Nat.reduceBEq, Nat.reduceAdd, Nat.reduceLeDiff, Nat.reduceMul, Nat.reduceLT, Int.reduceEq, Int.reduceLT, Int.reduceLE, t0, t2, t3, t5, t9, t10, t11, hlt, hwd, v0, v1]
        refine ⟨fun _ => ?_, fun _ => ?_⟩
        · refine app_lines (m := [⟨d, 9, 0, 0⟩]) (grow_in hg fr) (by simp; omega) rfl fun x' H' hg' => ?_
          obtain ⟨G1, hg1, rfl, u1⟩ := grow_out hg' (grow_none hg fr)
          simp +contextual -dsimp -implicitDefEqProofs (maxSteps := 5000000) only [go_sem, reduceIte, reduceCtorEq, Nat.reduceEqDiff, Nat.reduceBEq, Nat.reduceAdd, Nat.reduceLeDiff, Nat.reduceMul, Nat.reduceLT, Int.reduceEq, Int.reduceLT, Int.reduceLE, t0, t2, t3, t5, t9, t10, t11, hlt, hwd, v0, v1]
          refine (hB G1 br _ _ t cl lp hK2 u1 (by omega)).mono ?_
          rintro _ H' ⟨l2, cl2, K4, rfl, rfl, hK4, h3, h4⟩
          simp +contextual -dsimp -implicitDefEqProofs (maxSteps := 5000000) only [go_sem, reduceIte, reduceCtorEq, Nat.reduceEqDiff, Nat.reduceBEq, Nat.reduceAdd, Nat.reduceLeDiff, Nat.reduceMul, Nat.reduceLT, Int.reduceEq, Int.reduceLT, Int.reduceLE, t0, t2, t3, t5, t9, t10, t11, hlt, hwd, v0, v1]
          refine app_lines (m := l2) (grow_in hg1 u1) (by simp; omega) rfl fun x2 H' hg' => ?_
          obtain ⟨G2, hg2, rfl, u2⟩ := grow_out hg' (grow_none hg1 u1)
          simp +contextual -dsimp -implicitDefEqProofs (maxSteps := 5000000) only [go_sem, reduceIte, reduceCtorEq, Nat.reduceEqDiff, Nat.reduceBEq, Nat.reduceAdd, Nat.reduceLeDiff, Nat.reduceMul, Nat.reduceLT, Int.reduceEq, Int.reduceLT, Int.reduceLE, t0, t2, t3, t5, t9, t10, t11, hlt, hwd, v0, v1]
          refine k_pick 2 hK4 u2 (by omega) rfl fun b K7 _ _ _ hK7 => ?_
          simp +contextual -dsimp -implicitDefEqProofs (maxSteps := 5000000) only [go_sem, reduceIte, reduceCtorEq, Nat.reduceEqDiff, Nat.reduceBEq, Nat.reduceAdd, Nat.reduceLeDiff, Nat.reduceMul, Nat.reduceLT, Int.reduceEq, Int.reduceLT, Int.reduceLE, t0, t2, t3, t5, t9, t10, t11, hlt, hwd, v0, v1]
          refine ⟨fun _ => ?_, fun _ => ?_⟩
          · skip
            refine app_lines (m := [⟨d, 10, 0, 0⟩]) (grow_in hg2 u2) (by simp; omega) rfl fun x' H' hg' => ?_
            obtain ⟨G8, hg8, rfl, u8⟩ := grow_out hg' (grow_none hg2 u2)
            simp +contextual -dsimp -implicitDefEqProofs (maxSteps := 5000000) only [go_sem, reduceIte, reduceCtorEq, Nat.reduceEqDiff, Nat.reduceBEq, Nat.reduceAdd, Nat.reduceLeDiff, Nat.reduceMul, Nat.reduceLT, Int.reduceEq, Int.reduceLT, Int.reduceLE, t0, t2, t3, t5, t9, t10, t11, hlt, hwd, v0, v1]
            refine (hB G8 br _ _ t cl lp hK7 u8 (by omega)).mono ?_
            rintro _ H' ⟨l8, cl8, K8, rfl, rfl, hK8, h8, h9⟩
            simp +contextual -dsimp -implicitDefEqProofs (maxSteps := 5000000) only [go_sem, reduceIte, reduceCtorEq, Nat.reduceEqDiff, Nat.reduceBEq, Nat.reduceAdd, Nat.reduceLeDiff, Nat.reduceMul, Nat.reduceLT, Int.reduceEq, Int.reduceLT, Int.reduceLE, t0, t2, t3, t5, t9, t10, t11, hlt, hwd, v0, v1]
            refine app_lines (m := l8) (grow_in hg8 u8) (by simp; omega) rfl fun x' H' hg' => ?_
            obtain ⟨G9, hg9, rfl, u9⟩ := grow_out hg' (grow_none hg8 u8)
            simp +contextual -dsimp -implicitDefEqProofs (maxSteps := 5000000) only [go_sem, reduceIte, reduceCtorEq, Nat.reduceEqDiff, Nat.reduceBEq, Nat.reduceAdd, Nat.reduceLeDiff, Nat.reduceMul, Nat.reduceLT, Int.reduceEq, Int.reduceLT, Int.reduceLE, t0, t2, t3, t5, t9, t10, t11, hlt, hwd, v0, v1]
            refine retR_less (l := [x']) (H' := G9.set br K8) ?_ (AHeap.le_refl _) ⟨_, G9, K8, hg9, u9, rfl, rdk_mono hK8 (by omega), by first | omega | (simp; omega), by first | omega | (simp; omega)⟩
            simp only [resA, go_sem, reduceIte, reduceCtorEq, Nat.reduceEqDiff, Nat.reduceBEq, Nat.reduceAdd, Nat.reduceLeDiff, Nat.reduceMul, Nat.reduceLT, Int.reduceEq, Int.reduceLT, Int.reduceLE]
          · refine retR_less (l := [x2]) (H' := AHeap.set _ br K7) ?_ (AHeap.le_refl _) ⟨_, _, K7, hg2, u2, rfl, rdk_mono hK7 (by omega), by first | omega | (simp; omega), by first | omega | (simp; omega)⟩
            simp only [resA, go_sem, reduceIte, reduceCtorEq, Nat.reduceEqDiff, Nat.reduceBEq, Nat.reduceAdd, Nat.reduceLeDiff, Nat.reduceMul, Nat.reduceLT, Int.reduceEq, Int.reduceLT, Int.reduceLE, t9]
        · skip
          refine k_pick 2 hK2 fr (by omega) rfl fun b K7 _ _ _ hK7 => ?_
          simp +contextual -dsimp -implicitDefEqProofs (maxSteps := 5000000) only [go_sem, reduceIte, reduceCtorEq, Nat.reduceEqDiff, Nat.reduceBEq, Nat.reduceAdd, Nat.reduceLeDiff, Nat.reduceMul, Nat.reduceLT, Int.reduceEq, Int.reduceLT, Int.reduceLE, t0, t2, t3, t5, t9, t10, t11, hlt, hwd, v0, v1]
          refine ⟨fun _ => ?_, fun _ => ?_⟩
          · skip
            refine app_lines (m := [⟨d, 10, 0, 0⟩]) (grow_in hg fr) (by simp; omega) rfl fun x' H' hg' => ?_
            obtain ⟨G8, hg8, rfl, u8⟩ := grow_out hg' (grow_none hg fr)
            simp +contextual -dsimp -implicitDefEqProofs (maxSteps := 5000000) only [go_sem, reduceIte, reduceCtorEq, Nat.reduceEqDiff, Nat.reduceBEq, Nat.reduceAdd, Nat.reduceLeDiff, Nat.reduceMul, Nat.reduceLT, Int.reduceEq, Int.reduceLT, Int.reduceLE, t0, t2, t3, t5, t9, t10, t11, hlt, hwd, v0, v1]
            refine (hB G8 br _ _ t cl lp hK7 u8 (by omega)).mono ?_
            rintro _ H' ⟨l8, cl8, K8, rfl, rfl, hK8, h8, h9⟩
            simp +contextual -dsimp -implicitDefEqProofs (maxSteps := 5000000) only [go_sem, reduceIte, reduceCtorEq, Nat.reduceEqDiff, Nat.reduceBEq, Nat.reduceAdd, Nat.reduceLeDiff, Nat.reduceMul, Nat.reduceLT, Int.reduceEq, Int.reduceLT, Int.reduceLE, t0, t2, t3, t5, t9, t10, t11, hlt, hwd, v0, v1]
            refine app_lines (m := l8) (grow_in hg8 u8) (by simp; omega) rfl fun x' H' hg' => ?_
            obtain ⟨G9, hg9, rfl, u9⟩ := grow_out hg' (grow_none hg8 u8)
            simp +contextual -dsimp -implicitDefEqProofs (maxSteps := 5000000) only [go_sem, reduceIte, reduceCtorEq, Nat.reduceEqDiff, Nat.reduceBEq, Nat.reduceAdd, Nat.reduceLeDiff, Nat.reduceMul, Nat.reduceLT, Int.reduceEq, Int.reduceLT, Int.reduceLE, t0, t2, t3, t5, t9, t10, t11, hlt, hwd, v0, v1]
            refine retR_less (l := [x']) (H' := G9.set br K8) ?_ (AHeap.le_refl _) ⟨_, G9, K8, hg9, u9, rfl, rdk_mono hK8 (by omega), by first | omega | (simp; omega), by first | omega | (simp; omega)⟩
            simp only [resA, go_sem, reduceIte, reduceCtorEq, Nat.reduceEqDiff, Nat.reduceBEq, Nat.reduceAdd, Nat.reduceLeDiff, Nat.reduceMul, Nat.reduceLT, Int.reduceEq, Int.reduceLT, Int.reduceLE]
          · refine retR_less (l := [x]) (H' := AHeap.set _ br K7) ?_ (AHeap.le_refl _) ⟨_, _, K7, hg, fr, rfl, rdk_mono hK7 (by omega), by first | omega | (simp; omega), by first | omega | (simp; omega)⟩
            simp only [resA, go_sem, reduceIte, reduceCtorEq, Nat.reduceEqDiff, Nat.reduceBEq, Nat.reduceAdd, Nat.reduceLeDiff, Nat.reduceMul, Nat.reduceLT, Int.reduceEq, Int.reduceLT, Int.reduceLE, t9]
      · skip
        refine app_lines (m := [⟨d, 10, 0, 0⟩]) (grow_in hg fr) (by simp; omega) rfl fun x' H' hg' => ?_
        obtain ⟨G8, hg8, rfl, u8⟩ := grow_out hg' (grow_none hg fr)
        simp +contextual -dsimp -implicitDefEqProofs (maxSteps := 5000000) only [go_sem, reduceIte, reduceCtorEq, Nat.reduceEqDiff, Nat.reduceBEq, Nat.reduceAdd, Nat.reduceLeDiff, Nat.reduceMul, Nat.reduceLT, Int.reduceEq, Int.reduceLT, Int.reduceLE, t0, t2, t3, t5, t9, t10, t11, hlt, hwd, v0, v1]
        refine (hB G8 br _ _ t cl lp hK u8 (by omega)).mono ?_
        rintro _ H' ⟨l8, cl8, K8, rfl, rfl, hK8, h8, h9⟩
        simp +contextual -dsimp -implicitDefEqProofs (maxSteps := 5000000) only [go_sem, reduceIte, reduceCtorEq, Nat.reduceEqDiff, Nat.reduceBEq, Nat.reduceAdd, Nat.reduceLeDiff, Nat.reduceMul, Nat.reduceLT, Int.reduceEq, Int.reduceLT, Int.reduceLE, t0, t2, t3, t5, t9, t10, t11, hlt, hwd, v0, v1]
        refine app_lines (m := l8) (grow_in hg8 u8) (by simp; omega) rfl fun x' H' hg' => ?_
        obtain ⟨G9, hg9, rfl, u9⟩ := grow_out hg' (grow_none hg8 u8)
        simp +contextual -dsimp -implicitDefEqProofs (maxSteps := 5000000) only [go_sem, reduceIte, reduceCtorEq, Nat.reduceEqDiff, Nat.reduceBEq, Nat.reduceAdd, Nat.reduceLeDiff, Nat.reduceMul, Nat.reduceLT, Int.reduceEq, Int.reduceLT, Int.reduceLE, t0, t2, t3, t5, t9, t10, t11, hlt, hwd, v0, v1]
        refine retR_less (l := [x']) (H' := G9.set br K8) ?_ (AHeap.le_refl _) ⟨_, G9, K8, hg9, u9, rfl, rdk_mono hK8 (by omega), by first | omega | (simp; omega), by first | omega | (simp; omega)⟩
        simp only [resA, go_sem, reduceIte, reduceCtorEq, Nat.reduceEqDiff, Nat.reduceBEq, Nat.reduceAdd, Nat.reduceLeDiff, Nat.reduceMul, Nat.reduceLT, Int.reduceEq, Int.reduceLT, Int.reduceLE]
end
section
open Go Go.Sim
set_option maxRecDepth 100000
set_option maxHeartbeats 4000000

theorem c_aStatement {d : Int} {p p1 p2 : Nat} (hd : 0 ≤ d ∧ d ≤ 3) (h6 : 6 ≤ p) (hp1 : p1 + 6 ≤ p) (hp2 : p2 + 6 ≤ p) (hp : p ≤ 300000) (hB : d < 3 → DrawnF 117 p1 (d + 1)) (hT : d < 3 → DrawnF 116 p2 d) : DrawnF 148 p d := by
  intro F br n K t cl lp hK hF hn
  have hwd : IntKind.i64.wrap (d + 1) = d + 1 := w64 (by omega) (by omega)
  refine acalls_of1 Tryz.func148 rfl (by kernel_rfl) rfl rfl (awp_sound (fz := fun _ => []) (im := fun s => s == 5 || s == 29 || s == 43 || s == 57 || s == 65 || s == 96 || s == 108) mixed _ _ _ _ (by kernel_rfl) ?_)
  simp +contextual -dsimp -implicitDefEqProofs (maxSteps := 5000000) only [go_sem, reduceIte, reduceCtorEq, Nat.reduceEqDiff, Nat.reduceBEq, Nat.reduceAdd, Nat.reduceLeDiff, Nat.reduceMul, Nat.reduceLT, Int.reduceEq, Int.reduceLT, Int.reduceLE]
  refine k_pick 16 hK hF (by omega) rfl fun k0 K0 q0 q1 _ hK0 => ?_
  simp +contextual -dsimp -implicitDefEqProofs (maxSteps := 5000000) only [go_sem, reduceIte, reduceCtorEq, Nat.reduceEqDiff, Nat.reduceBEq, Nat.reduceAdd, Nat.reduceLeDiff, Nat.reduceMul, Nat.reduceLT, Int.reduceEq, Int.reduceLT, Int.reduceLE]
  refine ⟨fun h3 => ?_, fun h3 => ?_⟩
  · refine k_pick 9 hK0 hF (by omega) rfl fun k K1 r0 r1 _ hK1 => ?_
    simp +contextual -dsimp -implicitDefEqProofs (maxSteps := 5000000) only [go_sem, reduceIte, reduceCtorEq, Nat.reduceEqDiff, Nat.reduceBEq, Nat.reduceAdd, Nat.reduceLeDiff, Nat.reduceMul, Nat.reduceLT, Int.reduceEq, Int.reduceLT, Int.reduceLE]
    skip
    rintro b10 ⟨n1, n2, hb⟩
    simp only [br_out n1]
    have nb : ∀ K, (F.set b10 K) br = none := fun K => by rw [set_other n2]; exact hF
    have le : ∀ K K', AHeap.le (F.set br K') ((F.set b10 K).set br K') := fun K K' => le_ch (le_s1 (AHeap.le_refl _) hb)
    by_cases c4 : k < 4
    · simp +contextual -dsimp -implicitDefEqProofs (maxSteps := 5000000) only [go_sem, reduceIte, reduceCtorEq, Nat.reduceEqDiff, Nat.reduceBEq, Nat.reduceAdd, Nat.reduceLeDiff, Nat.reduceMul, Nat.reduceLT, Int.reduceEq, Int.reduceLT, Int.reduceLE, c4, n1, n2]
      refine k_one [1, 2, 3, 4, 5] _ hK1 (nb _) (by omega) (by simp) rfl rfl fun v K1 _ hK1 => ?_
      simp +contextual -dsimp -implicitDefEqProofs (maxSteps := 5000000) only [go_sem, reduceIte, reduceCtorEq, Nat.reduceEqDiff, Nat.reduceBEq, Nat.reduceAdd, Nat.reduceLeDiff, Nat.reduceMul, Nat.reduceLT, Int.reduceEq, Int.reduceLT, Int.reduceLE, c4, n1, n2]
      refine retR_less (l := [.vsl [rLine ⟨d, 1, v, 0⟩] true]) (H' := F.set br K1) ?_ (le _ _) ⟨[⟨d, 1, v, 0⟩], true, K1, rfl, rfl, rdk_mono hK1 (by omega), by simp, by simp; omega⟩
      simp only [resA, go_sem, reduceIte, reduceCtorEq, Nat.reduceEqDiff, Nat.reduceBEq, Nat.reduceAdd, Nat.reduceLeDiff, Nat.reduceMul, Nat.reduceLT, Int.reduceEq, Int.reduceLT, Int.reduceLE]
    by_cases c6 : k < 6
    · simp +contextual -dsimp -implicitDefEqProofs (maxSteps := 5000000) only [go_sem, reduceIte, reduceCtorEq, Nat.reduceEqDiff, Nat.reduceBEq, Nat.reduceAdd, Nat.reduceLeDiff, Nat.reduceMul, Nat.reduceLT, Int.reduceEq, Int.reduceLT, Int.reduceLE, c4, c6, n1, n2]
      refine k_pick t.length hK1 (nb _) (by omega) rfl fun a K1 _ _ _ hK1 => ?_
      simp +contextual -dsimp -implicitDefEqProofs (maxSteps := 5000000) only [go_sem, reduceIte, reduceCtorEq, Nat.reduceEqDiff, Nat.reduceBEq, Nat.reduceAdd, Nat.reduceLeDiff, Nat.reduceMul, Nat.reduceLT, Int.reduceEq, Int.reduceLT, Int.reduceLE, c4, c6, n1, n2]
      refine k_one [1, 2, 3] _ hK1 (nb _) (by omega) (by simp) rfl rfl fun v K2 _ hK2 => ?_
      simp +contextual -dsimp -implicitDefEqProofs (maxSteps := 5000000) only [go_sem, reduceIte, reduceCtorEq, Nat.reduceEqDiff, Nat.reduceBEq, Nat.reduceAdd, Nat.reduceLeDiff, Nat.reduceMul, Nat.reduceLT, Int.reduceEq, Int.reduceLT, Int.reduceLE, c4, c6, n1, n2]
      refine retR_less (l := [.vsl [rLine ⟨d, 2, a, v⟩] true]) (H' := F.set br K2) ?_ (le _ _) ⟨[⟨d, 2, a, v⟩], true, K2, rfl, rfl, rdk_mono hK2 (by omega), by simp, by simp; omega⟩
      simp only [resA, go_sem, reduceIte, reduceCtorEq, Nat.reduceEqDiff, Nat.reduceBEq, Nat.reduceAdd, Nat.reduceLeDiff, Nat.reduceMul, Nat.reduceLT, Int.reduceEq, Int.reduceLT, Int.reduceLE]
    by_cases e6 : k = 6
    · simp +contextual -dsimp -implicitDefEqProofs (maxSteps := 5000000) only [go_sem, reduceIte, reduceCtorEq, Nat.reduceEqDiff, Nat.reduceBEq, Nat.reduceAdd, Nat.reduceLeDiff, Nat.reduceMul, Nat.reduceLT, Int.reduceEq, Int.reduceLT, Int.reduceLE, c4, c6, e6, n1, n2]
      refine retR_less (l := [.vsl [rLine ⟨d, 3, 0, 0⟩] true]) (H' := AHeap.set F br _) ?_ (le _ _) ⟨[⟨d, 3, 0, 0⟩], true, _, rfl, rfl, rdk_mono hK1 (by omega), by simp, by simp; omega⟩
      simp only [resA, go_sem, reduceIte, reduceCtorEq, Nat.reduceEqDiff, Nat.reduceBEq, Nat.reduceAdd, Nat.reduceLeDiff, Nat.reduceMul, Nat.reduceLT, Int.reduceEq, Int.reduceLT, Int.reduceLE]
    by_cases e7 : k = 7
    · cases lp
      · simp +contextual -dsimp -implicitDefEqProofs (maxSteps := 5000000) only [go_sem, reduceIte, reduceCtorEq, Nat.reduceEqDiff, Nat.reduceBEq, Nat.reduceAdd, Nat.reduceLeDiff, Nat.reduceMul, Nat.reduceLT, Int.reduceEq, Int.reduceLT, Int.reduceLE, c4, c6, e6, e7, n1, n2]
        refine k_one [7, 8] _ hK1 (nb _) (by omega) (by simp) rfl rfl fun v K1 _ hK1 => ?_
        simp +contextual -dsimp -implicitDefEqProofs (maxSteps := 5000000) only [go_sem, reduceIte, reduceCtorEq, Nat.reduceEqDiff, Nat.reduceBEq, Nat.reduceAdd, Nat.reduceLeDiff, Nat.reduceMul, Nat.reduceLT, Int.reduceEq, Int.reduceLT, Int.reduceLE, c4, c6, e6, e7, n1, n2]
        refine retR_less (l := [.vsl [rLine ⟨d, 4, v, 0⟩] true]) (H' := F.set br K1) ?_ (le _ _) ⟨[⟨d, 4, v, 0⟩], true, K1, rfl, rfl, rdk_mono hK1 (by omega), by simp, by simp; omega⟩
        simp only [resA, go_sem, reduceIte, reduceCtorEq, Nat.reduceEqDiff, Nat.reduceBEq, Nat.reduceAdd, Nat.reduceLeDiff, Nat.reduceMul, Nat.reduceLT, Int.reduceEq, Int.reduceLT, Int.reduceLE]
      · simp +contextual -dsimp -implicitDefEqProofs (maxSteps := 5000000) only [go_sem, reduceIte, reduceCtorEq, Nat.reduceEqDiff, Nat.reduceBEq, Nat.reduceAdd, Nat.reduceLeDiff, Nat.reduceMul, Nat.reduceLT, Int.reduceEq, Int.reduceLT, Int.reduceLE, c4, c6, e6, e7, n1, n2]
        refine k_one [5, 6] _ hK1 (nb _) (by omega) (by simp) rfl rfl fun v K1 _ hK1 => ?_
        simp +contextual -dsimp -implicitDefEqProofs (maxSteps := 5000000) only [go_sem, reduceIte, reduceCtorEq, Nat.reduceEqDiff, Nat.reduceBEq, Nat.reduceAdd, Nat.reduceLeDiff, Nat.reduceMul, Nat.reduceLT, Int.reduceEq, Int.reduceLT, Int.reduceLE, c4, c6, e6, e7, n1, n2]
        refine retR_less (l := [.vsl [rLine ⟨d, v, 0, 0⟩] true]) (H' := F.set br K1) ?_ (le _ _) ⟨[⟨d, v, 0, 0⟩], true, K1, rfl, rfl, rdk_mono hK1 (by omega), by simp, by simp; omega⟩
        simp only [resA, go_sem, reduceIte, reduceCtorEq, Nat.reduceEqDiff, Nat.reduceBEq, Nat.reduceAdd, Nat.reduceLeDiff, Nat.reduceMul, Nat.reduceLT, Int.reduceEq, Int.reduceLT, Int.reduceLE]
    by_cases e8 : k = 8
    · simp +contextual -dsimp -implicitDefEqProofs (maxSteps := 5000000) only [go_sem, reduceIte, reduceCtorEq, Nat.reduceEqDiff, Nat.reduceBEq, Nat.reduceAdd, Nat.reduceLeDiff, Nat.reduceMul, Nat.reduceLT, Int.reduceEq, Int.reduceLT, Int.reduceLE, c4, c6, e6, e7, e8, n1, n2]
      refine retR_less (l := [.vsl [rLine ⟨d, 0, 0, 0⟩] true]) (H' := AHeap.set F br _) ?_ (le _ _) ⟨[⟨d, 0, 0, 0⟩], true, _, rfl, rfl, rdk_mono hK1 (by omega), by simp, by simp; omega⟩
      simp only [resA, go_sem, reduceIte, reduceCtorEq, Nat.reduceEqDiff, Nat.reduceBEq, Nat.reduceAdd, Nat.reduceLeDiff, Nat.reduceMul, Nat.reduceLT, Int.reduceEq, Int.reduceLT, Int.reduceLE]
    omega
  · skip
    rintro b10 ⟨n1, n2, hb⟩
    simp only [br_out n1]
    have nb : ∀ K, (F.set b10 K) br = none := fun K => by rw [set_other n2]; exact hF
    have le : ∀ K K', AHeap.le (F.set br K') ((F.set b10 K).set br K') := fun K K' => le_ch (le_s1 (AHeap.le_refl _) hb)
    by_cases c4 : k0 < 4
    · simp +contextual -dsimp -implicitDefEqProofs (maxSteps := 5000000) only [go_sem, reduceIte, reduceCtorEq, Nat.reduceEqDiff, Nat.reduceBEq, Nat.reduceAdd, Nat.reduceLeDiff, Nat.reduceMul, Nat.reduceLT, Int.reduceEq, Int.reduceLT, Int.reduceLE, c4, n1, n2]
      refine k_one [1, 2, 3, 4, 5] _ hK0 (nb _) (by omega) (by simp) rfl rfl fun v K1 _ hK1 => ?_
      simp +contextual -dsimp -implicitDefEqProofs (maxSteps := 5000000) only [go_sem, reduceIte, reduceCtorEq, Nat.reduceEqDiff, Nat.reduceBEq, Nat.reduceAdd, Nat.reduceLeDiff, Nat.reduceMul, Nat.reduceLT, Int.reduceEq, Int.reduceLT, Int.reduceLE, c4, n1, n2]
      refine retR_less (l := [.vsl [rLine ⟨d, 1, v, 0⟩] true]) (H' := F.set br K1) ?_ (le _ _) ⟨[⟨d, 1, v, 0⟩], true, K1, rfl, rfl, rdk_mono hK1 (by omega), by simp, by simp; omega⟩
      simp only [resA, go_sem, reduceIte, reduceCtorEq, Nat.reduceEqDiff, Nat.reduceBEq, Nat.reduceAdd, Nat.reduceLeDiff, Nat.reduceMul, Nat.reduceLT, Int.reduceEq, Int.reduceLT, Int.reduceLE]
    by_cases c6 : k0 < 6
    · simp +contextual -dsimp -implicitDefEqProofs (maxSteps := 5000000) only [go_sem, reduceIte, reduceCtorEq, Nat.reduceEqDiff, Nat.reduceBEq, Nat.reduceAdd, Nat.reduceLeDiff, Nat.reduceMul, Nat.reduceLT, Int.reduceEq, Int.reduceLT, Int.reduceLE, c4, c6, n1, n2]
      refine k_pick t.length hK0 (nb _) (by omega) rfl fun a K1 _ _ _ hK1 => ?_
      simp +contextual -dsimp -implicitDefEqProofs (maxSteps := 5000000) only [go_sem, reduceIte, reduceCtorEq, Nat.reduceEqDiff, Nat.reduceBEq, Nat.reduceAdd, Nat.reduceLeDiff, Nat.reduceMul, Nat.reduceLT, Int.reduceEq, Int.reduceLT, Int.reduceLE, c4, c6, n1, n2]
      refine k_one [1, 2, 3] _ hK1 (nb _) (by omega) (by simp) rfl rfl fun v K2 _ hK2 => ?_
      simp +contextual -dsimp -implicitDefEqProofs (maxSteps := 5000000) only [go_sem, reduceIte, reduceCtorEq, Nat.reduceEqDiff, Nat.reduceBEq, Nat.reduceAdd, Nat.reduceLeDiff, Nat.reduceMul, Nat.reduceLT, Int.reduceEq, Int.reduceLT, Int.reduceLE, c4, c6, n1, n2]
      refine retR_less (l := [.vsl [rLine ⟨d, 2, a, v⟩] true]) (H' := F.set br K2) ?_ (le _ _) ⟨[⟨d, 2, a, v⟩], true, K2, rfl, rfl, rdk_mono hK2 (by omega), by simp, by simp; omega⟩
      simp only [resA, go_sem, reduceIte, reduceCtorEq, Nat.reduceEqDiff, Nat.reduceBEq, Nat.reduceAdd, Nat.reduceLeDiff, Nat.reduceMul, Nat.reduceLT, Int.reduceEq, Int.reduceLT, Int.reduceLE]
    by_cases e6 : k0 = 6
    · simp +contextual -dsimp -implicitDefEqProofs (maxSteps := 5000000) only [go_sem, reduceIte, reduceCtorEq, Nat.reduceEqDiff, Nat.reduceBEq, Nat.reduceAdd, Nat.reduceLeDiff, Nat.reduceMul, Nat.reduceLT, Int.reduceEq, Int.reduceLT, Int.reduceLE, c4, c6, e6, n1, n2]
      refine retR_less (l := [.vsl [rLine ⟨d, 3, 0, 0⟩] true]) (H' := AHeap.set F br _) ?_ (le _ _) ⟨[⟨d, 3, 0, 0⟩], true, _, rfl, rfl, rdk_mono hK0 (by omega), by simp, by simp; omega⟩
      simp only [resA, go_sem, reduceIte, reduceCtorEq, Nat.reduceEqDiff, Nat.reduceBEq, Nat.reduceAdd, Nat.reduceLeDiff, Nat.reduceMul, Nat.reduceLT, Int.reduceEq, Int.reduceLT, Int.reduceLE]
    by_cases e7 : k0 = 7
    · cases lp
      · simp +contextual -dsimp -implicitDefEqProofs (maxSteps := 5000000) only [go_sem, reduceIte, reduceCtorEq, Nat.reduceEqDiff, Nat.reduceBEq, Nat.reduceAdd, Nat.reduceLeDiff, Nat.reduceMul, Nat.reduceLT, Int.reduceEq, Int.reduceLT, Int.reduceLE, c4, c6, e6, e7, n1, n2]
        refine k_one [7, 8] _ hK0 (nb _) (by omega) (by simp) rfl rfl fun v K1 _ hK1 => ?_
        simp +contextual -dsimp -implicitDefEqProofs (maxSteps := 5000000) only [go_sem, reduceIte, reduceCtorEq, Nat.reduceEqDiff, Nat.reduceBEq, Nat.reduceAdd, Nat.reduceLeDiff, Nat.reduceMul, Nat.reduceLT, Int.reduceEq, Int.reduceLT, Int.reduceLE, c4, c6, e6, e7, n1, n2]
        refine retR_less (l := [.vsl [rLine ⟨d, 4, v, 0⟩] true]) (H' := F.set br K1) ?_ (le _ _) ⟨[⟨d, 4, v, 0⟩], true, K1, rfl, rfl, rdk_mono hK1 (by omega), by simp, by simp; omega⟩
        simp only [resA, go_sem, reduceIte, reduceCtorEq, Nat.reduceEqDiff, Nat.reduceBEq, Nat.reduceAdd, Nat.reduceLeDiff, Nat.reduceMul, Nat.reduceLT, Int.reduceEq, Int.reduceLT, Int.reduceLE]
      · simp +contextual -dsimp -implicitDefEqProofs (maxSteps := 5000000) only [go_sem, reduceIte, reduceCtorEq, Nat.reduceEqDiff, Nat.reduceBEq, Nat.reduceAdd, Nat.reduceLeDiff, Nat.reduceMul, Nat.reduceLT, Int.reduceEq, Int.reduceLT, Int.reduceLE, c4, c6, e6, e7, n1, n2]
        refine k_one [5, 6] _ hK0 (nb _) (by omega) (by simp) rfl rfl fun v K1 _ hK1 => ?_
        simp +contextual -dsimp -implicitDefEqProofs (maxSteps := 5000000) only [go_sem, reduceIte, reduceCtorEq, Nat.reduceEqDiff, Nat.reduceBEq, Nat.reduceAdd, Nat.reduceLeDiff, Nat.reduceMul, Nat.reduceLT, Int.reduceEq, Int.reduceLT, Int.reduceLE, c4, c6, e6, e7, n1, n2]
        refine retR_less (l := [.vsl [rLine ⟨d, v, 0, 0⟩] true]) (H' := F.set br K1) ?_ (le _ _) ⟨[⟨d, v, 0, 0⟩], true, K1, rfl, rfl, rdk_mono hK1 (by omega), by simp, by simp; omega⟩
        simp only [resA, go_sem, reduceIte, reduceCtorEq, Nat.reduceEqDiff, Nat.reduceBEq, Nat.reduceAdd, Nat.reduceLeDiff, Nat.reduceMul, Nat.reduceLT, Int.reduceEq, Int.reduceLT, Int.reduceLE]
    by_cases e8 : k0 = 8
    · simp +contextual -dsimp -implicitDefEqProofs (maxSteps := 5000000) only [go_sem, reduceIte, reduceCtorEq, Nat.reduceEqDiff, Nat.reduceBEq, Nat.reduceAdd, Nat.reduceLeDiff, Nat.reduceMul, Nat.reduceLT, Int.reduceEq, Int.reduceLT, Int.reduceLE, c4, c6, e6, e7, e8, n1, n2]
      refine retR_less (l := [.vsl [rLine ⟨d, 0, 0, 0⟩] true]) (H' := AHeap.set F br _) ?_ (le _ _) ⟨[⟨d, 0, 0, 0⟩], true, _, rfl, rfl, rdk_mono hK0 (by omega), by simp, by simp; omega⟩
      simp only [resA, go_sem, reduceIte, reduceCtorEq, Nat.reduceEqDiff, Nat.reduceBEq, Nat.reduceAdd, Nat.reduceLeDiff, Nat.reduceMul, Nat.reduceLT, Int.reduceEq, Int.reduceLT, Int.reduceLE]
    have h3' : d < 3 := by omega
    have hB := hB h3'
    have hT := hT h3'
    have nb : ∀ K, (F.set b10 K) br = none := fun K => by rw [set_other n2]; exact hF
    have le : ∀ K K', AHeap.le (F.set br K') ((F.set b10 K).set br K') := fun K K' => le_ch (le_s1 (AHeap.le_refl _) hb)
    by_cases c11 : k0 < 11
    · simp +contextual -dsimp -implicitDefEqProofs (maxSteps := 5000000) only [go_sem, reduceIte, reduceCtorEq, Nat.reduceEqDiff, Nat.reduceBEq, Nat.reduceAdd, Nat.reduceLeDiff, Nat.reduceMul, Nat.reduceLT, Int.reduceEq, Int.reduceLT, Int.reduceLE, c4, c6, e6, e7, e8, c11, n1, n2]
      refine k_pick 4 hK0 (nb _) (by omega) rfl fun a K1 _ _ _ hK1 => ?_
      simp +contextual -dsimp -implicitDefEqProofs (maxSteps := 5000000) only [go_sem, reduceIte, reduceCtorEq, Nat.reduceEqDiff, Nat.reduceBEq, Nat.reduceAdd, Nat.reduceLeDiff, Nat.reduceMul, Nat.reduceLT, Int.reduceEq, Int.reduceLT, Int.reduceLE, c4, c6, e6, e7, e8, c11, n1, n2]
      refine k_pick 2 hK1 (nb _) (by omega) rfl fun b K2 _ _ _ hK2 => ?_
      simp +contextual -dsimp -implicitDefEqProofs (maxSteps := 5000000) only [go_sem, reduceIte, reduceCtorEq, Nat.reduceEqDiff, Nat.reduceBEq, Nat.reduceAdd, Nat.reduceLeDiff, Nat.reduceMul, Nat.reduceLT, Int.reduceEq, Int.reduceLT, Int.reduceLE, c4, c6, e6, e7, e8, c11, n1, n2]
      refine draw_intro [1, 0, 0, 0, 0, 0, 0, 3, 2, 0] _ (by kernel_rfl) (le_set (nb _)) ?_
      simp +contextual -dsimp -implicitDefEqProofs (maxSteps := 5000000) only [go_sem, reduceIte, reduceCtorEq, Nat.reduceEqDiff, Nat.reduceBEq, Nat.reduceAdd, Nat.reduceLeDiff, Nat.reduceMul, Nat.reduceLT, Int.reduceEq, Int.reduceLT, Int.reduceLE, c4, c6, e6, e7, e8, c11, n1, n2, hwd]
      refine (hB _ br _ _ t cl lp hK2 (nb _) (by omega)).mono ?_
      rintro _ H' ⟨l2, cl2, K4, rfl, rfl, hK4, h3, h4⟩
      refine ⟨le_set (nb _), ?_⟩
      simp +contextual -dsimp -implicitDefEqProofs (maxSteps := 5000000) only [go_sem, reduceIte, reduceCtorEq, Nat.reduceEqDiff, Nat.reduceBEq, Nat.reduceAdd, Nat.reduceLeDiff, Nat.reduceMul, Nat.reduceLT, Int.reduceEq, Int.reduceLT, Int.reduceLE, c4, c6, e6, e7, e8, c11, n1, n2, hwd]
      refine app_lit (y := ⟨d, 11, a, b⟩) rfl h3 (by omega) fun x' H' hg => ?_
      obtain ⟨G, hg0, rfl, u0⟩ := grow_out hg (nb _)
      have hg0' := grow_in (K := K4) hg0 u0
      obtain ⟨G2, hg2, rfl, u2⟩ := grow_out hg0 hb
      have u2r : G2 br = none := by rw [set_none] at u0; exact u0.2.2
      simp +contextual -dsimp -implicitDefEqProofs (maxSteps := 5000000) only [go_sem, reduceIte, reduceCtorEq, Nat.reduceEqDiff, Nat.reduceBEq, Nat.reduceAdd, Nat.reduceLeDiff, Nat.reduceMul, Nat.reduceLT, Int.reduceEq, Int.reduceLT, Int.reduceLE, c4, c6, e6, e7, e8, c11, n1, n2, hwd]
      refine grow_frz (t := 8) hg0' fun cl3 => ?_
      refine retR_less (l := [.vsl ((⟨d, 11, a, b⟩ :: l2).map rLine) cl3]) (H' := F.set br K4) ?_ (le _ _) ⟨⟨d, 11, a, b⟩ :: l2, cl3, K4, rfl, rfl, rdk_mono hK4 (by omega), by simp, by simp; omega⟩
      simp only [resA, go_sem, reduceIte, reduceCtorEq, Nat.reduceEqDiff, Nat.reduceBEq, Nat.reduceAdd, Nat.reduceLeDiff, Nat.reduceMul, Nat.reduceLT, Int.reduceEq, Int.reduceLT, Int.reduceLE]
    by_cases e11 : k0 = 11
    · simp +contextual -dsimp -implicitDefEqProofs (maxSteps := 5000000) only [go_sem, reduceIte, reduceCtorEq, Nat.reduceEqDiff, Nat.reduceBEq, Nat.reduceAdd, Nat.reduceLeDiff, Nat.reduceMul, Nat.reduceLT, Int.reduceEq, Int.reduceLT, Int.reduceLE, c4, c6, e6, e7, e8, c11, e11, n1, n2]
      refine k_one [2, 1, 3, 0] _ hK0 (nb _) (by omega) (by simp) rfl rfl fun a K2 _ hK2 => ?_
      simp +contextual -dsimp -implicitDefEqProofs (maxSteps := 5000000) only [go_sem, reduceIte, reduceCtorEq, Nat.reduceEqDiff, Nat.reduceBEq, Nat.reduceAdd, Nat.reduceLeDiff, Nat.reduceMul, Nat.reduceLT, Int.reduceEq, Int.reduceLT, Int.reduceLE, c4, c6, e6, e7, e8, c11, e11, n1, n2]
      refine draw_intro [1, 0, 0, 0, 0, 0, 3, 2, 0] _ (by kernel_rfl) (le_set (nb _)) ?_
      simp +contextual -dsimp -implicitDefEqProofs (maxSteps := 5000000) only [go_sem, reduceIte, reduceCtorEq, Nat.reduceEqDiff, Nat.reduceBEq, Nat.reduceAdd, Nat.reduceLeDiff, Nat.reduceMul, Nat.reduceLT, Int.reduceEq, Int.reduceLT, Int.reduceLE, c4, c6, e6, e7, e8, c11, n1, n2, e11, hwd]
      refine (hB _ br _ _ t cl true hK2 (nb _) (by omega)).mono ?_
      rintro _ H' ⟨l2, cl2, K4, rfl, rfl, hK4, h3, h4⟩
      refine ⟨le_set (nb _), ?_⟩
      simp +contextual -dsimp -implicitDefEqProofs (maxSteps := 5000000) only [go_sem, reduceIte, reduceCtorEq, Nat.reduceEqDiff, Nat.reduceBEq, Nat.reduceAdd, Nat.reduceLeDiff, Nat.reduceMul, Nat.reduceLT, Int.reduceEq, Int.reduceLT, Int.reduceLE, c4, c6, e6, e7, e8, c11, n1, n2, e11, hwd]
      refine app_lit (y := ⟨d, 12, a, 0⟩) rfl h3 (by omega) fun x' H' hg => ?_
      obtain ⟨G, hg0, rfl, u0⟩ := grow_out hg (nb _)
      have hg0' := grow_in (K := K4) hg0 u0
      obtain ⟨G2, hg2, rfl, u2⟩ := grow_out hg0 hb
      have u2r : G2 br = none := by rw [set_none] at u0; exact u0.2.2
      simp +contextual -dsimp -implicitDefEqProofs (maxSteps := 5000000) only [go_sem, reduceIte, reduceCtorEq, Nat.reduceEqDiff, Nat.reduceBEq, Nat.reduceAdd, Nat.reduceLeDiff, Nat.reduceMul, Nat.reduceLT, Int.reduceEq, Int.reduceLT, Int.reduceLE, c4, c6, e6, e7, e8, c11, n1, n2, e11, hwd]
      refine grow_frz (t := 8) hg0' fun cl3 => ?_
      refine retR_less (l := [.vsl ((⟨d, 12, a, 0⟩ :: l2).map rLine) cl3]) (H' := F.set br K4) ?_ (le _ _) ⟨⟨d, 12, a, 0⟩ :: l2, cl3, K4, rfl, rfl, rdk_mono hK4 (by omega), by simp, by simp; omega⟩
      simp only [resA, go_sem, reduceIte, reduceCtorEq, Nat.reduceEqDiff, Nat.reduceBEq, Nat.reduceAdd, Nat.reduceLeDiff, Nat.reduceMul, Nat.reduceLT, Int.reduceEq, Int.reduceLT, Int.reduceLE]
    · simp +contextual -dsimp -implicitDefEqProofs (maxSteps := 5000000) only [go_sem, reduceIte, reduceCtorEq, Nat.reduceEqDiff, Nat.reduceBEq, Nat.reduceAdd, Nat.reduceLeDiff, Nat.reduceMul, Nat.reduceLT, Int.reduceEq, Int.reduceLT, Int.reduceLE, c4, c6, e6, e7, e8, c11, e11, n1, n2]
      refine (hT _ br _ _ t cl lp hK0 (nb _) (by omega)).mono ?_
      rintro _ H' ⟨l2, cl2, K4, rfl, rfl, hK4, h3, h4⟩
      simp +contextual -dsimp -implicitDefEqProofs (maxSteps := 5000000) only [go_sem, reduceIte, reduceCtorEq, Nat.reduceEqDiff, Nat.reduceBEq, Nat.reduceAdd, Nat.reduceLeDiff, Nat.reduceMul, Nat.reduceLT, Int.reduceEq, Int.reduceLT, Int.reduceLE, c4, c6, e6, e7, e8, c11, e11, n1, n2]
      refine retR_less (l := [.vsl (l2.map rLine) cl2]) (H' := F.set br K4) ?_ (le _ _) ⟨l2, cl2, K4, rfl, rfl, rdk_mono hK4 (by omega), h3, by omega⟩
      simp only [resA, go_sem, reduceIte, reduceCtorEq, Nat.reduceEqDiff, Nat.reduceBEq, Nat.reduceAdd, Nat.reduceLeDiff, Nat.reduceMul, Nat.reduceLT, Int.reduceEq, Int.reduceLT, Int.reduceLE]
end
section
open Go Go.Sim
set_option maxRecDepth 100000
set_option maxHeartbeats 4000000

theorem st3 : DrawnF 148 6 3 := c_aStatement (p1 := 0) (p2 := 0) (by omega) (by omega) (by omega) (by omega) (by omega) (fun h => absurd h (by omega)) (fun h => absurd h (by omega))
theorem blk3 : Drawn 117 19 3 := c_aBlock (by omega) st3
theorem try2 : Drawn 116 105 2 := c_aTry (p := 19) (by omega) (by omega) blk3.frz
theorem st2 : DrawnF 148 111 2 := c_aStatement (p1 := 19) (p2 := 105) (by omega) (by omega) (by omega) (by omega) (by omega) (fun _ => blk3.frz) (fun _ => try2.frz)
theorem blk2 : Drawn 117 334 2 := c_aBlock (by omega) st2
theorem try1 : Drawn 116 1680 1 := c_aTry (p := 334) (by omega) (by omega) blk2.frz
theorem st1 : DrawnF 148 1686 1 := c_aStatement (p1 := 334) (p2 := 1680) (by omega) (by omega) (by omega) (by omega) (by omega) (fun _ => blk2.frz) (fun _ => try1.frz)
theorem blk1 : Drawn 117 5059 1 := c_aBlock (by omega) st1
theorem try0 : Drawn 116 25305 0 := c_aTry (p := 5059) (by omega) (by omega) blk1.frz
theorem st0 : DrawnF 148 25311 0 := c_aStatement (p1 := 5059) (p2 := 25305) (by omega) (by omega) (by omega) (by omega) (by omega) (fun _ => blk1.frz) (fun _ => try0.frz)
theorem blk0 : Drawn 117 75934 0 := c_aBlock (by omega) st0
/-- What is told beside blocks that nobody needs. -/
theorem grow_drop {α : Type} {f : α → List AV} {sz : Nat} {ty : TypeId} {F F0 G : AHeap} {x : AV} {l : List α} (hg : Grow f sz ty F0 G x l) (hle : F.le F0) : ∃ G', Grow f sz ty F G' x l ∧ G'.le G := by
  rcases hg with ⟨rfl, rfl, rfl⟩ | ⟨b, cl, hb, rfl, rfl⟩
  · exact ⟨F, .inl ⟨rfl, rfl, rfl⟩, hle⟩
  · have hb' : F b = none := by
      cases h : F b with
      | none => rfl
      | some k => rw [hle b k h] at hb; cases hb
    exact ⟨_, .inr ⟨b, cl, hb', rfl, rfl⟩, le_ch hle⟩
theorem le_none {F G : AHeap} {b : Nat} (h : F.le G) (hb : G b = none) : F b = none := by
  cases hq : F b with
  | none => rfl
  | some k => rw [h b k hq] at hb; cases hb
theorem c_goodProgram (F : AHeap) (br n : Nat) (K : ABlk) (t : List Class) (cl : Bool) (h : RdK n K) (hF : F br = none) (hn : n < 500000000) : ACalls Tryz.prog 74 [.ptr br 2 0 0, aTree t cl] (F.set br K) fun r H' =>
    ∃ (l : List Line) (G : AHeap) (K' : ABlk), Grow rLine 4 50 F G r l ∧ G br = none ∧ H' = G.set br K' ∧ RdK (n + 900000) K' ∧ 1 ≤ l.length ∧ l.length ≤ 24 := by
  refine acalls_of1 Tryz.func74 rfl (by kernel_rfl) rfl rfl (awp_sound (fz := fun _ => []) (im := fun s => s == 3) mixed _ _ _ _ (by kernel_rfl) ?_)
  simp +contextual -dsimp -implicitDefEqProofs (maxSteps := 5000000) only [go_sem, reduceIte, reduceCtorEq, Nat.reduceEqDiff, Nat.reduceBEq, Nat.reduceAdd, Nat.reduceLeDiff, Nat.reduceMul, Nat.reduceLT, Int.reduceEq, Int.reduceLT, Int.reduceLE]
  refine aloop mixed (fz := fun _ => []) (im := fun s => s == 3) (by kernel_rfl) (fun m tm H' => ∃ (F0 : AHeap) (K : ABlk) (i : Nat), m = 4 - i ∧ i ≤ 4 ∧ F.le F0 ∧ F0 br = none ∧ RdK (n + i * 180000) K ∧ H' = F0.set br K ∧ tm 0 = .ptr br 2 0 0 ∧ tm 3 = .vptr [[.vsl (t.map rClass) cl]] 0 0 ∧ tm 5 = I i) 4 ⟨F, K, 0, rfl, by omega, AHeap.le_refl _, hF, by simpa using h, rfl, ?_⟩ ?_
  · simp +contextual -dsimp -implicitDefEqProofs (maxSteps := 5000000) only [go_sem, reduceIte, reduceCtorEq, Nat.reduceEqDiff, Nat.reduceBEq, Nat.reduceAdd, Nat.reduceLeDiff, Nat.reduceMul, Nat.reduceLT, Int.reduceEq, Int.reduceLT, Int.reduceLE]
  · rintro m tm H' ⟨F0, K, i, rfl, hi, hle, fr, hK, rfl, t0, t3, t5⟩
    by_cases hlt : (i : Int) < 4
    · have hi4 : i < 4 := by omega
      simp +contextual -dsimp -implicitDefEqProofs (maxSteps := 5000000) only [go_sem, reduceIte, reduceCtorEq, Nat.reduceEqDiff, Nat.reduceBEq, Nat.reduceAdd, Nat.reduceLeDiff, Nat.reduceMul, Nat.reduceLT, Int.reduceEq, Int.reduceLT, Int.reduceLE, t0, t3, t5, hlt]
      refine (try0 F0 br _ K t cl false hK fr (by omega)).mono ?_
      rintro x H' ⟨l, G, K1, hg, fr1, rfl, hK1, h1, h2⟩
      simp +contextual -dsimp -implicitDefEqProofs (maxSteps := 5000000) only [go_sem, reduceIte, reduceCtorEq, Nat.reduceEqDiff, Nat.reduceBEq, Nat.reduceAdd, Nat.reduceLeDiff, Nat.reduceMul, Nat.reduceLT, Int.reduceEq, Int.reduceLT, Int.reduceLE, t0, t3, t5, hlt]
      refine k_pick 3 hK1 fr1 (by omega) rfl fun v K2 _ _ _ hK2 => ?_
      simp +contextual -dsimp -implicitDefEqProofs (maxSteps := 5000000) only [go_sem, reduceIte, reduceCtorEq, Nat.reduceEqDiff, Nat.reduceBEq, Nat.reduceAdd, Nat.reduceLeDiff, Nat.reduceMul, Nat.reduceLT, Int.reduceEq, Int.reduceLT, Int.reduceLE, t0, t3, t5, hlt]
      refine ⟨fun _ => ?_, fun _ => ?_⟩
      · refine (blk0.frz G br _ K2 t cl false hK2 fr1 (by omega)).mono ?_
        rintro _ H' ⟨l2, cl2, K3, rfl, rfl, hK3, h3, h4⟩
        simp +contextual -dsimp -implicitDefEqProofs (maxSteps := 5000000) only [go_sem, reduceIte, reduceCtorEq, Nat.reduceEqDiff, Nat.reduceBEq, Nat.reduceAdd, Nat.reduceLeDiff, Nat.reduceMul, Nat.reduceLT, Int.reduceEq, Int.reduceLT, Int.reduceLE, t0, t3, t5, hlt]
        refine app_lines (m := l2) (grow_in hg fr1) (by omega) rfl fun x' H' hg' => ?_
        obtain ⟨G1, hg1, rfl, u1⟩ := grow_out hg' (grow_none hg fr1)
        simp +contextual -dsimp -implicitDefEqProofs (maxSteps := 5000000) only [go_sem, reduceIte, reduceCtorEq, Nat.reduceEqDiff, Nat.reduceBEq, Nat.reduceAdd, Nat.reduceLeDiff, Nat.reduceMul, Nat.reduceLT, Int.reduceEq, Int.reduceLT, Int.reduceLE, t0, t3, t5, hlt]
        refine k_pick 4 hK3 u1 (by omega) rfl fun w K5 _ _ _ hK5 => ?_
        simp +contextual -dsimp -implicitDefEqProofs (maxSteps := 5000000) only [go_sem, reduceIte, reduceCtorEq, Nat.reduceEqDiff, Nat.reduceBEq, Nat.reduceAdd, Nat.reduceLeDiff, Nat.reduceMul, Nat.reduceLT, Int.reduceEq, Int.reduceLT, Int.reduceLE, t0, t3, t5, hlt]
        refine ⟨fun _ => ?_, fun _ => ?_⟩
        · refine (blk0 _ br _ _ t cl false hK5 u1 (by omega)).mono ?_
          rintro x6 H' ⟨l6, G6, K6, hg6, fr6, rfl, hK6, h5, h6⟩
          simp +contextual -dsimp -implicitDefEqProofs (maxSteps := 5000000) only [go_sem, reduceIte, reduceCtorEq, Nat.reduceEqDiff, Nat.reduceBEq, Nat.reduceAdd, Nat.reduceLeDiff, Nat.reduceMul, Nat.reduceLT, Int.reduceEq, Int.reduceLT, Int.reduceLE, t0, t3, t5, hlt]
          have hlen := grow_len te26 hg6
          simp +contextual -dsimp -implicitDefEqProofs (maxSteps := 5000000) only [go_sem, reduceIte, reduceCtorEq, Nat.reduceEqDiff, Nat.reduceBEq, Nat.reduceAdd, Nat.reduceLeDiff, Nat.reduceMul, Nat.reduceLT, Int.reduceEq, Int.reduceLT, Int.reduceLE, t0, t3, t5, hlt, hlen]
          refine ⟨fun h24 => ?_, fun h24 => ?_⟩
          · obtain ⟨G', hg', le'⟩ := grow_drop hg6 (AHeap.le_trans hle (grow_le hg1))
            refine retR_less (l := [x6]) (H' := G'.set br _) ?_ (le_ch le') ⟨_, G', _, hg', le_none le' fr6, rfl, rdk_mono hK6 (by omega), by first | omega | (simp; omega), by first | omega | (simp at h24 ⊢; omega)⟩
            simp only [resA, go_sem, reduceIte, reduceCtorEq, Nat.reduceEqDiff, Nat.reduceBEq, Nat.reduceAdd, Nat.reduceLeDiff, Nat.reduceMul, Nat.reduceLT, Int.reduceEq, Int.reduceLT, Int.reduceLE]
          · exact ⟨_, by omega, _, _, i + 1, rfl, by omega, AHeap.le_trans (AHeap.le_trans hle (grow_le hg1)) (grow_le hg6), fr6, rdk_mono hK6 (by omega), rfl, I_wrap (by omega) (by omega) (by omega)⟩
        · skip
          have hlen := grow_len te26 hg1
          simp +contextual -dsimp -implicitDefEqProofs (maxSteps := 5000000) only [go_sem, reduceIte, reduceCtorEq, Nat.reduceEqDiff, Nat.reduceBEq, Nat.reduceAdd, Nat.reduceLeDiff, Nat.reduceMul, Nat.reduceLT, Int.reduceEq, Int.reduceLT, Int.reduceLE, t0, t3, t5, hlt, hlen]
          refine ⟨fun h24 => ?_, fun h24 => ?_⟩
          · obtain ⟨G', hg', le'⟩ := grow_drop hg1 hle
            refine retR_less (l := [x']) (H' := G'.set br _) ?_ (le_ch le') ⟨_, G', _, hg', le_none le' u1, rfl, rdk_mono hK5 (by omega), by first | omega | (simp; omega), by first | omega | (simp at h24 ⊢; omega)⟩
            simp only [resA, go_sem, reduceIte, reduceCtorEq, Nat.reduceEqDiff, Nat.reduceBEq, Nat.reduceAdd, Nat.reduceLeDiff, Nat.reduceMul, Nat.reduceLT, Int.reduceEq, Int.reduceLT, Int.reduceLE]
          · exact ⟨_, by omega, _, _, i + 1, rfl, by omega, AHeap.le_trans hle (grow_le hg1), u1, rdk_mono hK5 (by omega), rfl, I_wrap (by omega) (by omega) (by omega)⟩
      · skip
        refine k_pick 4 hK2 fr1 (by omega) rfl fun w K5 _ _ _ hK5 => ?_
        simp +contextual -dsimp -implicitDefEqProofs (maxSteps := 5000000) only [go_sem, reduceIte, reduceCtorEq, Nat.reduceEqDiff, Nat.reduceBEq, Nat.reduceAdd, Nat.reduceLeDiff, Nat.reduceMul, Nat.reduceLT, Int.reduceEq, Int.reduceLT, Int.reduceLE, t0, t3, t5, hlt]
        refine ⟨fun _ => ?_, fun _ => ?_⟩
        · refine (blk0 _ br _ _ t cl false hK5 fr1 (by omega)).mono ?_
          rintro x6 H' ⟨l6, G6, K6, hg6, fr6, rfl, hK6, h5, h6⟩
          simp +contextual -dsimp -implicitDefEqProofs (maxSteps := 5000000) only [go_sem, reduceIte, reduceCtorEq, Nat.reduceEqDiff, Nat.reduceBEq, Nat.reduceAdd, Nat.reduceLeDiff, Nat.reduceMul, Nat.reduceLT, Int.reduceEq, Int.reduceLT, Int.reduceLE, t0, t3, t5, hlt]
          have hlen := grow_len te26 hg6
          simp +contextual -dsimp -implicitDefEqProofs (maxSteps := 5000000) only [go_sem, reduceIte, reduceCtorEq, Nat.reduceEqDiff, Nat.reduceBEq, Nat.reduceAdd, Nat.reduceLeDiff, Nat.reduceMul, Nat.reduceLT, Int.reduceEq, Int.reduceLT, Int.reduceLE, t0, t3, t5, hlt, hlen]
          refine ⟨fun h24 => ?_, fun h24 => ?_⟩
          · obtain ⟨G', hg', le'⟩ := grow_drop hg6 (AHeap.le_trans hle (grow_le hg))
            refine retR_less (l := [x6]) (H' := G'.set br _) ?_ (le_ch le') ⟨_, G', _, hg', le_none le' fr6, rfl, rdk_mono hK6 (by omega), by first | omega | (simp; omega), by first | omega | (simp at h24 ⊢; omega)⟩
            simp only [resA, go_sem, reduceIte, reduceCtorEq, Nat.reduceEqDiff, Nat.reduceBEq, Nat.reduceAdd, Nat.reduceLeDiff, Nat.reduceMul, Nat.reduceLT, Int.reduceEq, Int.reduceLT, Int.reduceLE]
          · exact ⟨_, by omega, _, _, i + 1, rfl, by omega, AHeap.le_trans (AHeap.le_trans hle (grow_le hg)) (grow_le hg6), fr6, rdk_mono hK6 (by omega), rfl, I_wrap (by omega) (by omega) (by omega)⟩
        · skip
          have hlen := grow_len te26 hg
          simp +contextual -dsimp -implicitDefEqProofs (maxSteps := 5000000) only [go_sem, reduceIte, reduceCtorEq, Nat.reduceEqDiff, Nat.reduceBEq, Nat.reduceAdd, Nat.reduceLeDiff, Nat.reduceMul, Nat.reduceLT, Int.reduceEq, Int.reduceLT, Int.reduceLE, t0, t3, t5, hlt, hlen]
          refine ⟨fun h24 => ?_, fun h24 => ?_⟩
          · obtain ⟨G', hg', le'⟩ := grow_drop hg hle
            refine retR_less (l := [x]) (H' := G'.set br _) ?_ (le_ch le') ⟨_, G', _, hg', le_none le' fr1, rfl, rdk_mono hK5 (by omega), by first | omega | (simp; omega), by first | omega | (simp at h24 ⊢; omega)⟩
            simp only [resA, go_sem, reduceIte, reduceCtorEq, Nat.reduceEqDiff, Nat.reduceBEq, Nat.reduceAdd, Nat.reduceLeDiff, Nat.reduceMul, Nat.reduceLT, Int.reduceEq, Int.reduceLT, Int.reduceLE]
          · exact ⟨_, by omega, _, _, i + 1, rfl, by omega, AHeap.le_trans hle (grow_le hg), fr1, rdk_mono hK5 (by omega), rfl, I_wrap (by omega) (by omega) (by omega)⟩
    · simp +contextual -dsimp -implicitDefEqProofs (maxSteps := 5000000) only [go_sem, reduceIte, reduceCtorEq, Nat.reduceEqDiff, Nat.reduceBEq, Nat.reduceAdd, Nat.reduceLeDiff, Nat.reduceMul, Nat.reduceLT, Int.reduceEq, Int.reduceLT, Int.reduceLE, t0, t3, t5, hlt]
      rintro b36 ⟨w1, w2, hb36⟩
      rw [br_out w1]
      have hb : F b36 = none := le_none hle hb36
      refine retR_less (l := [.sl b36 4 0 4 true]) (H' := (F.set b36 ⟨4, 50, ([⟨0, 7, 0, 0⟩, ⟨1, 2, 0, 1⟩, ⟨0, 10, 0, 0⟩, ⟨1, 1, 1, 0⟩] : List Line).map rLine⟩).set br K) ?_ (le_ch (le_ch hle)) ⟨_, _, K, .inr ⟨b36, true, hb, rfl, rfl⟩, by rw [set_other w2]; exact hF, rfl, rdk_mono hK (by omega), by simp, by simp⟩
      simp only [resA, go_sem, reduceIte, reduceCtorEq, Nat.reduceEqDiff, Nat.reduceBEq, Nat.reduceAdd, Nat.reduceLeDiff, Nat.reduceMul, Nat.reduceLT, Int.reduceEq, Int.reduceLT, Int.reduceLE]
end
section
open Go Go.Sim
set_option maxRecDepth 100000
set_option maxHeartbeats 4000000

theorem c_someProgram0 (F : AHeap) (br n : Nat) (K : ABlk) (h : RdK n K) (hF : F br = none) (hn : n < 400000000) : ACalls Tryz.prog 32 [.ptr br 2 0 0] (F.set br K) fun r H' =>
    ∃ t cl x, ∃ l : List Line, ∃ cl' G K', r = .tup [aTree t cl, x] ∧ Fz (AHeap.set G br K') (F.set br K') x (.vsl (l.map rLine) cl') ∧ F.le G ∧ H' = G.set br K' ∧ RdK (n + 1000000) K' ∧ t.length ≤ 8 ∧ shortNames t ∧ l.length ≤ 24 := by
  refine acalls_of1 Tryz.func32 rfl (by kernel_rfl) rfl rfl (awp_sound (fz := fun r => if r = 13 then [5] else []) (im := fun s => s == 15 || s == 30 || s == 39 || s == 48) mixed _ _ _ _ (by kernel_rfl) ?_)
  simp +contextual -dsimp -implicitDefEqProofs (maxSteps := 5000000) only [go_sem, reduceIte, reduceCtorEq, Nat.reduceEqDiff, Nat.reduceBEq, Nat.reduceAdd, Nat.reduceLeDiff, Nat.reduceMul, Nat.reduceLT, Int.reduceEq, Int.reduceLT, Int.reduceLE]
  rintro b2 ⟨p1, p2, hb2⟩
  rw [br_out p1]
  have n2 : ∀ K4, (F.set b2 K4) br = none := fun K4 => by rw [set_other p2]; exact hF
  refine (c_someTreeF _ br n K h (n2 _) (by omega)).mono ?_
  rintro _ _ ⟨t, cl, K1, rfl, rfl, hK1, ht8, hs⟩
  simp +contextual -dsimp -implicitDefEqProofs (maxSteps := 5000000) only [go_sem, reduceIte, reduceCtorEq, Nat.reduceEqDiff, Nat.reduceBEq, Nat.reduceAdd, Nat.reduceLeDiff, Nat.reduceMul, Nat.reduceLT, Int.reduceEq, Int.reduceLT, Int.reduceLE, p1, p2]
  rintro b4 ⟨q1, q2, q3, q4, hb4⟩
  simp only [br_out q1]
  have n4 : ∀ K4 K5, ((F.set b2 K4).set b4 K5) br = none := fun K4 K5 => by rw [set_other q2]; exact n2 _
  refine ⟨fun h0 => ?_, fun h0 => ?_⟩
  · refine retR_less (l := [aTree t cl, .vsl [rLine ⟨0, 0, 0, 0⟩] true]) (H' := F.set br K1) ?_ (le_ch (le_s1 (le_s1 (AHeap.le_refl _) hb2) hb4)) ⟨t, cl, _, [⟨0, 0, 0, 0⟩], true, F, K1, rfl, .same _, AHeap.le_refl _, rfl, rdk_mono hK1 (by omega), ht8, hs, by simp⟩
    simp only [resA, go_sem, reduceIte, reduceCtorEq, Nat.reduceEqDiff, Nat.reduceBEq, Nat.reduceAdd, Nat.reduceLeDiff, Nat.reduceMul, Nat.reduceLT, Int.reduceEq, Int.reduceLT, Int.reduceLE, p1, p2, q1, q2, q3, q4]
  · refine (c_goodProgram _ br _ K1 t cl hK1 (n4 _ _) (by omega)).mono ?_
    rintro _ _ ⟨l, G0, K2, hg0, hr0, rfl, hK2, h1, h24⟩
    rcases hg0 with ⟨e, _, _⟩ | ⟨bx, clx, hbx, rfl, rfl⟩
    · rw [e] at h1; simp at h1
    have hbx' := hbx
    have hr' := hr0
    rw [set_none, set_none] at hbx'
    rw [set_none] at hr'
    obtain ⟨s1, s2, s3, s4, hbF⟩ := hbx'
    obtain ⟨s5, s6, _⟩ := hr'
    have n6 : ∀ (A C D : ABlk), (((F.set b2 A).set b4 C).set bx D) br = none := fun A C D => by rw [set_other s5]; exact n4 _ _
    have fin : ∀ (l' : List Line) (off len : Nat) (c' : Bool) (K3 : ABlk) (tm : Tm), off + len ≤ l'.length → len ≤ 24 → RdK (n + 1000000) K3 → tm 2 = .ptr b2 1 0 0 → tm 3 = .sl bx 4 off len c' → retR Tryz.prog [.cell 2 25, .tmp 3] (fun r H' => ∃ t cl x, ∃ l : List Line, ∃ cl' G K', r = .tup [aTree t cl, x] ∧ Fz (AHeap.set G br K') (F.set br K') x (.vsl (l.map rLine) cl') ∧ F.le G ∧ H' = G.set br K' ∧ RdK (n + 1000000) K' ∧ t.length ≤ 8 ∧ shortNames t ∧ l.length ≤ 24) tm
        ((((F.set b2 ⟨1, 25, [[.vsl (t.map rClass) cl]]⟩).set b4 ⟨1, 25, [[.vsl (t.map rClass) cl]]⟩).set bx ⟨4, 50, l'.map rLine⟩).set br K3) := by
      intro l' off len c' K3 tm hol hl24 hK3 h2 h3
      have hz := Fz.sl (H := (F.set bx ⟨4, 50, l'.map rLine⟩).set br K3) (K := F.set br K3) (b := bx) (sz := 4) (off := off) (len := len) (cl := c') (k := ⟨4, 50, l'.map rLine⟩) (by rw [set_other s6, AHeap.set_self]) rfl (by simpa using hol) (by rw [set_other s6]; exact hbF)
      have he : ((l'.map rLine).drop off).take len = ((l'.drop off).take len).map rLine := by rw [List.map_take, List.map_drop]
      simp only [he] at hz
      refine retR_less (l := [aTree t cl, .sl bx 4 off len c']) (H' := (F.set bx ⟨4, 50, l'.map rLine⟩).set br K3) ?_ (le_ch (le_ch (le_s1 (le_s1 (AHeap.le_refl _) hb2) hb4))) ⟨t, cl, _, (l'.drop off).take len, c', _, K3, rfl, hz, le_s1 (AHeap.le_refl _) hbF, rfl, hK3, ht8, hs, by simp; omega⟩
      simp only [resA, go_sem, reduceIte, reduceCtorEq, Nat.reduceEqDiff, Nat.reduceBEq, Nat.reduceAdd, Nat.reduceLeDiff, Nat.reduceMul, Nat.reduceLT, Int.reduceEq, Int.reduceLT, Int.reduceLE, p1, p2, q1, q2, q3, q4, s1, s2, s3, s4, s5, s6, h2, h3]
    have finV : ∀ (l' : List Line) (c' : Bool) (K3 : ABlk) (tm : Tm), l'.length ≤ 24 → RdK (n + 1000000) K3 → tm 2 = .ptr b2 1 0 0 → tm 3 = .vsl (l'.map rLine) c' → retR Tryz.prog [.cell 2 25, .tmp 3] (fun r H' => ∃ t cl x, ∃ l : List Line, ∃ cl' G K', r = .tup [aTree t cl, x] ∧ Fz (AHeap.set G br K') (F.set br K') x (.vsl (l.map rLine) cl') ∧ F.le G ∧ H' = G.set br K' ∧ RdK (n + 1000000) K' ∧ t.length ≤ 8 ∧ shortNames t ∧ l.length ≤ 24) tm
        (((F.set b2 ⟨1, 25, [[.vsl (t.map rClass) cl]]⟩).set b4 ⟨1, 25, [[.vsl (t.map rClass) cl]]⟩).set br K3) := by
      intro l' c' K3 tm hl24 hK3 h2 h3
      refine retR_less (l := [aTree t cl, .vsl (l'.map rLine) c']) (H' := F.set br K3) ?_ (le_ch (le_s1 (le_s1 (AHeap.le_refl _) hb2) hb4)) ⟨t, cl, _, l', c', F, K3, rfl, .same _, AHeap.le_refl _, rfl, hK3, ht8, hs, hl24⟩
      simp only [resA, go_sem, reduceIte, reduceCtorEq, Nat.reduceEqDiff, Nat.reduceBEq, Nat.reduceAdd, Nat.reduceLeDiff, Nat.reduceMul, Nat.reduceLT, Int.reduceEq, Int.reduceLT, Int.reduceLE, p1, p2, q1, q2, q3, q4, h2, h3]
    have htk : List.take l.length (l.map rLine) = l.map rLine := List.take_of_length_le (by simp)
    have delx : ∀ (G : AHeap) (L K : ABlk), G bx = none → ((G.set bx L).set br K).del bx = G.set br K := fun G L K hG => by rw [set_comm s6, set_del (by rw [set_other s6]; exact hG)]
    simp +contextual -dsimp -implicitDefEqProofs (maxSteps := 5000000) only [go_sem, reduceIte, reduceCtorEq, Nat.reduceEqDiff, Nat.reduceBEq, Nat.reduceAdd, Nat.reduceLeDiff, Nat.reduceMul, Nat.reduceLT, Int.reduceEq, Int.reduceLT, Int.reduceLE, p1, p2, q1, q2, q3, q4, s1, s2, s3, s4, s5, s6]
    refine k_pick l.length hK2 (n6 _ _ _) (by omega) rfl fun v K3 v0 v1 _ hK3 => ?_
    have vl := v1 (by omega)
    have vn : v.toNat < l.length := by omega
    simp +contextual -dsimp -implicitDefEqProofs (maxSteps := 5000000) only [go_sem, reduceIte, reduceCtorEq, Nat.reduceEqDiff, Nat.reduceBEq, Nat.reduceAdd, Nat.reduceLeDiff, Nat.reduceMul, Nat.reduceLT, Int.reduceEq, Int.reduceLT, Int.reduceLE, p1, p2, q1, q2, q3, q4, s1, s2, s3, s4, s5, s6]
    refine k_pick 24 hK3 (n6 _ _ _) (by omega) rfl fun z K4 _ _ _ hK4 => ?_
    by_cases c0 : z = 0
    · simp +contextual -dsimp -implicitDefEqProofs (maxSteps := 5000000) only [go_sem, reduceIte, reduceCtorEq, Nat.reduceEqDiff, Nat.reduceBEq, Nat.reduceAdd, Nat.reduceLeDiff, Nat.reduceMul, Nat.reduceLT, Int.reduceEq, Int.reduceLT, Int.reduceLE, c0, p1, p2, q1, q2, q3, q4, s1, s2, s3, s4, s5, s6]
      refine k_one [-1, 6, 0, 1] _ hK4 (n6 _ _ _) (by omega) (by simp) rfl rfl fun s K5 _ hK5 => ?_
      simp +contextual -dsimp -implicitDefEqProofs (maxSteps := 5000000) only [go_sem, reduceIte, reduceCtorEq, Nat.reduceEqDiff, Nat.reduceBEq, Nat.reduceAdd, Nat.reduceLeDiff, Nat.reduceMul, Nat.reduceLT, Int.reduceEq, Int.reduceLT, Int.reduceLE, c0, p1, p2, q1, q2, q3, q4, s1, s2, s3, s4, s5, s6, v0, vl, vn]
      rw [wrO_y (y := { l.getD v.toNat default with depth := s }) vn rfl]
      simp +contextual -dsimp -implicitDefEqProofs (maxSteps := 5000000) only [go_sem, reduceIte, reduceCtorEq, Nat.reduceEqDiff, Nat.reduceBEq, Nat.reduceAdd, Nat.reduceLeDiff, Nat.reduceMul, Nat.reduceLT, Int.reduceEq, Int.reduceLT, Int.reduceLE, c0, p1, p2, q1, q2, q3, q4, s1, s2, s3, s4, s5, s6, v0, vl, vn]
      refine fin (l.set v.toNat { l.getD v.toNat default with depth := s }) 0 l.length clx K5 _ (by simp) h24 (rdk_mono hK5 (by omega)) rfl rfl
    by_cases c1 : z = 1
    · simp +contextual -dsimp -implicitDefEqProofs (maxSteps := 5000000) only [go_sem, reduceIte, reduceCtorEq, Nat.reduceEqDiff, Nat.reduceBEq, Nat.reduceAdd, Nat.reduceLeDiff, Nat.reduceMul, Nat.reduceLT, Int.reduceEq, Int.reduceLT, Int.reduceLE, c0, c1, p1, p2, q1, q2, q3, q4, s1, s2, s3, s4, s5, s6]
      refine k_one [-1, 13, 5, 9, 0] _ hK4 (n6 _ _ _) (by omega) (by simp) rfl rfl fun s K5 _ hK5 => ?_
      simp +contextual -dsimp -implicitDefEqProofs (maxSteps := 5000000) only [go_sem, reduceIte, reduceCtorEq, Nat.reduceEqDiff, Nat.reduceBEq, Nat.reduceAdd, Nat.reduceLeDiff, Nat.reduceMul, Nat.reduceLT, Int.reduceEq, Int.reduceLT, Int.reduceLE, c0, c1, p1, p2, q1, q2, q3, q4, s1, s2, s3, s4, s5, s6, v0, vl, vn]
      rw [wrO_y (y := { l.getD v.toNat default with kind := s }) vn rfl]
      simp +contextual -dsimp -implicitDefEqProofs (maxSteps := 5000000) only [go_sem, reduceIte, reduceCtorEq, Nat.reduceEqDiff, Nat.reduceBEq, Nat.reduceAdd, Nat.reduceLeDiff, Nat.reduceMul, Nat.reduceLT, Int.reduceEq, Int.reduceLT, Int.reduceLE, c0, c1, p1, p2, q1, q2, q3, q4, s1, s2, s3, s4, s5, s6, v0, vl, vn]
      refine fin (l.set v.toNat { l.getD v.toNat default with kind := s }) 0 l.length clx K5 _ (by simp) h24 (rdk_mono hK5 (by omega)) rfl rfl
    by_cases c2 : z = 2
    · simp +contextual -dsimp -implicitDefEqProofs (maxSteps := 5000000) only [go_sem, reduceIte, reduceCtorEq, Nat.reduceEqDiff, Nat.reduceBEq, Nat.reduceAdd, Nat.reduceLeDiff, Nat.reduceMul, Nat.reduceLT, Int.reduceEq, Int.reduceLT, Int.reduceLE, c0, c1, c2, p1, p2, q1, q2, q3, q4, s1, s2, s3, s4, s5, s6]
      refine k_one [-1, 100, 8] _ hK4 (n6 _ _ _) (by omega) (by simp) rfl rfl fun s K5 _ hK5 => ?_
      simp +contextual -dsimp -implicitDefEqProofs (maxSteps := 5000000) only [go_sem, reduceIte, reduceCtorEq, Nat.reduceEqDiff, Nat.reduceBEq, Nat.reduceAdd, Nat.reduceLeDiff, Nat.reduceMul, Nat.reduceLT, Int.reduceEq, Int.reduceLT, Int.reduceLE, c0, c1, c2, p1, p2, q1, q2, q3, q4, s1, s2, s3, s4, s5, s6, v0, vl, vn]
      rw [wrO_y (y := { l.getD v.toNat default with a := s }) vn rfl]
      simp +contextual -dsimp -implicitDefEqProofs (maxSteps := 5000000) only [go_sem, reduceIte, reduceCtorEq, Nat.reduceEqDiff, Nat.reduceBEq, Nat.reduceAdd, Nat.reduceLeDiff, Nat.reduceMul, Nat.reduceLT, Int.reduceEq, Int.reduceLT, Int.reduceLE, c0, c1, c2, p1, p2, q1, q2, q3, q4, s1, s2, s3, s4, s5, s6, v0, vl, vn]
      refine fin (l.set v.toNat { l.getD v.toNat default with a := s }) 0 l.length clx K5 _ (by simp) h24 (rdk_mono hK5 (by omega)) rfl rfl
    by_cases c3 : z = 3
    · simp +contextual -dsimp -implicitDefEqProofs (maxSteps := 5000000) only [go_sem, reduceIte, reduceCtorEq, Nat.reduceEqDiff, Nat.reduceBEq, Nat.reduceAdd, Nat.reduceLeDiff, Nat.reduceMul, Nat.reduceLT, Int.reduceEq, Int.reduceLT, Int.reduceLE, c0, c1, c2, c3, p1, p2, q1, q2, q3, q4, s1, s2, s3, s4, s5, s6]
      refine ⟨Nat.le_refl _, ?_⟩
      have h1i : (1 : Int) ≤ l.length := by omega
      rw [delx _ _ _ hbx, htk]
      simp +contextual -dsimp -implicitDefEqProofs (maxSteps := 5000000) only [go_sem, reduceIte, reduceCtorEq, Nat.reduceEqDiff, Nat.reduceBEq, Nat.reduceAdd, Nat.reduceLeDiff, Nat.reduceMul, Nat.reduceLT, Int.reduceEq, Int.reduceLT, Int.reduceLE, h1i, c0, c1, c2, c3, p1, p2, q1, q2, q3, q4, s1, s2, s3, s4, s5, s6]
      refine finV (l.drop 1) clx K4 _ (by simp; omega) (rdk_mono hK4 (by omega)) rfl rfl
    · simp +contextual -dsimp -implicitDefEqProofs (maxSteps := 5000000) only [go_sem, reduceIte, reduceCtorEq, Nat.reduceEqDiff, Nat.reduceBEq, Nat.reduceAdd, Nat.reduceLeDiff, Nat.reduceMul, Nat.reduceLT, Int.reduceEq, Int.reduceLT, Int.reduceLE, c0, c1, c2, c3, p1, p2, q1, q2, q3, q4, s1, s2, s3, s4, s5, s6]
      refine ⟨Nat.le_refl _, ?_⟩
      rw [delx _ _ _ hbx]
      simp +contextual -dsimp -implicitDefEqProofs (maxSteps := 5000000) only [go_sem, reduceIte, reduceCtorEq, Nat.reduceEqDiff, Nat.reduceBEq, Nat.reduceAdd, Nat.reduceLeDiff, Nat.reduceMul, Nat.reduceLT, Int.reduceEq, Int.reduceLT, Int.reduceLE, htk, c0, c1, c2, c3, p1, p2, q1, q2, q3, q4, s1, s2, s3, s4, s5, s6]
      refine finV l clx K4 _ h24 (rdk_mono hK4 (by omega)) rfl rfl
theorem c_someProgram (F : AHeap) (br n : Nat) (K : ABlk) (h : RdK n K) (hF : F br = none) (hn : n < 400000000) : ACalls Tryz.prog 32 [.ptr br 2 0 0] (F.set br K) fun r H' =>
    ∃ t cl, ∃ l : List Line, ∃ cl' K', r = .tup [aTree t cl, .vsl (l.map rLine) cl'] ∧ H' = F.set br K' ∧ RdK (n + 1000000) K' ∧ t.length ≤ 8 ∧ shortNames t ∧ l.length ≤ 24 := by
  refine acalls_fz (c_someProgram0 F br n K h hF hn) ?_
  rintro _ _ ⟨t, cl, x, l, cl', G, K', rfl, hz, hle, rfl, hK, ht, hs, hl⟩
  exact ⟨_, F.set br K', le_ch hle, fz_tup (.cons (.same _) (.cons hz .nil)), t, cl, l, cl', K', rfl, rfl, hK, ht, hs, hl⟩
end
section
open Go Go.Sim
set_option maxRecDepth 100000
set_option maxHeartbeats 4000000
theorem c_DrawRunProgram (F : AHeap) (bs : List UInt8) (cb : Bool) : ACalls Tryz.prog 9 [.vsl (bs.map rU) cb] F fun r H' =>
    ∃ t cl, ∃ l : List Line, ∃ cl', r = .tup [aTree t cl, .vsl (l.map rLine) cl'] ∧ H' = F ∧ shortNames t ∧ t.length ≤ 8 ∧ l.length ≤ 24 := by
  refine acalls_of1 Tryz.func9 rfl (by kernel_rfl) rfl rfl (awp_sound (fz := fun _ => []) (im := fun _ => false) mixed _ _ _ _ (by kernel_rfl) ?_)
  simp +contextual -dsimp -implicitDefEqProofs (maxSteps := 5000000) only [go_sem, reduceIte, reduceCtorEq, Nat.reduceEqDiff, Nat.reduceBEq, Nat.reduceAdd, Nat.reduceLeDiff, Nat.reduceMul, Nat.reduceLT, Int.reduceEq, Int.reduceLT, Int.reduceLE]
  rintro b2 h2
  refine (c_newReader bs cb _).mono ?_
  rintro _ H' ⟨br, rfl, hR⟩
  obtain ⟨K1, hK1, rfl⟩ := rd_to hR
  have f4 : ∀ K2, (F.set b2 K2) br = none := by
    have q := hR; obtain ⟨_, _, _, _, _, q, _⟩ := q
    rw [set_none] at q
    intro K2; rw [set_none]; exact q
  have q1 := f4 ⟨1, 0, []⟩
  rw [set_none] at q1
  obtain ⟨u1, u2, hr⟩ := q1
  simp +contextual -dsimp -implicitDefEqProofs (maxSteps := 5000000) only [go_sem, reduceIte, reduceCtorEq, Nat.reduceEqDiff, Nat.reduceBEq, Nat.reduceAdd, Nat.reduceLeDiff, Nat.reduceMul, Nat.reduceLT, Int.reduceEq, Int.reduceLT, Int.reduceLE]
  refine (c_someProgram _ br 0 K1 hK1 (f4 _) (by omega)).mono ?_
  rintro _ _ ⟨t, cl, l, cl', K2, rfl, rfl, hK2, ht8, hs, hl⟩
  simp +contextual -dsimp -implicitDefEqProofs (maxSteps := 5000000) only [go_sem, reduceIte, reduceCtorEq, Nat.reduceEqDiff, Nat.reduceBEq, Nat.reduceAdd, Nat.reduceLeDiff, Nat.reduceMul, Nat.reduceLT, Int.reduceEq, Int.reduceLT, Int.reduceLE, u1, u2]
  refine retR_less (l := [aTree t cl, .vsl (l.map rLine) cl']) (H' := F) ?_ (le_s1 (le_s1 (AHeap.le_refl _) h2) hr) ⟨t, cl, l, cl', rfl, rfl, hs, ht8, hl⟩
  simp only [resA, go_sem, reduceIte, reduceCtorEq, Nat.reduceEqDiff, Nat.reduceBEq, Nat.reduceAdd, Nat.reduceLeDiff, Nat.reduceMul, Nat.reduceLT, Int.reduceEq, Int.reduceLT, Int.reduceLE, u1, u2]
end
section
open Go Go.Sim
set_option maxRecDepth 100000
set_option maxHeartbeats 4000000

/-- What a run of the reference has done so far, beside other blocks. -/
def StS (F H : AHeap) (bs : Nat) (t : List Class) (cl : Bool) (P : List Line) (clp : Bool) (s : RS) : Prop :=
  ∃ (xl : AV) (G : AHeap) (clf : Bool), F bs = none ∧ Grow rI 1 3 F G xl s.log ∧ G bs = none ∧ H = G.set bs ⟨4, 121, [[.vsl (t.map rClass) cl, aProg P clp, xl, .vsl (s.fs.map rFault) clf]]⟩
section
variable {F H : AHeap} {bs c : Nat} {t : List Class} {cl : Bool} {P : List Line} {clp : Bool} {s : RS} {K : ABlk}
theorem sts_in (hM : StS F H bs t cl P clp s) (hc : H c = none) : StS (F.set c K) (H.set c K) bs t cl P clp s := by
  obtain ⟨xl, G, clf, hF, hg, hb, rfl⟩ := hM
  rw [set_none] at hc
  exact ⟨xl, G.set c K, clf, by rw [set_other (Ne.symm hc.1)]; exact hF, grow_in hg hc.2.2, by rw [set_other (Ne.symm hc.1)]; exact hb, set_comm (Ne.symm hc.1)⟩
theorem sts_out (hM : StS (F.set c K) H bs t cl P clp s) (hc : F c = none) : ∃ H', H = H'.set c K ∧ StS F H' bs t cl P clp s ∧ H' c = none := by
  obtain ⟨xl, G, clf, hF, hg, hb, rfl⟩ := hM
  obtain ⟨G1, k1, rfl, k2⟩ := grow_out hg hc
  rw [set_none] at hF hb
  refine ⟨G1.set bs ⟨4, 121, [[.vsl (t.map rClass) cl, aProg P clp, xl, .vsl (s.fs.map rFault) clf]]⟩, set_comm hF.2.1, ⟨xl, G1, clf, hF.2.2, k1, hb.2.2, rfl⟩, ?_⟩
  rw [set_other hF.2.1]; exact k2
theorem sts_none (hM : StS F H bs t cl P clp s) (hc : H c = none) : F c = none := by
  obtain ⟨xl, G, clf, hF, hg, hb, rfl⟩ := hM
  rw [set_none] at hc
  exact grow_none hg hc.2.2
/-- The log grows. -/
theorem sts_app1 {a : Int} {xl : AV} {log : List Int} {G : AHeap} {M C : ABlk} {cla : Bool} {Kt : AV → AHeap → Prop} {g : Tag ((G.set bs M).set c C, Kt)} (hg1 : Grow rI 1 3 F G xl log) (hb : G bs = none) (hcb : ¬ c = bs) (hc : G c = none) (hl : log.length < 1000000)
    (k : ∀ x' G', Grow rI 1 3 F G' x' (log ++ [a]) → G' bs = none → G' c = none → x'.row = [x'] ∧ x'.one = true → Kt x' ((G'.set bs M).set c C)) :
    appT Tryz.prog ((G.set bs M).set c C) 29 xl (.vsl [[I a]] cla) Kt g := by
  refine grow_append (m := [a]) te29 ti3 rI_len (by decide) (grow_in (grow_in hg1 hb) (by rw [set_other hcb]; exact hc)) (by simp; omega) (by simp; omega) rfl fun x' H' hg' => ?_
  have hFc : F c = none := grow_none hg1 hc
  have hFb : F bs = none := grow_none hg1 hb
  obtain ⟨G', k1, rfl, k2⟩ := grow_out hg' (by rw [set_other hcb]; exact hFc)
  obtain ⟨G2, k3, rfl, k4⟩ := grow_out k1 hFb
  rw [set_other hcb] at k2
  exact k x' G2 k3 k4 k2 (one_grow k3)
end
theorem c_sraise {t : List Class} {cl : Bool} {P : List Line} {clp : Bool} {s : RS} {F H : AHeap} {bs : Nat} (c d g : Int) (hM : StS F H bs t cl P clp s) (hl : s.fs.length ≤ 999998) (ho : heapOk s.fs) (hg : g < s.fs.length) :
    ACalls Tryz.prog 154 [.ptr bs 4 0 0, I c, I d, I g] H fun r H' => r = .agg [I 2, I s.fs.length] ∧ StS F H' bs t cl P clp (s.raise c d g) := by
  obtain ⟨xl, G, clf, hF, hg1, hb, rfl⟩ := hM
  obtain ⟨r1, r2⟩ := one_grow hg1
  refine acalls_of1 Tryz.func154 rfl (by kernel_rfl) rfl rfl (awp_sound (fz := fun _ => []) (im := fun _ => false) mixed _ _ _ _ (by kernel_rfl) ?_)
  simp +contextual -dsimp -implicitDefEqProofs (maxSteps := 5000000) only [go_sem, reduceIte, reduceCtorEq, Nat.reduceEqDiff, Nat.reduceBEq, Nat.reduceAdd, Nat.reduceLeDiff, Nat.reduceMul, Nat.reduceLT, Int.reduceEq, Int.reduceLT, Int.reduceLE]
  rintro b8 ⟨n1, n2, n8⟩
  refine (c_added s.fs clf c d _ (by omega)).mono ?_
  rintro _ H9 ⟨⟨cl1, rfl⟩, hH9⟩
  subst hH9
  simp +contextual -dsimp -implicitDefEqProofs (maxSteps := 5000000) only [go_sem, reduceIte, reduceCtorEq, Nat.reduceEqDiff, Nat.reduceBEq, Nat.reduceAdd, Nat.reduceLeDiff, Nat.reduceMul, Nat.reduceLT, Int.reduceEq, Int.reduceLT, Int.reduceLE, n1, n2, r1, r2]
  have e1 : ((s.fs ++ [(⟨c, d, -1, -1, false⟩ : Fault)]).length : Int) - 1 = s.fs.length := by simp
  rw [e1, w64 (by omega) (by omega)]
  refine (c_raised _ cl1 s.fs.length g _ (by simp; omega) (heapOk_snoc ho rfl (by simp) (by simp; omega)) (by simp) hg).mono ?_
  rintro _ H9 ⟨⟨cl2, rfl⟩, hH9⟩
  subst hH9
  rw [setCtx_raise]
  simp +contextual -dsimp -implicitDefEqProofs (maxSteps := 5000000) only [go_sem, reduceIte, reduceCtorEq, Nat.reduceEqDiff, Nat.reduceBEq, Nat.reduceAdd, Nat.reduceLeDiff, Nat.reduceMul, Nat.reduceLT, Int.reduceEq, Int.reduceLT, Int.reduceLE, n1, n2, r1, r2, e1]
  refine retR_less (l := [.agg [I 2, I s.fs.length]]) (H' := G.set bs _) ?_ (le_set (by rw [set_other n1]; exact n8)) ⟨rfl, ⟨xl, G, cl2, hF, hg1, hb, rfl⟩⟩
  simp only [resA, go_sem, reduceIte, reduceCtorEq, Nat.reduceEqDiff, Nat.reduceBEq, Nat.reduceAdd, Nat.reduceLeDiff, Nat.reduceMul, Nat.reduceLT, Int.reduceEq, Int.reduceLT, Int.reduceLE, n1, n2]
/-- Shorter lists of lines can be run. -/
def SBlkOk (t : List Class) (cl : Bool) (P : List Line) (clp : Bool) (n : Nat) : Prop :=
  ∀ (f : Fo) (i : Nat) (d h : Int) (s : RS) (F H : AHeap) (bs : Nat) (lp : Bool), f.size < n → At P i d f → numsF t f d = true → okF f lp false = true → FsOk t s.fs → h < s.fs.length → s.log.length + cost f ≤ 900000 → s.fs.length + cost f ≤ 900000 → StS F H bs t cl P clp s →
    ACalls Tryz.prog 82 [.ptr bs 4 0 0, I i, I (i + f.size : Nat), I h] H fun r H' => r = .agg (rEn (runF t f i none h s).1) ∧ StS F H' bs t cl P clp (runF t f i none h s).2
theorem c_sbody {t : List Class} {cl : Bool} {P : List Line} {clp : Bool} {n : Nat} (ih : SBlkOk t cl P clp n) {i : Nat} {d k a b h : Int} {kids rest : Fo} {s : RS} {F H : AHeap} {bs : Nat} {lp : Bool}
    (hn : kids.size < n) (hat : At P i d (.node k a b kids rest)) (hk : numsF t kids (d + 1) = true) (hok : okF kids lp false = true) (hs : FsOk t s.fs) (hh : h < s.fs.length) (hl : s.log.length + cost kids ≤ 900000) (hf : s.fs.length + cost kids ≤ 900000) (hM : StS F H bs t cl P clp s) (hp : P.length ≤ 4398046511104) :
    ACalls Tryz.prog 165 [.ptr bs 4 0 0, I i, I h] H fun r H' => r = .agg (rEn (runF t kids (i + 1) none h s).1) ∧ StS F H' bs t cl P clp (runF t kids (i + 1) none h s).2 := by
  have hi := hat.head.1
  have hw : IntKind.i64.wrap ((i : Int) + 1) = ((i + 1 : Nat) : Int) := by rw [w64 (by omega) (by omega)]; rfl
  obtain ⟨xl, G, clf, hF, hg1, hb, rfl⟩ := id hM
  refine acalls_of1 Tryz.func165 rfl (by kernel_rfl) rfl rfl (awp_sound (fz := fun _ => []) (im := fun _ => false) mixed _ _ _ _ (by kernel_rfl) ?_)
  simp +contextual -dsimp -implicitDefEqProofs (maxSteps := 5000000) only [go_sem, reduceIte, reduceCtorEq, Nat.reduceEqDiff, Nat.reduceBEq, Nat.reduceAdd, Nat.reduceLeDiff, Nat.reduceMul, Nat.reduceLT, Int.reduceEq, Int.reduceLT, Int.reduceLE, hw]
  rintro b6 ⟨n1, n2, hn2⟩
  have hb6 : ∀ K, (G.set bs K) b6 = none := fun K => by rw [set_other n1]; exact hn2
  refine (c_blockEnd P clp i _ hi).det ?_
  rw [hat.endP]
  simp +contextual -dsimp -implicitDefEqProofs (maxSteps := 5000000) only [go_sem, reduceIte, reduceCtorEq, Nat.reduceEqDiff, Nat.reduceBEq, Nat.reduceAdd, Nat.reduceLeDiff, Nat.reduceMul, Nat.reduceLT, Int.reduceEq, Int.reduceLT, Int.reduceLE, hw, n1, n2]
  refine (ih kids (i + 1) (d + 1) h s _ _ bs lp hn hat.kids hk hok hs hh hl hf (sts_in (K := ⟨2, 123, [[I 0, I 0]]⟩) hM (hb6 _))).mono ?_
  rintro _ H3 ⟨rfl, hM3⟩
  obtain ⟨H4, rfl, hM4, hn4⟩ := sts_out hM3 (sts_none hM (hb6 _))
  simp +contextual -dsimp -implicitDefEqProofs (maxSteps := 5000000) only [go_sem, reduceIte, reduceCtorEq, Nat.reduceEqDiff, Nat.reduceBEq, Nat.reduceAdd, Nat.reduceLeDiff, Nat.reduceMul, Nat.reduceLT, Int.reduceEq, Int.reduceLT, Int.reduceLE, rEn]
  refine retR_less (l := [.agg (rEn (runF t kids (i + 1) none h s).1)]) (H' := H4) ?_ (le_set hn4) ⟨rfl, hM4⟩
  simp only [resA, go_sem, reduceIte, reduceCtorEq, Nat.reduceEqDiff, Nat.reduceBEq, Nat.reduceAdd, Nat.reduceLeDiff, Nat.reduceMul, Nat.reduceLT, Int.reduceEq, Int.reduceLT, Int.reduceLE, rEn]
theorem c_swith {t : List Class} {cl : Bool} {P : List Line} {clp : Bool} {n : Nat} (ht : validT t = true) (ih : SBlkOk t cl P clp n) {i : Nat} {d a b h : Int} {kids rest : Fo} {s : RS} {F H : AHeap} {bs : Nat} {lp : Bool}
    (hn : kids.size < n) (hat : At P i d (.node 11 a b kids rest)) (hno : numOk t 11 a b = true) (hk : numsF t kids (d + 1) = true) (hok : okF kids lp false = true) (hs : FsOk t s.fs) (hh : h < s.fs.length) (hl : s.log.length + (2 + cost kids) ≤ 900000) (hf : s.fs.length + (2 + cost kids) ≤ 900000) (hM : StS F H bs t cl P clp s) (hp : P.length ≤ 4398046511104) :
    ACalls Tryz.prog 157 [.ptr bs 4 0 0, I i, I h] H fun r H' => r = .agg (rEn (withS a b (runF t kids (i + 1) none h (s.tell (100 + a)))).1) ∧ StS F H' bs t cl P clp (withS a b (runF t kids (i + 1) none h (s.tell (100 + a)))).2 := by
  have hi := hat.head.1
  have hx := hat.head.2
  have ha := hno
  unfold numOk at ha
  rw [if_neg (by omega), if_neg (by omega), if_neg (by omega), if_pos rfl, Bool.and_eq_true] at ha
  simp only [inR, Bool.and_eq_true, decide_eq_true_eq] at ha
  have hw1 : IntKind.i64.wrap (100 + a) = 100 + a := w64 (by omega) (by omega)
  have hw2 : IntKind.i64.wrap (200 + a) = 200 + a := w64 (by omega) (by omega)
  obtain ⟨xl, G, clf, hF, hg1, hb, rfl⟩ := id hM
  refine acalls_of1 Tryz.func157 rfl (by kernel_rfl) rfl rfl (awp_sound (fz := fun r => if r = 1 then [7] else if r = 3 then [8] else []) (im := fun _ => false) mixed _ _ _ _ (by kernel_rfl) ?_)
  simp +contextual -dsimp -implicitDefEqProofs (maxSteps := 5000000) only [go_sem, reduceIte, reduceCtorEq, Nat.reduceEqDiff, Nat.reduceBEq, Nat.reduceAdd, Nat.reduceLeDiff, Nat.reduceMul, Nat.reduceLT, Int.reduceEq, Int.reduceLT, Int.reduceLE]
  rintro b6 ⟨n1, n2, hn2⟩
  have hF6 : F b6 = none := grow_none hg1 hn2
  simp +contextual -dsimp -implicitDefEqProofs (maxSteps := 5000000) only [go_sem, reduceIte, reduceCtorEq, Nat.reduceEqDiff, Nat.reduceBEq, Nat.reduceAdd, Nat.reduceLeDiff, Nat.reduceMul, Nat.reduceLT, Int.reduceEq, Int.reduceLT, Int.reduceLE, hi, hx, n1, n2]
  rintro b7 hb7
  refine draw_intro [0, 0, 0, 0, 0, 0, 0, 0, 0, 2, 0, 0, 2] AHeap.none (by kernel_rfl) none_le ?_
  simp +contextual -dsimp -implicitDefEqProofs (maxSteps := 5000000) only [go_sem, reduceIte, reduceCtorEq, Nat.reduceEqDiff, Nat.reduceBEq, Nat.reduceAdd, Nat.reduceLeDiff, Nat.reduceMul, Nat.reduceLT, Int.reduceEq, Int.reduceLT, Int.reduceLE, hi, hx, n1, n2, hw1]
  refine sts_app1 hg1 hb n1 hn2 (by omega) fun x2 G2 y1 y3 y4 y5 => ?_
  obtain ⟨r1, r2⟩ := y5
  simp +contextual -dsimp -implicitDefEqProofs (maxSteps := 5000000) only [go_sem, reduceIte, reduceCtorEq, Nat.reduceEqDiff, Nat.reduceBEq, Nat.reduceAdd, Nat.reduceLeDiff, Nat.reduceMul, Nat.reduceLT, Int.reduceEq, Int.reduceLT, Int.reduceLE, n1, n2, r1, r2]
  have hMt : StS F (G2.set bs ⟨4, 121, [[.vsl (t.map rClass) cl, aProg P clp, x2, .vsl (s.fs.map rFault) clf]]⟩) bs t cl P clp (s.tell (100 + a)) := ⟨x2, G2, clf, hF, y1, y3, rfl⟩
  have hGb6 : (G2.set bs ⟨4, 121, [[.vsl (t.map rClass) cl, aProg P clp, x2, .vsl (s.fs.map rFault) clf]]⟩) b6 = none := by rw [set_other n1]; exact y4
  have tl : (s.tell (100 + a)).log.length = s.log.length + 1 := by simp [RS.tell]
  have hgo := goes_run ht kids (i + 1) none (d + 1) h (s.tell (100 + a)) hk hs hh trivial
  have hgl := hgo.len
  refine (c_sbody ih hn hat hk hok (s := s.tell (100 + a)) hs hh (by rw [tl]; omega) (by show s.fs.length + _ ≤ _; omega) (sts_in (K := ⟨2, 123, [[I 0, I 0]]⟩) hMt hGb6) hp).mono ?_
  rintro _ H3 ⟨rfl, hM3⟩
  generalize runF t kids (i + 1) none h (s.tell (100 + a)) = r at hM3 hgo hgl ⊢
  obtain ⟨H4, rfl, hM4, hn4⟩ := sts_out hM3 hF6
  obtain ⟨xl', G3, clf', hF', hg1', hb', rfl⟩ := id hM4
  have hn5 := hn4
  rw [set_none] at hn5
  have hn6 := hn5.2.2
  simp +contextual -dsimp -implicitDefEqProofs (maxSteps := 5000000) only [go_sem, reduceIte, reduceCtorEq, Nat.reduceEqDiff, Nat.reduceBEq, Nat.reduceAdd, Nat.reduceLeDiff, Nat.reduceMul, Nat.reduceLT, Int.reduceEq, Int.reduceLT, Int.reduceLE, rEn, n1, n2, hi, hx]
  rintro b8 hb8
  refine draw_intro [0, 0, 0, 0, 0, 0, 0, 0, 0, 2, 0, 0, 2] AHeap.none (by kernel_rfl) none_le ?_
  simp +contextual -dsimp -implicitDefEqProofs (maxSteps := 5000000) only [go_sem, reduceIte, reduceCtorEq, Nat.reduceEqDiff, Nat.reduceBEq, Nat.reduceAdd, Nat.reduceLeDiff, Nat.reduceMul, Nat.reduceLT, Int.reduceEq, Int.reduceLT, Int.reduceLE, rEn, n1, n2, hi, hx, hw2]
  refine sts_app1 hg1' hb' n1 hn6 (by omega) fun x3 G4 z1 z3 z4 z5 => ?_
  obtain ⟨q1, q2⟩ := z5
  simp +contextual -dsimp -implicitDefEqProofs (maxSteps := 5000000) only [go_sem, reduceIte, reduceCtorEq, Nat.reduceEqDiff, Nat.reduceBEq, Nat.reduceAdd, Nat.reduceLeDiff, Nat.reduceMul, Nat.reduceLT, Int.reduceEq, Int.reduceLT, Int.reduceLE, n1, n2, q1, q2]
  have hMf : StS F (G4.set bs ⟨4, 121, [[.vsl (t.map rClass) cl, aProg P clp, x3, .vsl (r.2.fs.map rFault) clf']]⟩) bs t cl P clp (r.2.tell (200 + a)) := ⟨x3, G4, clf', hF', z1, z3, rfl⟩
  have hGf : (G4.set bs ⟨4, 121, [[.vsl (t.map rClass) cl, aProg P clp, x3, .vsl (r.2.fs.map rFault) clf']]⟩) b6 = none := by rw [set_other n1]; exact z4
  unfold withS
  by_cases hc : r.1.ed = 2 ∧ b = 1
  · rw [if_pos hc]
    simp +contextual -dsimp -implicitDefEqProofs (maxSteps := 5000000) only [go_sem, reduceIte, reduceCtorEq, Nat.reduceEqDiff, Nat.reduceBEq, Nat.reduceAdd, Nat.reduceLeDiff, Nat.reduceMul, Nat.reduceLT, Int.reduceEq, Int.reduceLT, Int.reduceLE, n1, n2, q1, q2, hc.1, hc.2]
    refine retR_less (l := [.agg (rEn .next)]) (H' := G4.set bs _) ?_ (le_set hGf) ⟨rfl, hMf⟩
    simp only [resA, go_sem, reduceIte, reduceCtorEq, Nat.reduceEqDiff, Nat.reduceBEq, Nat.reduceAdd, Nat.reduceLeDiff, Nat.reduceMul, Nat.reduceLT, Int.reduceEq, Int.reduceLT, Int.reduceLE, rEn, En.next]
  · rw [if_neg hc]
    by_cases hc1 : r.1.ed = 2
    · have hc2 : ¬ b = 1 := fun q => hc ⟨hc1, q⟩
      simp +contextual -dsimp -implicitDefEqProofs (maxSteps := 5000000) only [go_sem, reduceIte, reduceCtorEq, Nat.reduceEqDiff, Nat.reduceBEq, Nat.reduceAdd, Nat.reduceLeDiff, Nat.reduceMul, Nat.reduceLT, Int.reduceEq, Int.reduceLT, Int.reduceLE, n1, n2, q1, q2, hc1, hc2]
      refine retR_less (l := [.agg (rEn r.1)]) (H' := G4.set bs _) ?_ (le_set hGf) ⟨rfl, hMf⟩
      simp only [resA, go_sem, reduceIte, reduceCtorEq, Nat.reduceEqDiff, Nat.reduceBEq, Nat.reduceAdd, Nat.reduceLeDiff, Nat.reduceMul, Nat.reduceLT, Int.reduceEq, Int.reduceLT, Int.reduceLE, rEn, hc1]
    · simp +contextual -dsimp -implicitDefEqProofs (maxSteps := 5000000) only [go_sem, reduceIte, reduceCtorEq, Nat.reduceEqDiff, Nat.reduceBEq, Nat.reduceAdd, Nat.reduceLeDiff, Nat.reduceMul, Nat.reduceLT, Int.reduceEq, Int.reduceLT, Int.reduceLE, n1, n2, q1, q2, hc1]
      refine retR_less (l := [.agg (rEn r.1)]) (H' := G4.set bs _) ?_ (le_set hGf) ⟨rfl, hMf⟩
      simp only [resA, go_sem, reduceIte, reduceCtorEq, Nat.reduceEqDiff, Nat.reduceBEq, Nat.reduceAdd, Nat.reduceLeDiff, Nat.reduceMul, Nat.reduceLT, Int.reduceEq, Int.reduceLT, Int.reduceLE, rEn]
theorem c_sloop {t : List Class} {cl : Bool} {P : List Line} {clp : Bool} {n : Nat} (ht : validT t = true) (ih : SBlkOk t cl P clp n) {i : Nat} {d a b h : Int} {kids rest : Fo} {s : RS} {F H : AHeap} {bs : Nat} {lp : Bool}
    (hn : kids.size < n) (hat : At P i d (.node 12 a b kids rest)) (hno : numOk t 12 a b = true) (hk : numsF t kids (d + 1) = true) (hok : okF kids lp false = true) (hs : FsOk t s.fs) (hh : h < s.fs.length) (hl : s.log.length + (2 + a.toNat * cost kids) ≤ 900000) (hf : s.fs.length + (2 + a.toNat * cost kids) ≤ 900000) (hM : StS F H bs t cl P clp s) (hp : P.length ≤ 4398046511104) :
    ACalls Tryz.prog 158 [.ptr bs 4 0 0, I i, I h] H fun r H' => r = .agg (rEn (loopS (fun s => runF t kids (i + 1) none h s) a.toNat s).1) ∧ StS F H' bs t cl P clp (loopS (fun s => runF t kids (i + 1) none h s) a.toNat s).2 := by
  have hi := hat.head.1
  have hx := hat.head.2
  have ha := hno
  unfold numOk at ha
  rw [if_neg (by omega), if_neg (by omega), if_neg (by omega), if_neg (by omega), if_pos rfl, Bool.and_eq_true] at ha
  simp only [inR, Bool.and_eq_true, decide_eq_true_eq] at ha
  obtain ⟨xl, G, clf, hF, hg1, hb, rfl⟩ := id hM
  refine acalls_of1 Tryz.func158 rfl (by kernel_rfl) rfl rfl (awp_sound (fz := fun r => if r = 4 then [8] else []) (im := fun _ => false) mixed _ _ _ _ (by kernel_rfl) ?_)
  simp +contextual -dsimp -implicitDefEqProofs (maxSteps := 5000000) only [go_sem, reduceIte, reduceCtorEq, Nat.reduceEqDiff, Nat.reduceBEq, Nat.reduceAdd, Nat.reduceLeDiff, Nat.reduceMul, Nat.reduceLT, Int.reduceEq, Int.reduceLT, Int.reduceLE]
  rintro b6 ⟨n1, n2, hn2⟩
  have hF6 : F b6 = none := grow_none hg1 hn2
  simp +contextual -dsimp -implicitDefEqProofs (maxSteps := 5000000) only [go_sem, reduceIte, reduceCtorEq, Nat.reduceEqDiff, Nat.reduceBEq, Nat.reduceAdd, Nat.reduceLeDiff, Nat.reduceMul, Nat.reduceLT, Int.reduceEq, Int.reduceLT, Int.reduceLE, hi, hx, n1, n2]
  refine aloop mixed (fz := fun r => if r = 4 then [8] else []) (im := fun _ => false) (by kernel_rfl) (fun m tm H' => ∃ (s' : RS) (H'' : AHeap), m ≤ a.toNat ∧ H' = H''.set b6 ⟨2, 123, [[I 0, I 0]]⟩ ∧ H'' b6 = none ∧ StS F H'' bs t cl P clp s' ∧ FsOk t s'.fs ∧ s.fs.length ≤ s'.fs.length ∧ s'.fs.length ≤ s.fs.length + (a.toNat - m) * cost kids ∧ s'.log.length ≤ s.log.length + (a.toNat - m) * cost kids ∧ loopS (fun s => runF t kids (i + 1) none h s) a.toNat s = loopS (fun s => runF t kids (i + 1) none h s) m s' ∧ tm 0 = .ptr bs 4 0 0 ∧ tm 1 = I i ∧ tm 2 = I h ∧ tm 6 = .ptr b6 2 0 0 ∧ tm 7 = I m) a.toNat ⟨s, G.set bs _, Nat.le_refl _, rfl, by rw [set_other n1]; exact hn2, hM, hs, Nat.le_refl _, by omega, by omega, rfl, ?_⟩ ?_
  · simp +contextual -dsimp -implicitDefEqProofs (maxSteps := 5000000) only [go_sem, reduceIte, reduceCtorEq, Nat.reduceEqDiff, Nat.reduceBEq, Nat.reduceAdd, Nat.reduceLeDiff, Nat.reduceMul, Nat.reduceLT, Int.reduceEq, Int.reduceLT, Int.reduceLE, n1, n2]
    have e : a = ((a.toNat : Nat) : Int) := by omega
    rw [hx]
    exact congrArg I e
  · rintro m tm _ ⟨s', H'', hm, rfl, hb6, hM', hs', g1, g2, g3, he, t0, t1, t2, t6, t7⟩
    cases m with
    | zero =>
      have z : ¬ (0 : Int) < ((0 : Nat) : Int) := by omega
      simp +contextual -dsimp -implicitDefEqProofs (maxSteps := 5000000) only [go_sem, reduceIte, reduceCtorEq, Nat.reduceEqDiff, Nat.reduceBEq, Nat.reduceAdd, Nat.reduceLeDiff, Nat.reduceMul, Nat.reduceLT, Int.reduceEq, Int.reduceLT, Int.reduceLE, n1, n2, t0, t1, t2, t6, t7, z]
      rw [he]
      refine retR_less (l := [.agg (rEn .next)]) (H' := H'') ?_ (le_set hb6) ⟨rfl, hM'⟩
      simp only [resA, go_sem, reduceIte, reduceCtorEq, Nat.reduceEqDiff, Nat.reduceBEq, Nat.reduceAdd, Nat.reduceLeDiff, Nat.reduceMul, Nat.reduceLT, Int.reduceEq, Int.reduceLT, Int.reduceLE, rEn, En.next, t6]
    | succ m =>
      have z : (0 : Int) < ((m + 1 : Nat) : Int) := by omega
      have w1 : (a.toNat - (m + 1)) * cost kids + cost kids ≤ a.toNat * cost kids := by
        rw [← Nat.succ_mul]; exact Nat.mul_le_mul_right _ (by omega)
      have w2 : (a.toNat - m) * cost kids = (a.toNat - (m + 1)) * cost kids + cost kids := by
        rw [← Nat.succ_mul]; congr 1; omega
      simp +contextual -dsimp -implicitDefEqProofs (maxSteps := 5000000) only [go_sem, reduceIte, reduceCtorEq, Nat.reduceEqDiff, Nat.reduceBEq, Nat.reduceAdd, Nat.reduceLeDiff, Nat.reduceMul, Nat.reduceLT, Int.reduceEq, Int.reduceLT, Int.reduceLE, n1, n2, t0, t1, t2, t6, t7, z]
      have hgo := goes_run ht kids (i + 1) none (d + 1) h s' hk hs' (by omega) trivial
      have hgl := hgo.len
      refine (c_sbody ih hn hat hk hok (s := s') hs' (by omega) (by omega) (by omega) (sts_in (K := ⟨2, 123, [[I 0, I 0]]⟩) hM' hb6) hp).mono ?_
      rintro _ H3 ⟨rfl, hM3⟩
      simp only [loopS] at he
      generalize runF t kids (i + 1) none h s' = r at hM3 hgo hgl he ⊢
      obtain ⟨H4, rfl, hM4, hn4⟩ := sts_out hM3 hF6
      by_cases c3 : r.1.ed = 3
      · rw [if_neg (by omega), if_pos c3] at he
        simp +contextual -dsimp -implicitDefEqProofs (maxSteps := 5000000) only [go_sem, reduceIte, reduceCtorEq, Nat.reduceEqDiff, Nat.reduceBEq, Nat.reduceAdd, Nat.reduceLeDiff, Nat.reduceMul, Nat.reduceLT, Int.reduceEq, Int.reduceLT, Int.reduceLE, rEn, n1, n2, t0, t1, t2, t6, t7, c3]
        rintro b9 hb9
        rw [he]
        refine retR_less (l := [.agg (rEn .next)]) (H' := H4) ?_ (le_set hn4) ⟨rfl, hM4⟩
        simp only [resA, go_sem, reduceIte, reduceCtorEq, Nat.reduceEqDiff, Nat.reduceBEq, Nat.reduceAdd, Nat.reduceLeDiff, Nat.reduceMul, Nat.reduceLT, Int.reduceEq, Int.reduceLT, Int.reduceLE, rEn, En.next, t6]
      by_cases c1 : r.1.ed = 1
      · rw [if_pos (.inl c1)] at he
        simp +contextual -dsimp -implicitDefEqProofs (maxSteps := 5000000) only [go_sem, reduceIte, reduceCtorEq, Nat.reduceEqDiff, Nat.reduceBEq, Nat.reduceAdd, Nat.reduceLeDiff, Nat.reduceMul, Nat.reduceLT, Int.reduceEq, Int.reduceLT, Int.reduceLE, rEn, n1, n2, t0, t1, t2, t6, t7, c1]
        rintro b9 hb9
        rw [he]
        refine retR_less (l := [.agg (rEn r.1)]) (H' := H4) ?_ (le_set hn4) ⟨rfl, hM4⟩
        simp only [resA, go_sem, reduceIte, reduceCtorEq, Nat.reduceEqDiff, Nat.reduceBEq, Nat.reduceAdd, Nat.reduceLeDiff, Nat.reduceMul, Nat.reduceLT, Int.reduceEq, Int.reduceLT, Int.reduceLE, rEn, c1, t6]
      by_cases c2 : r.1.ed = 2
      · rw [if_pos (.inr c2)] at he
        simp +contextual -dsimp -implicitDefEqProofs (maxSteps := 5000000) only [go_sem, reduceIte, reduceCtorEq, Nat.reduceEqDiff, Nat.reduceBEq, Nat.reduceAdd, Nat.reduceLeDiff, Nat.reduceMul, Nat.reduceLT, Int.reduceEq, Int.reduceLT, Int.reduceLE, rEn, n1, n2, t0, t1, t2, t6, t7, c2]
        rintro b9 hb9
        rw [he]
        refine retR_less (l := [.agg (rEn r.1)]) (H' := H4) ?_ (le_set hn4) ⟨rfl, hM4⟩
        simp only [resA, go_sem, reduceIte, reduceCtorEq, Nat.reduceEqDiff, Nat.reduceBEq, Nat.reduceAdd, Nat.reduceLeDiff, Nat.reduceMul, Nat.reduceLT, Int.reduceEq, Int.reduceLT, Int.reduceLE, rEn, c2, t6]
      rw [if_neg (fun q => q.elim c1 c2), if_neg c3] at he
      simp +contextual -dsimp -implicitDefEqProofs (maxSteps := 5000000) only [go_sem, reduceIte, reduceCtorEq, Nat.reduceEqDiff, Nat.reduceBEq, Nat.reduceAdd, Nat.reduceLeDiff, Nat.reduceMul, Nat.reduceLT, Int.reduceEq, Int.reduceLT, Int.reduceLE, rEn, n1, n2, t0, t1, t2, t6, t7, c1, c2, c3]
      rintro b9 hb9
      exact ⟨m, by omega, r.2, H4, by omega, rfl, hn4, hM4, hgo.ok, by omega, by omega, by omega, he, I_wrap (by omega) (by omega) (by omega)⟩
end
section
open Go Go.Sim
set_option maxRecDepth 100000
set_option maxHeartbeats 4000000

/-- A line that goes on with a try, with what its block is worth. -/
structure ChainAt (t : List Class) (p : List Line) (d : Int) (lp : Bool) (f : Fo) (q : Nat) (k : Int) (ks : Fo) : Prop where
  at_ : ∃ a b re, At p q d (.node k a b ks re)
  small : ks.size < f.size
  nums : numsF t ks (d + 1) = true
  ok : okF ks lp false = true
  cost : cost ks ≤ Go.Proofs.YtckipeopgimenaaGreat.cost f
theorem chainAt_up {t : List Class} {p : List Line} {d : Int} {lp : Bool} {k' a b : Int} {kids rest : Fo} {q : Nat} {k : Int} {ks : Fo} (hk : k' ≠ 12) (h : ChainAt t p d lp rest q k ks) : ChainAt t p d lp (.node k' a b kids rest) q k ks :=
  ⟨h.at_, by have := h.small; simp only [Fo.size]; omega, h.nums, h.ok, by have := h.cost; rw [cost_node_le hk]; omega⟩
theorem chainAt_here {t : List Class} {p : List Line} {d : Int} {lp : Bool} {k a b : Int} {kids rest : Fo} {i : Nat} (hk : followsK k = true) (hat : At p i d (.node k a b kids rest)) (hn : numsF t (.node k a b kids rest) d = true) (hok : okF (.node k a b kids rest) lp true = true) :
    ChainAt t p d lp (.node k a b kids rest) i k kids := by
  obtain ⟨n1, n2, n3, n4, n5⟩ := numsF_node hn
  have hk' := hk
  simp only [followsK, inR, Bool.and_eq_true, decide_eq_true_eq] at hk'
  simp only [okF, hk, if_true, Bool.true_and, Bool.and_eq_true] at hok
  exact ⟨⟨a, b, rest, hat⟩, by simp only [Fo.size]; omega, n4, hok.1, by rw [cost_node_le (by omega)]; omega⟩
theorem okF_rest {k a b : Int} {kids rest : Fo} {lp : Bool} (hk : followsK k = true) (hok : okF (.node k a b kids rest) lp true = true) : okF rest lp true = true := by
  simp only [okF, hk, if_true, Bool.true_and, Bool.and_eq_true] at hok
  exact hok.2
theorem elseF_at {t : List Class} {p : List Line} {d : Int} {lp : Bool} : ∀ (f : Fo) (i q : Nat) (ks : Fo), At p i d f → numsF t f d = true → okF f lp true = true → elseF f i = some (q, ks) → ChainAt t p d lp f q 9 ks ∧ ∀ q' ks', lastB f i = some (q', 10, ks') → cost ks + cost ks' ≤ cost f
  | .nil, i, q, ks, _, _, _, h => by cases h
  | .node k a b kids rest, i, q, ks, hat, hn, hok, h => by
    simp only [elseF] at h
    split at h
    · rename_i hk
      have hk' := hk
      simp only [followsK, inR, Bool.and_eq_true, decide_eq_true_eq] at hk'
      obtain ⟨n1, n2, n3, n4, n5⟩ := numsF_node hn
      have hc := cost_node_le (k := k) (a := a) (b := b) (kids := kids) (rest := rest) (by omega)
      split at h
      · rename_i k9
        subst k9
        simp only [Option.some.injEq, Prod.mk.injEq] at h
        obtain ⟨rfl, rfl⟩ := h
        refine ⟨chainAt_here hk hat hn hok, fun q' ks' hl => ?_⟩
        simp only [lastB, hk, if_true] at hl
        cases hr : lastB rest (i + 1 + kids.size) with
        | none => rw [hr] at hl; simp at hl
        | some x =>
          rw [hr] at hl
          simp only [Option.some.injEq] at hl
          have := lastB_cost rest _ hr
          rw [hl] at this
          simp only at this
          omega
      · obtain ⟨h1, h2⟩ := elseF_at rest _ q ks hat.rest n5 (okF_rest hk hok) h
        refine ⟨chainAt_up (by omega) h1, fun q' ks' hl => ?_⟩
        have hcc := h1.cost
        simp only [lastB, hk, if_true] at hl
        cases hr : lastB rest (i + 1 + kids.size) with
        | none =>
          rw [hr] at hl
          simp only [Option.some.injEq, Prod.mk.injEq] at hl
          obtain ⟨_, _, rfl⟩ := hl
          omega
        | some x =>
          rw [hr] at hl
          have := h2 q' ks' (by rw [hr]; exact hl)
          omega
    · cases h
where
  lastB_cost {x : Nat × Int × Fo} : ∀ (f : Fo) (i : Nat), lastB f i = some x → Go.Proofs.YtckipeopgimenaaGreat.cost x.2.2 ≤ Go.Proofs.YtckipeopgimenaaGreat.cost f
    | .nil, i, h => by cases h
    | .node k a b kids rest, i, h => by
      simp only [lastB] at h
      split at h
      · rename_i hk
        have hk' := hk
        simp only [followsK, inR, Bool.and_eq_true, decide_eq_true_eq] at hk'
        have hc := cost_node_le (k := k) (a := a) (b := b) (kids := kids) (rest := rest) (by omega)
        cases hr : lastB rest (i + 1 + kids.size) with
        | none =>
          rw [hr] at h
          simp only [Option.some.injEq] at h
          subst h
          show cost kids ≤ _
          omega
        | some y =>
          rw [hr] at h
          simp only [Option.some.injEq] at h
          subst h
          have := lastB_cost rest _ hr
          omega
      · cases h
theorem catchF_at {t : List Class} {p : List Line} {d : Int} {lp : Bool} {c : Int} : ∀ (f : Fo) (i q : Nat) (ks : Fo), At p i d f → numsF t f d = true → okF f lp true = true → catchF t c f i = some (q, ks) → ChainAt t p d lp f q 8 ks ∧ ∀ q' ks', lastB f i = some (q', 10, ks') → cost ks + cost ks' ≤ cost f
  | .nil, i, q, ks, _, _, _, h => by cases h
  | .node k a b kids rest, i, q, ks, hat, hn, hok, h => by
    simp only [catchF] at h
    split at h
    · rename_i hk
      have hk' := hk
      simp only [followsK, inR, Bool.and_eq_true, decide_eq_true_eq] at hk'
      obtain ⟨n1, n2, n3, n4, n5⟩ := numsF_node hn
      have hc := cost_node_le (k := k) (a := a) (b := b) (kids := kids) (rest := rest) (by omega)
      split at h
      · rename_i k8
        obtain ⟨k8, _⟩ := k8
        subst k8
        simp only [Option.some.injEq, Prod.mk.injEq] at h
        obtain ⟨rfl, rfl⟩ := h
        refine ⟨chainAt_here hk hat hn hok, fun q' ks' hl => ?_⟩
        simp only [lastB, hk, if_true] at hl
        cases hr : lastB rest (i + 1 + kids.size) with
        | none => rw [hr] at hl; simp at hl
        | some x =>
          rw [hr] at hl
          simp only [Option.some.injEq] at hl
          have := elseF_at.lastB_cost rest _ hr
          rw [hl] at this
          simp only at this
          omega
      · obtain ⟨h1, h2⟩ := catchF_at rest _ q ks hat.rest n5 (okF_rest hk hok) h
        refine ⟨chainAt_up (by omega) h1, fun q' ks' hl => ?_⟩
        have hcc := h1.cost
        simp only [lastB, hk, if_true] at hl
        cases hr : lastB rest (i + 1 + kids.size) with
        | none =>
          rw [hr] at hl
          simp only [Option.some.injEq, Prod.mk.injEq] at hl
          obtain ⟨_, _, rfl⟩ := hl
          omega
        | some x =>
          rw [hr] at hl
          have := h2 q' ks' (by rw [hr]; exact hl)
          omega
    · cases h
theorem lastB_in {t : List Class} {p : List Line} {d : Int} {lp : Bool} : ∀ (f : Fo) (i q : Nat) (k : Int) (ks : Fo), At p i d f → numsF t f d = true → okF f lp true = true → lastB f i = some (q, k, ks) → ChainAt t p d lp f q k ks ∧ followsK k = true
  | .nil, i, q, k, ks, _, _, _, h => by cases h
  | .node k' a b kids rest, i, q, k, ks, hat, hn, hok, h => by
    simp only [lastB] at h
    split at h
    · rename_i hk
      have hk' := hk
      simp only [followsK, inR, Bool.and_eq_true, decide_eq_true_eq] at hk'
      obtain ⟨n1, n2, n3, n4, n5⟩ := numsF_node hn
      cases hr : lastB rest (i + 1 + kids.size) with
      | none =>
        rw [hr] at h
        simp only [Option.some.injEq, Prod.mk.injEq] at h
        obtain ⟨rfl, rfl, rfl⟩ := h
        exact ⟨chainAt_here hk hat hn hok, hk⟩
      | some x =>
        rw [hr] at h
        obtain ⟨h1, h2⟩ := lastB_in rest _ q k ks hat.rest n5 (okF_rest hk hok) (by rw [hr]; exact h)
        exact ⟨chainAt_up (by omega) h1, h2⟩
    · cases h
end
section
open Go Go.Sim
set_option maxRecDepth 100000
set_option maxHeartbeats 4000000

theorem toI_cons_at (i x : Nat) (l : List Nat) : (i :: l).getD (x + 1) default = l.getD x default := by simp [List.getD_eq_getElem?_getD]
theorem c_caught {t : List Class} {cl : Bool} {P : List Line} {clp : Bool} (ht : validT t = true) {i j : Nat} {d v : Int} {rest : Fo} {s : RS} {F H : AHeap} {bs : Nat} (cl2 : Bool)
    (hat : At P j d rest) (hs : FsOk t s.fs) (h0 : 0 ≤ v) (h1 : v < s.fs.length) (hM : StS F H bs t cl P clp s) (hp : P.length ≤ 4398046511104) :
    ACalls Tryz.prog 167 [.ptr bs 4 0 0, .vsl ((toI (i :: chainN rest j)).map rI) cl2, I v] H fun r H' => r = I (match catchF t (clsOf s v) rest j with | some (q, _) => (q : Int) | none => -1) ∧ H' = H := by
  have hch := chain_len rest j
  have hrl := hat.len
  have hv : v.toNat < s.fs.length := by omega
  have hcl := hasF_spec (hs.cls v.toNat hv).1
  obtain ⟨xl, G, clf, hF, hg1, hb, rfl⟩ := id hM
  refine acalls_of1 Tryz.func167 rfl (by kernel_rfl) rfl rfl (awp_sound (fz := fun r => if r = 4 then [8] else []) (im := fun _ => false) mixed _ _ _ _ (by kernel_rfl) ?_)
  simp +contextual -dsimp -implicitDefEqProofs (maxSteps := 5000000) only [go_sem, reduceIte, reduceCtorEq, Nat.reduceEqDiff, Nat.reduceBEq, Nat.reduceAdd, Nat.reduceLeDiff, Nat.reduceMul, Nat.reduceLT, Int.reduceEq, Int.reduceLT, Int.reduceLE]
  refine aloop mixed (fz := fun r => if r = 4 then [8] else []) (im := fun _ => false) (by kernel_rfl) (fun m tm H' => ∃ (g : Fo) (q x : Nat), m = g.size ∧ At P q d g ∧ g.size ≤ rest.size ∧ (chainN rest j).drop x = chainN g q ∧ x ≤ (chainN rest j).length ∧ H' = G.set bs ⟨4, 121, [[.vsl (t.map rClass) cl, aProg P clp, xl, .vsl (s.fs.map rFault) clf]]⟩ ∧ catchF t (clsOf s v) rest j = catchF t (clsOf s v) g q ∧ tm 0 = .ptr bs 4 0 0 ∧ tm 1 = .vsl ((toI (i :: chainN rest j)).map rI) cl2 ∧ tm 2 = I v ∧ tm 7 = I (x + 1 : Nat)) rest.size ⟨rest, j, 0, rfl, hat, Nat.le_refl _, rfl, Nat.zero_le _, rfl, rfl, ?_⟩ ?_
  · simp +contextual -dsimp -implicitDefEqProofs (maxSteps := 5000000) only [go_sem, reduceIte, reduceCtorEq, Nat.reduceEqDiff, Nat.reduceBEq, Nat.reduceAdd, Nat.reduceLeDiff, Nat.reduceMul, Nat.reduceLT, Int.reduceEq, Int.reduceLT, Int.reduceLE]
    rfl
  · rintro m tm _ ⟨g, q, x, rfl, hgat, hgs, hdx, hxl, rfl, he, t0, t1, t2, t7⟩
    cases hcq : chainN g q with
    | nil =>
      rw [hcq] at hdx
      have hx := drop_nil hdx
      have hx' : ¬ x + 1 < (chainN rest j).length + 1 := by omega
      have hno : catchF t (clsOf s v) g q = none := by
        cases g with
        | nil => rfl
        | node k2 a2 b2 ks re =>
          simp only [chainN] at hcq
          split at hcq
          · cases hcq
          · rename_i hk2
            simp only [catchF]; rw [if_neg hk2]
      rw [he, hno]
      simp +contextual -dsimp -implicitDefEqProofs (maxSteps := 5000000) only [go_sem, reduceIte, reduceCtorEq, Nat.reduceEqDiff, Nat.reduceBEq, Nat.reduceAdd, Nat.reduceLeDiff, Nat.reduceMul, Nat.reduceLT, Int.reduceEq, Int.reduceLT, Int.reduceLE, t0, t1, t2, t7, toI_len, List.length_cons, hx']
      refine retR_less (l := [I (-1)]) (H' := G.set bs _) ?_ (AHeap.le_refl _) ⟨rfl, rfl⟩
      simp only [resA, go_sem, reduceIte, reduceCtorEq, Nat.reduceEqDiff, Nat.reduceBEq, Nat.reduceAdd, Nat.reduceLeDiff, Nat.reduceMul, Nat.reduceLT, Int.reduceEq, Int.reduceLT, Int.reduceLE]
    | cons q' tl =>
      cases g with
      | nil => simp [chainN] at hcq
      | node k2 a2 b2 ks re =>
        have hk2 : followsK k2 = true := by
          simp only [chainN] at hcq
          split at hcq
          · assumption
          · cases hcq
        have hdx' : (chainN rest j).drop x = q :: chainN re (q + 1 + ks.size) := by
          rw [hdx]; simp only [chainN]; rw [if_pos hk2]
        obtain ⟨hx1, hx2, hx3⟩ := drop_cons hdx'
        have hx' : x + 1 < (chainN rest j).length + 1 := by omega
        have hh2 := hgat.head
        have hef : catchF t (clsOf s v) (.node k2 a2 b2 ks re) q = if k2 = 8 ∧ isF t (clsOf s v) a2 = true then some (q, ks) else catchF t (clsOf s v) re (q + 1 + ks.size) := by
          simp only [catchF]; rw [if_pos hk2]
        have hsz : (Fo.node k2 a2 b2 ks re).size = 1 + ks.size + re.size := rfl
        have szl : ∀ k : Int, re.size < (Fo.node k a2 b2 ks re).size := fun k => by simp only [Fo.size]; omega
        simp +contextual -dsimp -implicitDefEqProofs (maxSteps := 5000000) only [go_sem, reduceIte, reduceCtorEq, Nat.reduceEqDiff, Nat.reduceBEq, Nat.reduceAdd, Nat.reduceLeDiff, Nat.reduceMul, Nat.reduceLT, Int.reduceEq, Int.reduceLT, Int.reduceLE, t0, t1, t2, t7, toI_len, toI_at, toI_cons_at, List.length_cons, hx', hx2]
        refine draw_intro [0, 0, 0, 1, 0, 0, 0, 1, 0, 1, 3, 2] _ (by kernel_rfl) (AHeap.le_refl _) ?_
        simp +contextual -dsimp -implicitDefEqProofs (maxSteps := 5000000) only [go_sem, reduceIte, reduceCtorEq, Nat.reduceEqDiff, Nat.reduceBEq, Nat.reduceAdd, Nat.reduceLeDiff, Nat.reduceMul, Nat.reduceLT, Int.reduceEq, Int.reduceLT, Int.reduceLE, t0, t1, t2, t7, toI_len, toI_at, toI_cons_at, List.length_cons, hx', hx2, hh2.1, hh2.2]
        rintro b8 hb8
        refine ⟨le_set (by rw [set_other hb8.1]; exact hb8.2.2), ?_⟩
        refine draw_intro [0, 0, 0, 0, 0, 0, 0, 0, 0, 0, 0, 0, 0, 0, 0, 0, 0, 0, 0, 2, 0] _ (by kernel_rfl) (AHeap.le_refl _) ?_
        by_cases k8 : k2 = 8
        · simp +contextual -dsimp -implicitDefEqProofs (maxSteps := 5000000) only [go_sem, reduceIte, reduceCtorEq, Nat.reduceEqDiff, Nat.reduceBEq, Nat.reduceAdd, Nat.reduceLeDiff, Nat.reduceMul, Nat.reduceLT, Int.reduceEq, Int.reduceLT, Int.reduceLE, t0, t1, t2, t7, toI_len, toI_at, toI_cons_at, List.length_cons, hx', hx2, hh2.1, hh2.2, k8, h0, h1, hv]
          refine (c_isA t cl _ a2 _ ht hcl.2).det ?_
          simp +contextual -dsimp -implicitDefEqProofs (maxSteps := 5000000) only [go_sem, reduceIte, reduceCtorEq, Nat.reduceEqDiff, Nat.reduceBEq, Nat.reduceAdd, Nat.reduceLeDiff, Nat.reduceMul, Nat.reduceLT, Int.reduceEq, Int.reduceLT, Int.reduceLE, t0, t1, t2, t7, toI_len, toI_at, toI_cons_at, List.length_cons, hx', hx2, hh2.1, hh2.2, k8]
          refine ⟨fun hq => ?_, fun hq => ?_⟩
          · rw [if_pos ⟨k8, hq⟩] at hef
            rw [he, hef]
            refine retR_less (l := [I q]) (H' := G.set bs _) ?_ (AHeap.le_refl _) ⟨rfl, rfl⟩
            simp only [resA, go_sem, reduceIte, reduceCtorEq, Nat.reduceEqDiff, Nat.reduceBEq, Nat.reduceAdd, Nat.reduceLeDiff, Nat.reduceMul, Nat.reduceLT, Int.reduceEq, Int.reduceLT, Int.reduceLE]
          · rw [if_neg (fun z => by have := z.2; unfold isF clsOf at this; rw [hq] at this; cases this)] at hef
            exact ⟨re.size, szl 8, re, q + 1 + ks.size, x + 1, rfl, hgat.rest, by omega, hx3, hx1, by rw [he]; exact hef, I_wrap (by omega) (by omega) (by omega)⟩
        · rw [if_neg (fun z => k8 z.1)] at hef
          simp +contextual -dsimp -implicitDefEqProofs (maxSteps := 5000000) only [go_sem, reduceIte, reduceCtorEq, Nat.reduceEqDiff, Nat.reduceBEq, Nat.reduceAdd, Nat.reduceLeDiff, Nat.reduceMul, Nat.reduceLT, Int.reduceEq, Int.reduceLT, Int.reduceLE, t0, t1, t2, t7, toI_len, toI_at, toI_cons_at, List.length_cons, hx', hx2, hh2.1, hh2.2, k8]
          exact ⟨re.size, szl k2, re, q + 1 + ks.size, x + 1, rfl, hgat.rest, by omega, hx3, hx1, by rw [he]; exact hef, I_wrap (by omega) (by omega) (by omega)⟩
theorem c_sfinally {t : List Class} {cl : Bool} {P : List Line} {clp : Bool} {n : Nat} (ht : validT t = true) (ih : SBlkOk t cl P clp n) {i j : Nat} {d a b h : Int} {kids rest : Fo} {s : RS} {F H : AHeap} {bs : Nat} {lp : Bool} (cl2 : Bool) (e : En)
    (hn : rest.size < n) (hhead : At P i d (.node 7 a b kids rest)) (hj : j = i + 1 + kids.size) (hr : numsF t rest d = true) (hok : okF rest lp true = true) (hs : FsOk t s.fs) (hh : h < s.fs.length) (hev : e.ed = 2 → 0 ≤ e.val ∧ e.val < s.fs.length)
    (hl : ∀ q ks, lastB rest j = some (q, 10, ks) → s.log.length + cost ks ≤ 900000 ∧ s.fs.length + cost ks ≤ 900000) (hM : StS F H bs t cl P clp s) (hp : P.length ≤ 4398046511104) :
    ACalls Tryz.prog 166 [.ptr bs 4 0 0, .vsl ((toI (i :: chainN rest j)).map rI) cl2, .agg (rEn e), I h] H fun r H' => r = .agg (rEn (finR t rest j e h s).1) ∧ StS F H' bs t cl P clp (finR t rest j e h s).2 := by
  subst hj
  have hat := hhead.rest
  have hgl := getD_last i (chainN rest (i + 1 + kids.size))
  have hlp := lastB_pos rest (i + 1 + kids.size) i
  have hcl := chain_len rest (i + 1 + kids.size)
  have hrl := hat.len
  have hwl : IntKind.i64.wrap (((chainN rest (i + 1 + kids.size)).length + 1 : Nat) - 1) = ((chainN rest (i + 1 + kids.size)).length : Int) := by
    rw [w64 (by omega) (by omega)]; omega
  have hlt1 : ((chainN rest (i + 1 + kids.size)).length : Int) < (((chainN rest (i + 1 + kids.size)).length + 1 : Nat) : Int) := by omega
  have hlt2 : (chainN rest (i + 1 + kids.size)).length < (chainN rest (i + 1 + kids.size)).length + 1 := by omega
  obtain ⟨xl, G, clf, hF, hg1, hb, rfl⟩ := id hM
  refine acalls_of1 Tryz.func166 rfl (by kernel_rfl) rfl rfl (awp_sound (fz := fun r => if r = 6 then [10] else []) (im := fun s => s == 6) mixed _ _ _ _ (by kernel_rfl) ?_)
  simp +contextual -dsimp -implicitDefEqProofs (maxSteps := 5000000) only [go_sem, reduceIte, reduceCtorEq, Nat.reduceEqDiff, Nat.reduceBEq, Nat.reduceAdd, Nat.reduceLeDiff, Nat.reduceMul, Nat.reduceLT, Int.reduceEq, Int.reduceLT, Int.reduceLE, toI_len, toI_at, List.length_cons, hwl, hgl, hlt1, hlt2, rEn]
  rintro b8 ⟨n1, n2, hn2⟩
  have hF8 : F b8 = none := grow_none hg1 hn2
  have hb8 : ∀ K, (G.set bs K) b8 = none := fun K => by rw [set_other n1]; exact hn2
  cases hL : lastB rest (i + 1 + kids.size) with
  | none =>
    have ef : finR t rest (i + 1 + kids.size) e h s = (e, s) := by unfold finR; rw [hL]
    rw [ef]
    rw [hL] at hlp
    simp only at hlp
    rw [hlp]
    simp +contextual -dsimp -implicitDefEqProofs (maxSteps := 5000000) only [go_sem, reduceIte, reduceCtorEq, Nat.reduceEqDiff, Nat.reduceBEq, Nat.reduceAdd, Nat.reduceLeDiff, Nat.reduceMul, Nat.reduceLT, Int.reduceEq, Int.reduceLT, Int.reduceLE, hhead.head.1, hhead.head.2, n1, n2]
    refine retR_less (l := [.agg (rEn e)]) (H' := G.set bs _) ?_ (le_set (hb8 _)) ⟨rfl, hM⟩
    simp only [resA, go_sem, reduceIte, reduceCtorEq, Nat.reduceEqDiff, Nat.reduceBEq, Nat.reduceAdd, Nat.reduceLeDiff, Nat.reduceMul, Nat.reduceLT, Int.reduceEq, Int.reduceLT, Int.reduceLE, rEn]
  | some y =>
    obtain ⟨q, k, ks⟩ := y
    rw [hL] at hlp
    simp only at hlp
    rw [hlp]
    obtain ⟨⟨⟨a2, b2, re2, hq⟩, c2, c3, c4, c5⟩, c6⟩ := lastB_in (t := t) (lp := lp) rest _ q k ks hat hr hok hL
    by_cases k10 : k = 10
    · subst k10
      obtain ⟨l1, l2⟩ := hl q ks hL
      have hgF : ∀ g : Int, g < s.fs.length → Goes t (cost ks) s (runF t ks (q + 1) none g s).1 (runF t ks (q + 1) none g s).2 := fun g hg => goes_run ht ks (q + 1) none (d + 1) g s c3 hs hg trivial
      have body : ∀ g : Int, g < s.fs.length → ACalls Tryz.prog 165 [.ptr bs 4 0 0, I q, I g] ((G.set bs ⟨4, 121, [[.vsl (t.map rClass) cl, aProg P clp, xl, .vsl (s.fs.map rFault) clf]]⟩).set b8 ⟨2, 123, [[I 0, I 0]]⟩) fun r H' => r = .agg (rEn (runF t ks (q + 1) none g s).1) ∧ StS (F.set b8 ⟨2, 123, [[I 0, I 0]]⟩) H' bs t cl P clp (runF t ks (q + 1) none g s).2 :=
        fun g hg => c_sbody ih (by omega) hq c3 c4 hs hg l1 l2 (sts_in hM (hb8 _)) hp
      by_cases e2 : e.ed = 2
      · have ef : finR t rest (i + 1 + kids.size) e h s = (fun l : En × RS => (if l.1.ed = 0 then e else l.1, l.2)) (runF t ks (q + 1) none e.val s) := by
          unfold finR; rw [hL]; simp only [if_true, e2]
        rw [ef]
        have hgl := (hgF e.val (hev e2).2).len
        simp +contextual -dsimp -implicitDefEqProofs (maxSteps := 5000000) only [go_sem, reduceIte, reduceCtorEq, Nat.reduceEqDiff, Nat.reduceBEq, Nat.reduceAdd, Nat.reduceLeDiff, Nat.reduceMul, Nat.reduceLT, Int.reduceEq, Int.reduceLT, Int.reduceLE, hq.head.1, hq.head.2, n1, n2, e2]
        refine (body e.val (hev e2).2).mono ?_
        rintro _ H3 ⟨rfl, hM3⟩
        generalize runF t ks (q + 1) none e.val s = r at hM3 ⊢
        obtain ⟨H4, rfl, hM4, w4⟩ := sts_out hM3 hF8
        by_cases c0 : r.1.ed = 0
        · simp +contextual -dsimp -implicitDefEqProofs (maxSteps := 5000000) only [go_sem, reduceIte, reduceCtorEq, Nat.reduceEqDiff, Nat.reduceBEq, Nat.reduceAdd, Nat.reduceLeDiff, Nat.reduceMul, Nat.reduceLT, Int.reduceEq, Int.reduceLT, Int.reduceLE, rEn, n1, n2, c0, e2]
          rintro b10 hb10
          refine retR_less (l := [.agg (rEn e)]) (H' := H4) ?_ (le_set w4) ⟨by show AV.agg [I e.ed, I e.val] = _; rw [e2], hM4⟩
          simp only [resA, go_sem, reduceIte, reduceCtorEq, Nat.reduceEqDiff, Nat.reduceBEq, Nat.reduceAdd, Nat.reduceLeDiff, Nat.reduceMul, Nat.reduceLT, Int.reduceEq, Int.reduceLT, Int.reduceLE, rEn, e2]
        · simp +contextual -dsimp -implicitDefEqProofs (maxSteps := 5000000) only [go_sem, reduceIte, reduceCtorEq, Nat.reduceEqDiff, Nat.reduceBEq, Nat.reduceAdd, Nat.reduceLeDiff, Nat.reduceMul, Nat.reduceLT, Int.reduceEq, Int.reduceLT, Int.reduceLE, rEn, n1, n2, c0, e2]
          rintro b10 hb10
          refine retR_less (l := [.agg (rEn r.1)]) (H' := H4) ?_ (le_set w4) ⟨rfl, hM4⟩
          simp only [resA, go_sem, reduceIte, reduceCtorEq, Nat.reduceEqDiff, Nat.reduceBEq, Nat.reduceAdd, Nat.reduceLeDiff, Nat.reduceMul, Nat.reduceLT, Int.reduceEq, Int.reduceLT, Int.reduceLE, rEn]
      · have ef : finR t rest (i + 1 + kids.size) e h s = (fun l : En × RS => (if l.1.ed = 0 then e else l.1, l.2)) (runF t ks (q + 1) none h s) := by
          unfold finR; rw [hL]; simp only [if_true, e2, if_false]
        rw [ef]
        have hgl := (hgF h hh).len
        simp +contextual -dsimp -implicitDefEqProofs (maxSteps := 5000000) only [go_sem, reduceIte, reduceCtorEq, Nat.reduceEqDiff, Nat.reduceBEq, Nat.reduceAdd, Nat.reduceLeDiff, Nat.reduceMul, Nat.reduceLT, Int.reduceEq, Int.reduceLT, Int.reduceLE, hq.head.1, hq.head.2, n1, n2, e2]
        refine (body h hh).mono ?_
        rintro _ H3 ⟨rfl, hM3⟩
        generalize runF t ks (q + 1) none h s = r at hM3 ⊢
        obtain ⟨H4, rfl, hM4, w4⟩ := sts_out hM3 hF8
        by_cases c0 : r.1.ed = 0
        · simp +contextual -dsimp -implicitDefEqProofs (maxSteps := 5000000) only [go_sem, reduceIte, reduceCtorEq, Nat.reduceEqDiff, Nat.reduceBEq, Nat.reduceAdd, Nat.reduceLeDiff, Nat.reduceMul, Nat.reduceLT, Int.reduceEq, Int.reduceLT, Int.reduceLE, rEn, n1, n2, c0, e2]
          rintro b10 hb10
          refine retR_less (l := [.agg (rEn e)]) (H' := H4) ?_ (le_set w4) ⟨rfl, hM4⟩
          simp only [resA, go_sem, reduceIte, reduceCtorEq, Nat.reduceEqDiff, Nat.reduceBEq, Nat.reduceAdd, Nat.reduceLeDiff, Nat.reduceMul, Nat.reduceLT, Int.reduceEq, Int.reduceLT, Int.reduceLE, rEn]
        · simp +contextual -dsimp -implicitDefEqProofs (maxSteps := 5000000) only [go_sem, reduceIte, reduceCtorEq, Nat.reduceEqDiff, Nat.reduceBEq, Nat.reduceAdd, Nat.reduceLeDiff, Nat.reduceMul, Nat.reduceLT, Int.reduceEq, Int.reduceLT, Int.reduceLE, rEn, n1, n2, c0, e2]
          rintro b10 hb10
          refine retR_less (l := [.agg (rEn r.1)]) (H' := H4) ?_ (le_set w4) ⟨rfl, hM4⟩
          simp only [resA, go_sem, reduceIte, reduceCtorEq, Nat.reduceEqDiff, Nat.reduceBEq, Nat.reduceAdd, Nat.reduceLeDiff, Nat.reduceMul, Nat.reduceLT, Int.reduceEq, Int.reduceLT, Int.reduceLE, rEn]
    · have ef : finR t rest (i + 1 + kids.size) e h s = (e, s) := by unfold finR; rw [hL]; simp only [k10, if_false]
      rw [ef]
      simp +contextual -dsimp -implicitDefEqProofs (maxSteps := 5000000) only [go_sem, reduceIte, reduceCtorEq, Nat.reduceEqDiff, Nat.reduceBEq, Nat.reduceAdd, Nat.reduceLeDiff, Nat.reduceMul, Nat.reduceLT, Int.reduceEq, Int.reduceLT, Int.reduceLE, hq.head.1, hq.head.2, n1, n2, k10]
      refine retR_less (l := [.agg (rEn e)]) (H' := G.set bs _) ?_ (le_set (hb8 _)) ⟨rfl, hM⟩
      simp only [resA, go_sem, reduceIte, reduceCtorEq, Nat.reduceEqDiff, Nat.reduceBEq, Nat.reduceAdd, Nat.reduceLeDiff, Nat.reduceMul, Nat.reduceLT, Int.reduceEq, Int.reduceLT, Int.reduceLE, rEn]
end
section
open Go Go.Sim
set_option maxRecDepth 100000
set_option maxHeartbeats 4000000

theorem en_ed (a b : Int) : (En.mk a b).ed = a := rfl
theorem en_val (a b : Int) : (En.mk a b).val = b := rfl
theorem goes_mid {t : List Class} {P : List Line} {lp : Bool} (ht : validT t = true) {f : Fo} {i : Nat} {e : En} {d h : Int} {s : RS} (hat : At P i d f) (hn : numsF t f d = true) (hok : okF f lp true = true) (hs : FsOk t s.fs) (hh : h < s.fs.length) (he : e.ed = 2 → 0 ≤ e.val ∧ e.val < s.fs.length) :
    ∃ c, Goes t c s (midR t f i e h s).1 (midR t f i e h s).2 ∧ c ≤ cost f ∧ ∀ q ks, lastB f i = some (q, 10, ks) → c + cost ks ≤ cost f := by
  have l0 : ∀ q ks, lastB f i = some (q, 10, ks) → 0 + cost ks ≤ cost f := fun q ks hl => by have := elseF_at.lastB_cost f i hl; simp only at this; omega
  unfold midR
  split
  · cases hE : elseF f i with
    | none => exact ⟨0, goes_self hs he, by omega, l0⟩
    | some y =>
      obtain ⟨q, ks⟩ := y
      obtain ⟨c1, c2⟩ := elseF_at f i q ks hat hn hok hE
      exact ⟨cost ks, goes_run ht ks (q + 1) none (d + 1) h s c1.nums hs hh trivial, c1.cost, c2⟩
  · split
    · rename_i e2
      cases hE : catchF t (clsOf s e.val) f i with
      | none => exact ⟨0, goes_self hs he, by omega, l0⟩
      | some y =>
        obtain ⟨q, ks⟩ := y
        obtain ⟨c1, c2⟩ := catchF_at f i q ks hat hn hok hE
        exact ⟨cost ks, goes_run ht ks (q + 1) none (d + 1) e.val s c1.nums hs (he e2).2 trivial, c1.cost, c2⟩
    · exact ⟨0, goes_self hs he, by omega, l0⟩
theorem c_stry {t : List Class} {cl : Bool} {P : List Line} {clp : Bool} {n : Nat} (ht : validT t = true) (ih : SBlkOk t cl P clp n) {i : Nat} {d a b h : Int} {kids rest : Fo} {s : RS} {F H : AHeap} {bs : Nat} {lp : Bool}
    (hn : kids.size + rest.size < n) (hat : At P i d (.node 7 a b kids rest)) (hk : numsF t kids (d + 1) = true) (hr : numsF t rest d = true) (hok : okF kids lp false = true) (hokr : okF rest lp true = true) (hto : tryG 7 (headsK rest) = true) (hs : FsOk t s.fs) (hh : h < s.fs.length)
    (hl : s.log.length + (cost kids + cost rest) ≤ 900000) (hf : s.fs.length + (cost kids + cost rest) ≤ 900000) (hM : StS F H bs t cl P clp s) (hp : P.length ≤ 4398046511104) :
    ACalls Tryz.prog 156 [.ptr bs 4 0 0, I i, I h] H fun r H' =>
      r = .agg (rEn (chainR t rest (i + 1 + kids.size) (runF t kids (i + 1) none h s).1 (runF t kids (i + 1) none h s).1 h (runF t kids (i + 1) none h s).2).1) ∧
      StS F H' bs t cl P clp (chainR t rest (i + 1 + kids.size) (runF t kids (i + 1) none h s).1 (runF t kids (i + 1) none h s).1 h (runF t kids (i + 1) none h s).2).2 := by
  have hi := hat.head.1
  obtain ⟨xl, G, clf, hF, hg1, hb, rfl⟩ := id hM
  refine acalls_of1 Tryz.func156 rfl (by kernel_rfl) rfl rfl (awp_sound (fz := fun _ => []) (im := fun _ => false) mixed _ _ _ _ (by kernel_rfl) ?_)
  simp +contextual -dsimp -implicitDefEqProofs (maxSteps := 5000000) only [go_sem, reduceIte, reduceCtorEq, Nat.reduceEqDiff, Nat.reduceBEq, Nat.reduceAdd, Nat.reduceLeDiff, Nat.reduceMul, Nat.reduceLT, Int.reduceEq, Int.reduceLT, Int.reduceLE]
  rintro b6 ⟨n1, n2, hn2⟩
  have hF6 : F b6 = none := grow_none hg1 hn2
  refine acalls_frz (c_chainOf P clp i _ hi hp) fun cl2 => ?_
  rw [chainP_at hat]
  simp +contextual -dsimp -implicitDefEqProofs (maxSteps := 5000000) only [go_sem, reduceIte, reduceCtorEq, Nat.reduceEqDiff, Nat.reduceBEq, Nat.reduceAdd, Nat.reduceLeDiff, Nat.reduceMul, Nat.reduceLT, Int.reduceEq, Int.reduceLT, Int.reduceLE, n1, n2]
  have hgo := goes_run ht kids (i + 1) none (d + 1) h s hk hs hh trivial
  have hgl := hgo.len
  refine (c_sbody ih (by omega) hat hk hok hs hh (by omega) (by omega) (sts_in (K := ⟨2, 123, [[I 0, I 0]]⟩) hM (show (G.set bs _) b6 = none by rw [set_other n1]; exact hn2)) hp).mono ?_
  rintro _ H3 ⟨rfl, hM3⟩
  generalize runF t kids (i + 1) none h s = r at hM3 hgo hgl ⊢
  obtain ⟨⟨ed, v⟩, s0⟩ := r
  dsimp only at hM3 hgo hgl ⊢
  obtain ⟨H4, rfl, hM4, hn4⟩ := sts_out hM3 hF6
  rw [chain_spec rest _ ⟨ed, v⟩ h s0 7 hto]
  obtain ⟨cm, hmg, hmc, hml⟩ := goes_mid ht (e := ⟨ed, v⟩) (h := h) hat.rest hr hokr hgo.ok (by omega) hgo.val
  have hmgl := hmg.len
  simp +contextual -dsimp -implicitDefEqProofs (maxSteps := 5000000) only [go_sem, reduceIte, reduceCtorEq, Nat.reduceEqDiff, Nat.reduceBEq, Nat.reduceAdd, Nat.reduceLeDiff, Nat.reduceMul, Nat.reduceLT, Int.reduceEq, Int.reduceLT, Int.reduceLE, rEn]
  rintro b8 ⟨d1, d2, m8⟩
  have hF8 : F b8 = none := sts_none hM4 m8
  have hrat := hat.rest
  have hcl := chain_len rest (i + 1 + kids.size)
  have hrl := hrat.len
  have e7 : numsF t (.node 7 a b kids rest) d = true → True := fun _ => trivial
  have fin : ∀ (e : En) (s' : RS) (H9 : AHeap), FsOk t s'.fs → s.fs.length ≤ s'.fs.length → (e.ed = 2 → 0 ≤ e.val ∧ e.val < s'.fs.length) → (∀ q ks, lastB rest (i + 1 + kids.size) = some (q, 10, ks) → s'.log.length + cost ks ≤ 900000 ∧ s'.fs.length + cost ks ≤ 900000) → StS F H9 bs t cl P clp s' → H9 b6 = none → H9 b8 = none →
      ACalls Tryz.prog 166 [.ptr bs 4 0 0, .vsl ((toI (i :: chainN rest (i + 1 + kids.size))).map rI) cl2, .agg (rEn e), I h] ((H9.set b6 ⟨2, 123, [[I 0, I 0]]⟩).set b8 ⟨2, 123, [rEn e]⟩) fun x H' => x = .agg (rEn (finR t rest (i + 1 + kids.size) e h s').1) ∧ ∃ H5, H' = (H5.set b6 ⟨2, 123, [[I 0, I 0]]⟩).set b8 ⟨2, 123, [rEn e]⟩ ∧ StS F H5 bs t cl P clp (finR t rest (i + 1 + kids.size) e h s').2 ∧ H5 b6 = none ∧ H5 b8 = none := by
    intro e s' H9 q1 q2 q3 q4 q5 q6 q7
    refine (c_sfinally ht ih cl2 e (by omega) hat rfl hr hokr q1 (by omega) q3 q4 (sts_in (K := ⟨2, 123, [rEn e]⟩) (sts_in (K := ⟨2, 123, [[I 0, I 0]]⟩) q5 q6) (by rw [set_other d1]; exact q7)) hp).mono ?_
    rintro _ H3 ⟨rfl, hM3⟩
    obtain ⟨H5, rfl, w1, w2⟩ := sts_out hM3 (by rw [set_other d1]; exact hF8)
    obtain ⟨H6, rfl, w3, w4⟩ := sts_out w1 hF6
    rw [set_other d1] at w2
    exact ⟨rfl, H6, rfl, w3, w4, w2⟩
  have body : ∀ (e : En) (q : Nat) (k : Int) (ks : Fo) (g : Int), ChainAt t P d lp rest q k ks → g < s0.fs.length →
      ACalls Tryz.prog 165 [.ptr bs 4 0 0, I q, I g] ((H4.set b6 ⟨2, 123, [[I 0, I 0]]⟩).set b8 ⟨2, 123, [rEn e]⟩) fun x H' => x = .agg (rEn (runF t ks (q + 1) none g s0).1) ∧ ∃ H5, H' = (H5.set b6 ⟨2, 123, [[I 0, I 0]]⟩).set b8 ⟨2, 123, [rEn e]⟩ ∧ StS F H5 bs t cl P clp (runF t ks (q + 1) none g s0).2 ∧ H5 b6 = none ∧ H5 b8 = none := by
    intro e q k ks g hc hg
    obtain ⟨⟨a2, b2, re2, hq⟩, c2, c3, c4, c5⟩ := hc
    refine (c_sbody ih (by omega) hq c3 c4 hgo.ok hg (by omega) (by omega) (sts_in (K := ⟨2, 123, [rEn e]⟩) (sts_in (K := ⟨2, 123, [[I 0, I 0]]⟩) hM4 hn4) (by rw [set_other d1]; exact m8)) hp).mono ?_
    rintro _ H3 ⟨rfl, hM3⟩
    obtain ⟨H5, rfl, w1, w2⟩ := sts_out hM3 (by rw [set_other d1]; exact hF8)
    obtain ⟨H6, rfl, w3, w4⟩ := sts_out w1 hF6
    rw [set_other d1] at w2
    exact ⟨rfl, H6, rfl, w3, w4, w2⟩
  obtain ⟨xl4, G4, clf4, hFb4, hg4, hb4, rfl⟩ := id hM4
  have hn4' := hn4
  have m8' := m8
  rw [set_none] at hn4' m8'
  obtain ⟨z1, z2, z3⟩ := hn4'
  obtain ⟨z4, z5, z6⟩ := m8'
  refine aloop mixed (fz := fun _ => []) (im := fun _ => false) (by kernel_rfl) (fun m tm H' => ∃ (g : Fo) (q x : Nat), m = g.size ∧ At P q d g ∧ g.size ≤ rest.size ∧ (chainN rest (i + 1 + kids.size)).drop x = chainN g q ∧ x ≤ (chainN rest (i + 1 + kids.size)).length ∧ H' = ((G4.set bs ⟨4, 121, [[.vsl (t.map rClass) cl, aProg P clp, xl4, .vsl (s0.fs.map rFault) clf4]]⟩).set b6 ⟨2, 123, [[I 0, I 0]]⟩).set b8 ⟨2, 123, [rEn ⟨ed, v⟩]⟩ ∧ (ed = 0 → elseF rest (i + 1 + kids.size) = elseF g q) ∧ tm 0 = .ptr bs 4 0 0 ∧ tm 1 = I i ∧ tm 2 = I h ∧ tm 6 = .ptr b6 2 0 0 ∧ tm 7 = .vsl ((toI (i :: chainN rest (i + 1 + kids.size))).map rI) cl2 ∧ tm 8 = .ptr b8 2 0 0 ∧ tm 9 = I (x + 1 : Nat)) rest.size ⟨rest, i + 1 + kids.size, 0, rfl, hrat, Nat.le_refl _, rfl, Nat.zero_le _, rfl, fun _ => rfl, ?_⟩ ?_
  · simp +contextual -dsimp -implicitDefEqProofs (maxSteps := 5000000) only [go_sem, reduceIte, reduceCtorEq, Nat.reduceEqDiff, Nat.reduceBEq, Nat.reduceAdd, Nat.reduceLeDiff, Nat.reduceMul, Nat.reduceLT, Int.reduceEq, Int.reduceLT, Int.reduceLE, rEn]
    rfl
  · rintro m tm _ ⟨g, q, x, rfl, hgat, hgs, hdx, hxl, rfl, he, t0, t1, t2, t6, t7, t8, t9⟩
    cases hcq : chainN g q with
    | nil =>
      rw [hcq] at hdx
      have hx := drop_nil hdx
      have hx' : ¬ x + 1 < (chainN rest (i + 1 + kids.size)).length + 1 := by omega
      have hno : elseF g q = none := by
        cases g with
        | nil => rfl
        | node k2 a2 b2 ks re =>
          simp only [chainN] at hcq
          split at hcq
          · cases hcq
          · rename_i hk2
            simp only [elseF]; rw [if_neg hk2]
      have bnd0 : ∀ q ks, lastB rest (i + 1 + kids.size) = some (q, 10, ks) → s0.log.length + cost ks ≤ 900000 ∧ s0.fs.length + cost ks ≤ 900000 := fun q ks hq => by have := hml q ks hq; omega
      by_cases e2 : ed = 2
      · subst e2
        have ev := hgo.val rfl
        dsimp only at ev
        have hMc := sts_in (K := ⟨2, 123, [rEn ⟨2, v⟩]⟩) (sts_in (K := ⟨2, 123, [[I 0, I 0]]⟩) hM4 hn4) (show (AHeap.set _ b6 _) b8 = none by rw [set_other d1]; exact m8)
        simp +contextual -dsimp -implicitDefEqProofs (maxSteps := 5000000) only [go_sem, reduceIte, reduceCtorEq, Nat.reduceEqDiff, Nat.reduceBEq, Nat.reduceAdd, Nat.reduceLeDiff, Nat.reduceMul, Nat.reduceLT, Int.reduceEq, Int.reduceLT, Int.reduceLE, rEn, t0, t1, t2, t6, t7, t8, t9, z1, z2, z4, z5, d1, d2, en_ed, en_val, toI_len, List.length_cons, hx']
        refine (c_caught ht cl2 hrat hgo.ok ev.1 ev.2 hMc hp).mono ?_
        rintro _ Hx ⟨rfl, hHx⟩
        subst hHx
        cases hC : catchF t (clsOf s0 v) rest (i + 1 + kids.size) with
        | none =>
          have em : midR t rest (i + 1 + kids.size) ⟨2, v⟩ h s0 = (⟨2, v⟩, s0) := by
            unfold midR; dsimp only; rw [if_neg (by decide), if_pos rfl, hC]
          rw [em]
          have zz : ¬ (0 : Int) ≤ -1 := by omega
          simp +contextual -dsimp -implicitDefEqProofs (maxSteps := 5000000) only [go_sem, reduceIte, reduceCtorEq, Nat.reduceEqDiff, Nat.reduceBEq, Nat.reduceAdd, Nat.reduceLeDiff, Nat.reduceMul, Nat.reduceLT, Int.reduceEq, Int.reduceLT, Int.reduceLE, rEn, t0, t1, t2, t6, t7, t8, t9, z1, z2, z4, z5, d1, d2, en_ed, en_val, zz]
          refine (fin ⟨2, v⟩ s0 _ hgo.ok hgl.1 hgo.val bnd0 hM4 hn4 m8).mono ?_
          rintro _ H' ⟨rfl, H5, rfl, w1, w2, w3⟩
          simp +contextual -dsimp -implicitDefEqProofs (maxSteps := 5000000) only [go_sem, reduceIte, reduceCtorEq, Nat.reduceEqDiff, Nat.reduceBEq, Nat.reduceAdd, Nat.reduceLeDiff, Nat.reduceMul, Nat.reduceLT, Int.reduceEq, Int.reduceLT, Int.reduceLE, rEn, t0, t1, t2, t6, t7, t8, t9, z1, z2, z4, z5, d1, d2, en_ed, en_val]
          refine retR_less (l := [.agg (rEn (finR t rest (i + 1 + kids.size) ⟨2, v⟩ h s0).1)]) (H' := H5) ?_ (le_s1 (le_s1 (AHeap.le_refl _) w2) w3) ⟨rfl, w1⟩
          simp only [resA, go_sem, reduceIte, reduceCtorEq, Nat.reduceEqDiff, Nat.reduceBEq, Nat.reduceAdd, Nat.reduceLeDiff, Nat.reduceMul, Nat.reduceLT, Int.reduceEq, Int.reduceLT, Int.reduceLE, rEn, d1, d2, t6]
        | some y =>
          obtain ⟨q8, ks8⟩ := y
          obtain ⟨y1, y2⟩ := catchF_at (p := P) (lp := lp) rest _ q8 ks8 hrat hr hokr hC
          have em : midR t rest (i + 1 + kids.size) ⟨2, v⟩ h s0 = runF t ks8 (q8 + 1) none v s0 := by
            unfold midR; dsimp only; rw [if_neg (by decide), if_pos rfl, hC]
          rw [em] at hmg hmgl ⊢
          have zz : (0 : Int) ≤ (q8 : Int) := by omega
          simp +contextual -dsimp -implicitDefEqProofs (maxSteps := 5000000) only [go_sem, reduceIte, reduceCtorEq, Nat.reduceEqDiff, Nat.reduceBEq, Nat.reduceAdd, Nat.reduceLeDiff, Nat.reduceMul, Nat.reduceLT, Int.reduceEq, Int.reduceLT, Int.reduceLE, rEn, t0, t1, t2, t6, t7, t8, t9, z1, z2, z4, z5, d1, d2, en_ed, en_val, zz]
          refine (body ⟨2, v⟩ q8 8 ks8 v y1 ev.2).mono ?_
          rintro _ Hy ⟨rfl, H6, rfl, g1, g2, g3⟩
          generalize runF t ks8 (q8 + 1) none v s0 = r8 at hmg hmgl g1 ⊢
          simp +contextual -dsimp -implicitDefEqProofs (maxSteps := 5000000) only [go_sem, reduceIte, reduceCtorEq, Nat.reduceEqDiff, Nat.reduceBEq, Nat.reduceAdd, Nat.reduceLeDiff, Nat.reduceMul, Nat.reduceLT, Int.reduceEq, Int.reduceLT, Int.reduceLE, rEn, t0, t1, t2, t6, t7, t8, t9, z1, z2, z4, z5, d1, d2, en_ed, en_val]
          refine (fin r8.1 r8.2 H6 hmg.ok (by omega) hmg.val (fun q ks hq => by have := hml q ks hq; omega) g1 g2 g3).mono ?_
          rintro _ H' ⟨rfl, H5, rfl, w1, w2, w3⟩
          simp +contextual -dsimp -implicitDefEqProofs (maxSteps := 5000000) only [go_sem, reduceIte, reduceCtorEq, Nat.reduceEqDiff, Nat.reduceBEq, Nat.reduceAdd, Nat.reduceLeDiff, Nat.reduceMul, Nat.reduceLT, Int.reduceEq, Int.reduceLT, Int.reduceLE, rEn, t0, t1, t2, t6, t7, t8, t9, z1, z2, z4, z5, d1, d2, en_ed, en_val]
          refine retR_less (l := [.agg (rEn (finR t rest (i + 1 + kids.size) r8.1 h r8.2).1)]) (H' := H5) ?_ (le_s1 (le_s1 (AHeap.le_refl _) w2) w3) ⟨rfl, w1⟩
          simp only [resA, go_sem, reduceIte, reduceCtorEq, Nat.reduceEqDiff, Nat.reduceBEq, Nat.reduceAdd, Nat.reduceLeDiff, Nat.reduceMul, Nat.reduceLT, Int.reduceEq, Int.reduceLT, Int.reduceLE, rEn, d1, d2, t6]
      · have em : midR t rest (i + 1 + kids.size) ⟨ed, v⟩ h s0 = (⟨ed, v⟩, s0) := by
          unfold midR
          dsimp only
          by_cases e0 : ed = 0
          · rw [if_pos e0, he e0, hno]
          · rw [if_neg e0, if_neg e2]
        rw [em]
        simp +contextual -dsimp -implicitDefEqProofs (maxSteps := 5000000) only [go_sem, reduceIte, reduceCtorEq, Nat.reduceEqDiff, Nat.reduceBEq, Nat.reduceAdd, Nat.reduceLeDiff, Nat.reduceMul, Nat.reduceLT, Int.reduceEq, Int.reduceLT, Int.reduceLE, rEn, t0, t1, t2, t6, t7, t8, t9, z1, z2, z4, z5, d1, d2, en_ed, en_val, toI_len, List.length_cons, hx', e2]
        refine (fin ⟨ed, v⟩ s0 _ hgo.ok hgl.1 hgo.val bnd0 hM4 hn4 m8).mono ?_
        rintro _ H' ⟨rfl, H5, rfl, w1, w2, w3⟩
        simp +contextual -dsimp -implicitDefEqProofs (maxSteps := 5000000) only [go_sem, reduceIte, reduceCtorEq, Nat.reduceEqDiff, Nat.reduceBEq, Nat.reduceAdd, Nat.reduceLeDiff, Nat.reduceMul, Nat.reduceLT, Int.reduceEq, Int.reduceLT, Int.reduceLE, rEn, t0, t1, t2, t6, t7, t8, t9, z1, z2, z4, z5, d1, d2, en_ed, en_val]
        refine retR_less (l := [.agg (rEn (finR t rest (i + 1 + kids.size) ⟨ed, v⟩ h s0).1)]) (H' := H5) ?_ (le_s1 (le_s1 (AHeap.le_refl _) w2) w3) ⟨rfl, w1⟩
        simp only [resA, go_sem, reduceIte, reduceCtorEq, Nat.reduceEqDiff, Nat.reduceBEq, Nat.reduceAdd, Nat.reduceLeDiff, Nat.reduceMul, Nat.reduceLT, Int.reduceEq, Int.reduceLT, Int.reduceLE, rEn, d1, d2, t6]
    | cons q' tl =>
      cases g with
      | nil => simp [chainN] at hcq
      | node k2 a2 b2 ks re =>
        have hk2 : followsK k2 = true := by
          simp only [chainN] at hcq
          split at hcq
          · assumption
          · cases hcq
        have hdx' : (chainN rest (i + 1 + kids.size)).drop x = q :: chainN re (q + 1 + ks.size) := by
          rw [hdx]; simp only [chainN]; rw [if_pos hk2]
        obtain ⟨hx1, hx2, hx3⟩ := drop_cons hdx'
        have hx' : x + 1 < (chainN rest (i + 1 + kids.size)).length + 1 := by omega
        have hh2 := hgat.head
        have szl : ∀ k : Int, re.size < (Fo.node k a2 b2 ks re).size := fun k => by simp only [Fo.size]; omega
        have hsz : (Fo.node k2 a2 b2 ks re).size = 1 + ks.size + re.size := rfl
        have hef : elseF (.node k2 a2 b2 ks re) q = if k2 = 9 then some (q, ks) else elseF re (q + 1 + ks.size) := by
          simp only [elseF]; rw [if_pos hk2]
        simp +contextual -dsimp -implicitDefEqProofs (maxSteps := 5000000) only [go_sem, reduceIte, reduceCtorEq, Nat.reduceEqDiff, Nat.reduceBEq, Nat.reduceAdd, Nat.reduceLeDiff, Nat.reduceMul, Nat.reduceLT, Int.reduceEq, Int.reduceLT, Int.reduceLE, rEn, t0, t1, t2, t6, t7, t8, t9, z1, z2, z4, z5, d1, d2, en_ed, en_val, toI_len, toI_at, toI_cons_at, List.length_cons, hx', hx2, hh2.1, hh2.2]
        refine draw_intro [0, 0, 0, 0, 0, 0, 0, 0, 0, 0, 0, 0, 0, 0, 0, 0, 0] _ (by kernel_rfl) (AHeap.le_refl _) ?_
        by_cases k9 : k2 = 9
        · by_cases e0 : ed = 0
          · subst e0
            rw [if_pos k9] at hef
            have hE := he rfl
            rw [hef] at hE
            obtain ⟨y1, y2⟩ := elseF_at (p := P) (lp := lp) rest _ q ks hrat hr hokr hE
            have em : midR t rest (i + 1 + kids.size) ⟨0, v⟩ h s0 = runF t ks (q + 1) none h s0 := by
              unfold midR; rw [if_pos rfl, hE]
            rw [em] at hmg hmgl ⊢
            simp +contextual -dsimp -implicitDefEqProofs (maxSteps := 5000000) only [go_sem, reduceIte, reduceCtorEq, Nat.reduceEqDiff, Nat.reduceBEq, Nat.reduceAdd, Nat.reduceLeDiff, Nat.reduceMul, Nat.reduceLT, Int.reduceEq, Int.reduceLT, Int.reduceLE, rEn, t0, t1, t2, t6, t7, t8, t9, z1, z2, z4, z5, d1, d2, en_ed, en_val, toI_len, toI_at, toI_cons_at, List.length_cons, hx', hx2, hh2.1, hh2.2, k9]
            refine (body ⟨0, v⟩ q 9 ks h y1 (by omega)).mono ?_
            rintro _ Hy ⟨rfl, H6, rfl, g1, g2, g3⟩
            generalize runF t ks (q + 1) none h s0 = r8 at hmg hmgl g1 ⊢
            simp +contextual -dsimp -implicitDefEqProofs (maxSteps := 5000000) only [go_sem, reduceIte, reduceCtorEq, Nat.reduceEqDiff, Nat.reduceBEq, Nat.reduceAdd, Nat.reduceLeDiff, Nat.reduceMul, Nat.reduceLT, Int.reduceEq, Int.reduceLT, Int.reduceLE, rEn, t0, t1, t2, t6, t7, t8, t9, z1, z2, z4, z5, d1, d2, en_ed, en_val]
            refine (fin r8.1 r8.2 H6 hmg.ok (by omega) hmg.val (fun q ks hq => by have := hml q ks hq; omega) g1 g2 g3).mono ?_
            rintro _ H' ⟨rfl, H5, rfl, w1, w2, w3⟩
            simp +contextual -dsimp -implicitDefEqProofs (maxSteps := 5000000) only [go_sem, reduceIte, reduceCtorEq, Nat.reduceEqDiff, Nat.reduceBEq, Nat.reduceAdd, Nat.reduceLeDiff, Nat.reduceMul, Nat.reduceLT, Int.reduceEq, Int.reduceLT, Int.reduceLE, rEn, t0, t1, t2, t6, t7, t8, t9, z1, z2, z4, z5, d1, d2, en_ed, en_val]
            refine retR_less (l := [.agg (rEn (finR t rest (i + 1 + kids.size) r8.1 h r8.2).1)]) (H' := H5) ?_ (le_s1 (le_s1 (AHeap.le_refl _) w2) w3) ⟨rfl, w1⟩
            simp only [resA, go_sem, reduceIte, reduceCtorEq, Nat.reduceEqDiff, Nat.reduceBEq, Nat.reduceAdd, Nat.reduceLeDiff, Nat.reduceMul, Nat.reduceLT, Int.reduceEq, Int.reduceLT, Int.reduceLE, rEn, d1, d2, t6]
          · simp +contextual -dsimp -implicitDefEqProofs (maxSteps := 5000000) only [go_sem, reduceIte, reduceCtorEq, Nat.reduceEqDiff, Nat.reduceBEq, Nat.reduceAdd, Nat.reduceLeDiff, Nat.reduceMul, Nat.reduceLT, Int.reduceEq, Int.reduceLT, Int.reduceLE, rEn, t0, t1, t2, t6, t7, t8, t9, z1, z2, z4, z5, d1, d2, en_ed, en_val, toI_len, toI_at, toI_cons_at, List.length_cons, hx', hx2, hh2.1, hh2.2, k9, e0]
            exact ⟨re.size, szl 9, re, q + 1 + ks.size, x + 1, rfl, hgat.rest, by omega, hx3, hx1, I_wrap (by omega) (by omega) (by omega)⟩
        · rw [if_neg k9] at hef
          simp +contextual -dsimp -implicitDefEqProofs (maxSteps := 5000000) only [go_sem, reduceIte, reduceCtorEq, Nat.reduceEqDiff, Nat.reduceBEq, Nat.reduceAdd, Nat.reduceLeDiff, Nat.reduceMul, Nat.reduceLT, Int.reduceEq, Int.reduceLT, Int.reduceLE, rEn, t0, t1, t2, t6, t7, t8, t9, z1, z2, z4, z5, d1, d2, en_ed, en_val, toI_len, toI_at, toI_cons_at, List.length_cons, hx', hx2, hh2.1, hh2.2, k9]
          exact ⟨re.size, szl k2, re, q + 1 + ks.size, x + 1, rfl, hgat.rest, by omega, hx3, hx1, fun e0 => by rw [he e0]; exact hef, I_wrap (by omega) (by omega) (by omega)⟩
end
end
end Go.Proofs.YtckipeopgimenaaGreat
