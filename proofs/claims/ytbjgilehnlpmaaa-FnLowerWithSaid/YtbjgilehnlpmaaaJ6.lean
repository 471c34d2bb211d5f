/- The law LowerWith answers true at every input: what is opened can be closed by a try. No condition. -/
import Derived.Test.YtbjgilehnlpmaaaJ5
import Derived.Test.YtbjgilehnlpmaaaJ2
section
set_option linter.unusedVariables false
set_option linter.unusedSimpArgs false
namespace Go.Proofs.Ytbjgilehnlpmaaa
open Go Go.Sim
set_option maxRecDepth 100000
attribute [local go_sem ↓] aw_skip aw_ret aw_exit aw_region aw_draw aw_seq aw_block aw_loop aw_cond frz_nil frz_cons sq_normal sq_ret sq_exit exB_normal exB_ret exB_same exB_other retQ_ret retQ_normal ret0_ret ret0_normal ao_nil go1 g_move g_assign g_pick g_build g_load g_binOp g_unOp g_convert g_fieldAddr g_field g_indexAddr g_index g_extract g_slice g_nilCheck g_len g_makeFunc h_call h_append h_alloc h_box h_buildSlice h_makeSlice h_store gV i_box i_buildSlice i_move i_assign i_build i_load i_binOp i_unOp i_convert i_fieldAddr i_field i_indexAddr i_index i_extract i_slice i_nilCheck i_makeFunc i_len i_max i_min i_alloc i_makeSlice i_store i_append i_call i_pick boxI boxA buildSliceI buildSliceA makeSliceA allocA storeA p_move p_assign p_pick p_build p_load p_binOp p_unOp p_convert p_fieldAddr p_field p_indexAddr p_index p_extract p_slice p_nilCheck p_makeFunc p_len p_max p_min p_alloc p_box p_buildSlice p_makeSlice p_store p_append p_call x_nil x_go1 x_g0 x_g1 x_g2 x_g3 x_s0 x_s1 x_s2 x_s3 u_move u_assign u_pick u_build u_load u_binOp u_unOp u_convert u_fieldAddr u_field u_indexAddr u_index u_extract u_slice u_nilCheck u_makeFunc u_len u_buildSlice x_s4 x_g4 rq_normal rq_ret rq_exit aw_range
attribute [local go_sem] frzV_sl frzK_some set_none set_other AHeap.set_self set_del set_set cnd_t cnd_f cnd_b retA_one retA_two retA_three retA_four retA_nil gIf_b mrgV_b mrgV_wh mrgV_U gIf_U gIf_wh mrgB_f mrgB_some mrgB_if wh_true wh_false keepA_some keepA_if gD_zero gD_succ gT_some bxA_t bxA_f callA_fn ev_tmp ev_const ev_global ev_func oc_bool oc_int oc_string oc_nil oc_nilptr oc_nilfunc cl_bool cl_int cl_string cl_nil updO_some updO_none upd_same upd_other init_at pickA_b pickA_wh selA_t selA_f selA_and selA_or selA_orn selA_orm selA_bb selA_ii beqt b_add b_sub b_mul b_and b_or b_xor b_eql b_neq b_lss b_leq b_gtr b_geq b_quo b_rem b_shr b_seql b_sneq b_sadd b_beql b_bneq b_aeql b_aneq u_not u_neg isConstOp eqA eqCellV List.getD_cons_zero List.getD_cons_succ List.map_cons List.map_nil List.nil_append List.cons_append List.append_nil if_true if_false Option.map_some Option.map_none ne_eq not_false_eq_true oneA ldv ld1v ld1s wr1s ldRow stRow row_lit row_agg row_vsl row_sl row_ptr row_fn one_I one_B one_S one_vsl one_sl one_ptr one_fn extractA okA rI rS rU rClass rFault rExit rStart rLine Int.toNat_natCast List.length_cons List.length_nil List.length_map List.all_cons List.all_nil Bool.and_true Nat.zero_add List.getElem?_cons_zero List.getElem?_cons_succ List.take_succ_cons List.take_zero List.drop_succ_cons List.drop_zero and_self true_and and_true implies_true decide_eq_true_eq decide_eq_false_iff_not Bool.or_eq_true Bool.or_eq_false_iff Bool.and_eq_true Bool.not_eq_true' Bool.not_eq_false' beq_false decide_true decide_false Int.ofNat_lt Int.ofNat_le Int.natCast_nonneg Bool.or_true Bool.or_false Bool.true_or Bool.false_or beq_self_eq_true List.drop_one Bool.not_true Bool.not_false Bool.not_not Bool.false_eq_true Bool.true_eq_false false_implies true_implies Bool.true_and Bool.false_and Bool.and_false not_true_eq_false Int.natCast_eq_zero Int.natCast_pos Int.natCast_zero false_and and_false or_false false_or or_true true_or Bool.or_self none_le_iff List.replicate_zero Int.toNat_zero List.replicate_succ buildRows List.set_cons_zero List.set_cons_succ List.set_nil List.mapM_nil maxLen_eq Nat.zero_le Nat.mul_one Nat.one_mul bldA fillA spliceA List.take_nil List.drop_nil List.getElem?_nil ld1o wr1o bldSliceA le_same cv_i cvI_t quietT_fn qvd_some ld_o ldO_1 ldO_l wr_o wrO_1 set_2 set_3 set_4 putL_nil putL_cons List.zip_cons_cons List.zip_nil_left List.zip_nil_right List.toList_toArray frzV_set ti1 ti2 tk2 ti3 te3 ts3 tk3 tz3 ti4 tb4 ti5 tk5 tz5 ti9 te9 ts9 tk9 tz9 ti12 tk12 ti13 tp13 tf13_0 tf13_1 ti20 ti21 tk21 tz21 ti22 te22 ti23 tp23 tf23_0 ti24 tp24 tf24_0 ti25 te25 ti27 ti28 ti29 te29 ti30 te30 ti31 tp31 tf31_0 ti32 tp32 tf32_0 ti33 tp33 tf33_0 tf33_1 tf33_2 tf33_3 ti34 tp34 tf34_0 tf34_1 tf34_2 tf34_3 ti35 ti36 tq36 tp36 tf36_0 tf36_1 tf36_2 tf36_3 ti37 tq37 tp37 tf37_0 tf37_1 tf37_2 tf37_3 ti38 ti39 ti40 ti41 ti42 ti43 ti44 te44 tz44 ti46 ti47 ti48 ti49 ti50 ti51 ti52 tq52 tp52 tf52_0 tf52_1 ti53 tq53 tp53 tf53_0 tf53_1 ti54 ti55 tq55 tp55 tf55_0 tf55_1 tf55_2 tf55_3 tf55_4 ti56 tq56 tp56 tf56_0 tf56_1 tf56_2 tf56_3 tf56_4 ti57 ti58 ti59 ti60 ti61 ti62 ti63 ti64 ti65 ti66 ti67 ti68 ti69 ti70 tp70 tf70_0 tf70_1 tf70_2 tf70_3 tf70_4 ti71 tp71 tf71_0 tf71_1 tf71_2 tf71_3 tf71_4 ti73 ti74 ti75 ti76 ti77 ti78 ti79 ti80 tq80 tp80 tf80_0 tf80_1 ti81 tq81 tp81 tf81_0 tf81_1 ti82 ti83 ti84 ti85 ti86 ti87 ti88 ti89 ti90 tp90 tf90_0 tf90_1 ti91 tp91 tf91_0 tf91_1 ti92 ti93 ti94 ti95 ti96 ti97 ti98 ti99 ti100 ti101 ti102 ti103 te103 ti104 ti105 ti106 ti107 ti108 ti109 ti110 ti111 ti112 tk112 tz112 ti113 ti114 ti115 tk115 ti117 ti118 ti119 ti121 ti122 ti123 tk123 tz123 ti124 ti125 tk125 tz125 ti126 ti127 tk127 ti128 ti129 ti130 ti131 ti132 ti133 ti135 ti136 ti142 ti146 fp13_0 fv13_0 fp13_1 fv13_1 fp23_0 fv23_0 fp24_0 fv24_0 fp31_0 fv31_0 fp32_0 fv32_0 fp33_0 fv33_0 fp33_1 fv33_1 fp33_2 fv33_2 fp33_3 fv33_3 fp34_0 fv34_0 fp34_1 fv34_1 fp34_2 fv34_2 fp34_3 fv34_3 fp36_0 fv36_0 fp36_1 fv36_1 fp36_2 fv36_2 fp36_3 fv36_3 fp37_0 fv37_0 fp37_1 fv37_1 fp37_2 fv37_2 fp37_3 fv37_3 fp52_0 fv52_0 fp52_1 fv52_1 fp53_0 fv53_0 fp53_1 fv53_1 fp55_0 fv55_0 fp55_1 fv55_1 fp55_2 fv55_2 fp55_3 fv55_3 fp55_4 fv55_4 fp56_0 fv56_0 fp56_1 fv56_1 fp56_2 fv56_2 fp56_3 fv56_3 fp56_4 fv56_4 fp70_0 fv70_0 fp70_1 fv70_1 fp70_2 fv70_2 fp70_3 fv70_3 fp70_4 fv70_4 fp71_0 fv71_0 fp71_1 fv71_1 fp71_2 fv71_2 fp71_3 fv71_3 fp71_4 fv71_4 fp80_0 fv80_0 fp80_1 fv80_1 fp81_0 fv81_0 fp81_1 fv81_1 fp90_0 fv90_0 fp90_1 fv90_1 fp91_0 fv91_0 fp91_1 fv91_1 lv22 ll22 is22 ix22 sh22 so22 sb22 sm22 sp22 lv25 ll25 is25 ix25 sh25 so25 sb25 sm25 sp25 lv29 ll29 is29 ix29 sh29 so29 sb29 sm29 sp29 lv30 ll30 is30 ix30 sh30 so30 sb30 sm30 sp30 lv44 ll44 is44 ix44 sh44 so44 sb44 sm44 sp44 lv103 ll103 is103 ix103 sh103 so103 sb103 sm103 sp103 xs9 ls9 sx9 sy9 sz9
set_option maxHeartbeats 4000000

/-- A function that draws lines into a block of their own. -/
def Drawn (f : FuncId) (p : Nat) (d : Int) : Prop := ∀ (F : AHeap) (br n : Nat) (K : ABlk) (t : List Class) (cl : Bool) (lp : Bool), RdK n K → F br = none → n + p < 600000000 →
  ACalls Try.prog f [.ptr br 2 0 0, aTree t cl, I d, B lp] (F.set br K) fun r H' => ∃ (l : List Line) (G : AHeap) (K' : ABlk), Grow rLine 4 37 F G r l ∧ G br = none ∧ H' = G.set br K' ∧ RdK (n + p) K' ∧ 1 ≤ l.length ∧ l.length ≤ p
/-- The same, told when nobody writes them any more. -/
def DrawnF (f : FuncId) (p : Nat) (d : Int) : Prop := ∀ (F : AHeap) (br n : Nat) (K : ABlk) (t : List Class) (cl : Bool) (lp : Bool), RdK n K → F br = none → n + p < 600000000 →
  ACalls Try.prog f [.ptr br 2 0 0, aTree t cl, I d, B lp] (F.set br K) fun r H' => ∃ (l : List Line) (cl' : Bool) (K' : ABlk), r = .vsl (l.map rLine) cl' ∧ H' = F.set br K' ∧ RdK (n + p) K' ∧ 1 ≤ l.length ∧ l.length ≤ p
theorem Drawn.frz {f : FuncId} {p : Nat} {d : Int} (h : Drawn f p d) : DrawnF f p d := by
  intro F br n K t cl lp hK hF hn
  refine acalls_fz (h F br n K t cl lp hK hF hn) ?_
  rintro x _ ⟨l, G, K', hg, hr, rfl, hK', h1, h2⟩
  have hg' := grow_in (K := K') hg hr
  obtain ⟨cl', hz⟩ := grow_fz hg'
  exact ⟨_, F.set br K', grow_le hg', hz, l, cl', K', rfl, rfl, hK', h1, h2⟩
/-- Lines put behind a line that stands alone. -/
theorem app_lit {H : AHeap} {y : Line} {l : List Line} {cl : Bool} {d : AV} {K : AV → AHeap → Prop} {g : Tag (H, K)} (hd : d = .vsl [rLine y] true) (hl : 1 ≤ l.length) (hb : l.length ≤ 1000000) (k : ∀ x' H', Grow rLine 4 37 H H' x' (y :: l) → K x' H') : appT Try.prog H 25 d (.vsl (l.map rLine) cl) K g := by
  subst hd
  show appendA Try.prog H 25 (.vsl [rLine y] true) (.vsl (l.map rLine) cl) K
  have hmax : maxLen = 9223372036854775807 := rfl
  unfold appendA
  simp only [te25, ti37, rowsOf]
  refine ⟨by decide, fun r hr => by simp at hr; obtain ⟨y, _, rfl⟩ := hr; rfl, fun r hr => by simp at hr; subst hr; rfl, by simp; omega, by simp; omega, fun e => ?_, fun e => ⟨trivial, fun b' hb' => ?_⟩⟩
  · have : l = [] := by simpa using e
    rw [this] at hl; simp at hl
  · refine k _ _ (.inr ⟨b', false, hb', by simp [Nat.add_comm], by simp⟩)
theorem c_aBlock {d : Int} {p : Nat} (hp : p ≤ 300000) (hS : DrawnF 93 p d) : Drawn 85 (1 + 3 * p) d := by
  intro F br n K t cl lp hK hF hn
  refine acalls_of1 Try.func85 rfl (by kernel_rfl) rfl rfl (awp_sound (fz := fun _ => []) (im := fun s => s == 5 || s == 11 || s == 13) mixed _ _ _ _ (by kernel_rfl) ?_)
  simp +contextual -dsimp -implicitDefEqProofs (maxSteps := 5000000) only [go_sem, reduceIte, reduceCtorEq, Nat.reduceEqDiff, Nat.reduceBEq, Nat.reduceAdd, Nat.reduceLeDiff, Nat.reduceMul, Nat.reduceLT, Int.reduceEq, Int.reduceLT, Int.reduceLE]
  refine k_one [1, 2, 1, 2, 3] _ hK hF (by omega) (by simp) rfl rfl fun v K1 hv hK1 => ?_
  have hv3 : 1 ≤ v ∧ v ≤ 3 := by simp at hv; omega
  simp +contextual -dsimp -implicitDefEqProofs (maxSteps := 5000000) only [go_sem, reduceIte, reduceCtorEq, Nat.reduceEqDiff, Nat.reduceBEq, Nat.reduceAdd, Nat.reduceLeDiff, Nat.reduceMul, Nat.reduceLT, Int.reduceEq, Int.reduceLT, Int.reduceLE]
  refine aloop mixed (fz := fun _ => []) (im := fun s => s == 5 || s == 11 || s == 13) (by kernel_rfl) (fun m tm H' => ∃ (l : List Line) (G : AHeap) (x : AV) (K : ABlk) (i : Nat), m = (v - i).toNat ∧ i ≤ v ∧ Grow rLine 4 37 F G x l ∧ G br = none ∧ RdK (n + 1 + i * p) K ∧ i ≤ l.length ∧ l.length ≤ i * p ∧ H' = G.set br K ∧ tm 0 = .ptr br 2 0 0 ∧ tm 5 = .vptr [[.vsl (t.map rClass) cl]] 0 0 ∧ tm 2 = I d ∧ tm 3 = B lp ∧ tm 9 = x ∧ tm 10 = I (v - i)) v.toNat ⟨[], F, .vsl [] true, K1, 0, by simp, by omega, grow_nil, hF, by simpa using hK1, by simp, by simp, rfl, ?_⟩ ?_
  · simp +contextual -dsimp -implicitDefEqProofs (maxSteps := 5000000) only [go_sem, reduceIte, reduceCtorEq, Nat.reduceEqDiff, Nat.reduceBEq, Nat.reduceAdd, Nat.reduceLeDiff, Nat.reduceMul, Nat.reduceLT, Int.reduceEq, Int.reduceLT, Int.reduceLE]
    simp
  · rintro m tm H' ⟨l, G, x, K, i, rfl, hiv, hg, fr, hK, hl1, hl2, rfl, t0, t5, t2, t3, t9, t10⟩
    have hm3 : i * p ≤ 3 * p := Nat.mul_le_mul_right p (by omega)
    have hs : (i + 1) * p = i * p + p := Nat.succ_mul i p
    by_cases hlt : (0 : Int) < v - i
    · simp +contextual -dsimp -implicitDefEqProofs (maxSteps := 5000000) only [go_sem, reduceIte, reduceCtorEq, Nat.reduceEqDiff, Nat.reduceBEq, Nat.reduceAdd, Nat.reduceLeDiff, Nat.reduceMul, Nat.reduceLT, Int.reduceEq, Int.reduceLT, Int.reduceLE, t0, t2, t3, t5, t9, t10, hlt]
      have hm4 : (i + 1) * p ≤ 3 * p := Nat.mul_le_mul_right p (by omega)
      refine (hS G br _ K t cl lp hK fr (by omega)).mono ?_
      rintro _ H' ⟨l2, cl2, K2, rfl, rfl, hK2, h1, h2⟩
      simp +contextual -dsimp -implicitDefEqProofs (maxSteps := 5000000) only [go_sem, reduceIte, reduceCtorEq, Nat.reduceEqDiff, Nat.reduceBEq, Nat.reduceAdd, Nat.reduceLeDiff, Nat.reduceMul, Nat.reduceLT, Int.reduceEq, Int.reduceLT, Int.reduceLE, t0, t2, t3, t5, t9, t10, hlt]
      refine app_lines (m := l2) (grow_in hg fr) (by omega) rfl fun x' H' hg' => ?_
      obtain ⟨G1, hg1, rfl, u1⟩ := grow_out hg' (grow_none hg fr)
      simp +contextual -dsimp -implicitDefEqProofs (maxSteps := 5000000) only [go_sem, reduceIte, reduceCtorEq, Nat.reduceEqDiff, Nat.reduceBEq, Nat.reduceAdd, Nat.reduceLeDiff, Nat.reduceMul, Nat.reduceLT, Int.reduceEq, Int.reduceLT, Int.reduceLE, t0, t2, t3, t5, t9, t10, hlt]
      exact ⟨_, by omega, l ++ l2, G1, x', K2, i + 1, rfl, by omega, hg1, u1, rdk_mono hK2 (by omega), by simp; omega, by simp; omega, rfl, rfl, I_wrap (by omega) (by omega) (by omega)⟩
    · simp +contextual -dsimp -implicitDefEqProofs (maxSteps := 5000000) only [go_sem, reduceIte, reduceCtorEq, Nat.reduceEqDiff, Nat.reduceBEq, Nat.reduceAdd, Nat.reduceLeDiff, Nat.reduceMul, Nat.reduceLT, Int.reduceEq, Int.reduceLT, Int.reduceLE, t0, t2, t3, t5, t9, t10, hlt]
      have hi1 : 1 ≤ i := by omega
      refine retR_less (l := [x]) (H' := G.set br K) ?_ (AHeap.le_refl _) ⟨l, G, K, hg, fr, rfl, rdk_mono hK (by omega), by omega, by omega⟩
      simp only [resA, go_sem, reduceIte, reduceCtorEq, Nat.reduceEqDiff, Nat.reduceBEq, Nat.reduceAdd, Nat.reduceLeDiff, Nat.reduceMul, Nat.reduceLT, Int.reduceEq, Int.reduceLT, Int.reduceLE]
theorem c_aTry {d : Int} {p : Nat} (hd : 0 ≤ d ∧ d ≤ 10) (hp : p ≤ 100000) (hB : DrawnF 85 p (d + 1)) : Drawn 84 (10 + 5 * p) d := by
  intro F br n K t cl lp hK hF hn
  have hwd : IntKind.i64.wrap (d + 1) = d + 1 := w64 (by omega) (by omega)
  refine acalls_of1 Try.func84 rfl (by kernel_rfl) rfl rfl (awp_sound (fz := fun _ => []) (im := fun s => s == 5 || s == 14 || s == 23 || s == 38 || s == 41 || s == 61 || s == 81) mixed _ _ _ _ (by kernel_rfl) ?_)
  simp +contextual -dsimp -implicitDefEqProofs (maxSteps := 5000000) only [go_sem, reduceIte, reduceCtorEq, Nat.reduceEqDiff, Nat.reduceBEq, Nat.reduceAdd, Nat.reduceLeDiff, Nat.reduceMul, Nat.reduceLT, Int.reduceEq, Int.reduceLT, Int.reduceLE, hwd]
  refine (hB F br _ K t cl lp hK hF (by omega)).mono ?_
  rintro _ H' ⟨l0, cl0, K0, rfl, rfl, hK0, h1, h2⟩
  simp +contextual -dsimp -implicitDefEqProofs (maxSteps := 5000000) only [go_sem, reduceIte, reduceCtorEq, Nat.reduceEqDiff, Nat.reduceBEq, Nat.reduceAdd, Nat.reduceLeDiff, Nat.reduceMul, Nat.reduceLT, Int.reduceEq, Int.reduceLT, Int.reduceLE]
  refine app_lit (y := ⟨d, 7, 0, 0⟩) rfl h1 (by omega) fun x H' hg => ?_
  obtain ⟨G, hg0, rfl, u0⟩ := grow_out hg hF
  simp +contextual -dsimp -implicitDefEqProofs (maxSteps := 5000000) only [go_sem, reduceIte, reduceCtorEq, Nat.reduceEqDiff, Nat.reduceBEq, Nat.reduceAdd, Nat.reduceLeDiff, Nat.reduceMul, Nat.reduceLT, Int.reduceEq, Int.reduceLT, Int.reduceLE]
  refine k_one [1, 2, 0, 1] _ hK0 u0 (by omega) (by simp) rfl rfl fun v K1 hv hK1 => ?_
  have hv2 : 0 ≤ v ∧ v ≤ 2 := by simp at hv; omega
  simp +contextual -dsimp -implicitDefEqProofs (maxSteps := 5000000) only [go_sem, reduceIte, reduceCtorEq, Nat.reduceEqDiff, Nat.reduceBEq, Nat.reduceAdd, Nat.reduceLeDiff, Nat.reduceMul, Nat.reduceLT, Int.reduceEq, Int.reduceLT, Int.reduceLE]
  refine aloop mixed (fz := fun _ => []) (im := fun s => s == 5 || s == 14 || s == 23 || s == 38 || s == 41 || s == 61 || s == 81) (by kernel_rfl) (fun m tm H' => ∃ (l : List Line) (G : AHeap) (x : AV) (K : ABlk) (i : Nat), m = (v - i).toNat ∧ i ≤ v ∧ Grow rLine 4 37 F G x l ∧ G br = none ∧ RdK (n + p + 1 + i * (p + 2)) K ∧ 1 ≤ l.length ∧ l.length ≤ 1 + p + i * (p + 2) ∧ H' = G.set br K ∧ tm 0 = .ptr br 2 0 0 ∧ tm 5 = .vptr [[.vsl (t.map rClass) cl]] 0 0 ∧ tm 2 = I d ∧ tm 3 = B lp ∧ tm 9 = x ∧ tm 10 = I v ∧ tm 11 = I (v - i)) v.toNat ⟨_, G, x, K1, 0, by simp, by omega, hg0, u0, by simpa using hK1, by simp, by simp; omega, rfl, ?_⟩ ?_
  · simp +contextual -dsimp -implicitDefEqProofs (maxSteps := 5000000) only [go_sem, reduceIte, reduceCtorEq, Nat.reduceEqDiff, Nat.reduceBEq, Nat.reduceAdd, Nat.reduceLeDiff, Nat.reduceMul, Nat.reduceLT, Int.reduceEq, Int.reduceLT, Int.reduceLE]
    simp
  · rintro m tm H' ⟨l, G, x, K, i, rfl, hiv, hg, fr, hK, hl1, hl2, rfl, t0, t5, t2, t3, t9, t10, t11⟩
    have hi2 : i * (p + 2) ≤ 2 * (p + 2) := Nat.mul_le_mul_right (p + 2) (by omega)
    have hs : (i + 1) * (p + 2) = i * (p + 2) + (p + 2) := Nat.succ_mul i (p + 2)
    by_cases hlt : (0 : Int) < v - i
    · have hi3 : (i + 1) * (p + 2) ≤ 2 * (p + 2) := Nat.mul_le_mul_right (p + 2) (by omega)
      simp +contextual -dsimp -implicitDefEqProofs (maxSteps := 5000000) only [go_sem, reduceIte, reduceCtorEq, Nat.reduceEqDiff, Nat.reduceBEq, Nat.reduceAdd, Nat.reduceLeDiff, Nat.reduceMul, Nat.reduceLT, Int.reduceEq, Int.reduceLT, Int.reduceLE, t0, t2, t3, t5, t9, t10, t11, hlt, hwd]
      refine k_pick t.length hK fr (by omega) rfl fun a K2 _ _ _ hK2 => ?_
      simp +contextual -dsimp -implicitDefEqProofs (maxSteps := 5000000) only [go_sem, reduceIte, reduceCtorEq, Nat.reduceEqDiff, Nat.reduceBEq, Nat.reduceAdd, Nat.reduceLeDiff, Nat.reduceMul, Nat.reduceLT, Int.reduceEq, Int.reduceLT, Int.reduceLE, t0, t2, t3, t5, t9, t10, t11, hlt, hwd]
      refine k_one [a, 0] _ hK2 fr (by omega) (by simp) rfl rfl fun a K3 _ hK3 => ?_
      simp +contextual -dsimp -implicitDefEqProofs (maxSteps := 5000000) only [go_sem, reduceIte, reduceCtorEq, Nat.reduceEqDiff, Nat.reduceBEq, Nat.reduceAdd, Nat.reduceLeDiff, Nat.reduceMul, Nat.reduceLT, Int.reduceEq, Int.reduceLT, Int.reduceLE, t0, t2, t3, t5, t9, t10, t11, hlt, hwd]
      refine app_lines (m := [⟨d, 8, a, 0⟩]) (grow_in hg fr) (by simp; omega) rfl fun x' H' hg' => ?_
      obtain ⟨G1, hg1, rfl, u1⟩ := grow_out hg' (grow_none hg fr)
      simp +contextual -dsimp -implicitDefEqProofs (maxSteps := 5000000) only [go_sem, reduceIte, reduceCtorEq, Nat.reduceEqDiff, Nat.reduceBEq, Nat.reduceAdd, Nat.reduceLeDiff, Nat.reduceMul, Nat.reduceLT, Int.reduceEq, Int.reduceLT, Int.reduceLE, t0, t2, t3, t5, t9, t10, t11, hlt, hwd]
      refine (hB G1 br _ K3 t cl lp hK3 u1 (by omega)).mono ?_
      rintro _ H' ⟨l2, cl2, K4, rfl, rfl, hK4, h3, h4⟩
      simp +contextual -dsimp -implicitDefEqProofs (maxSteps := 5000000) only [go_sem, reduceIte, reduceCtorEq, Nat.reduceEqDiff, Nat.reduceBEq, Nat.reduceAdd, Nat.reduceLeDiff, Nat.reduceMul, Nat.reduceLT, Int.reduceEq, Int.reduceLT, Int.reduceLE, t0, t2, t3, t5, t9, t10, t11, hlt, hwd]
      refine app_lines (m := l2) (grow_in hg1 u1) (by simp; omega) rfl fun x' H' hg' => ?_
      obtain ⟨G2, hg2, rfl, u2⟩ := grow_out hg' (grow_none hg1 u1)
      simp +contextual -dsimp -implicitDefEqProofs (maxSteps := 5000000) only [go_sem, reduceIte, reduceCtorEq, Nat.reduceEqDiff, Nat.reduceBEq, Nat.reduceAdd, Nat.reduceLeDiff, Nat.reduceMul, Nat.reduceLT, Int.reduceEq, Int.reduceLT, Int.reduceLE, t0, t2, t3, t5, t9, t10, t11, hlt, hwd]
      exact ⟨_, by omega, _, G2, x', K4, i + 1, rfl, by omega, hg2, u2, rdk_mono hK4 (by omega), by simp; omega, by simp; omega, rfl, rfl, I_wrap (by omega) (by omega) (by omega)⟩
    · simp +contextual -dsimp -implicitDefEqProofs (maxSteps := 5000000) only [go_sem, reduceIte, reduceCtorEq, Nat.reduceEqDiff, Nat.reduceBEq, Nat.reduceAdd, Nat.reduceLeDiff, Nat.reduceMul, Nat.reduceLT, Int.reduceEq, Int.reduceLT, Int.reduceLE, t0, t2, t3, t5, t9, t10, t11, hlt, hwd]
      refine ⟨fun v1 => ?_, fun v1 => ⟨fun v0 => absurd v1 (by omega), fun v0 => ?_⟩⟩
      · have v0 : ¬ v = 0 := by omega
        refine k_pick 3 hK fr (by omega) rfl fun a K2 _ _ _ hK2 => ?_
        simp +contextual -dsimp -implicitDefEqProofs (maxSteps := 5000000) only [go_sem, reduceIte, reduceCtorEq, Nat.reduceEqDiff, Nat.reduceBEq, Nat.reduceAdd, Nat.reduceLeDiff, Nat.reduceMul, Nat.reduceLT, Int.reduceEq, Int.reduceLT, Int.reduceLE, t0, t2, t3, t5, t9, t10, t11, hlt, hwd, v0, v1]
        refine ⟨fun _ => ?_, fun _ => ?_⟩
        · refine app_lines (m := [⟨d, 9, 0, 0⟩]) (grow_in hg fr) (by simp; omega) rfl fun x' H' hg' => ?_
          obtain ⟨G1, hg1, rfl, u1⟩ := grow_out hg' (grow_none hg fr)
          simp +contextual -dsimp -implicitDefEqProofs (maxSteps := 5000000) only [go_sem, reduceIte, reduceCtorEq, Nat.reduceEqDiff, Nat.reduceBEq, Nat.reduceAdd, Nat.reduceLeDiff, Nat.reduceMul, Nat.reduceLT, Int.reduceEq, Int.reduceLT, Int.reduceLE, t0, t2, t3, t5, t9, t10, t11, hlt, hwd, v0, v1]
          refine (hB G1 br _ _ t cl lp hK2 u1 (by omega)).mono ?_
          rintro _ H' ⟨l2, cl2, K4, rfl, rfl, hK4, h3, h4⟩
          simp +contextual -dsimp -implicitDefEqProofs (maxSteps := 5000000) only [go_sem, reduceIte, reduceCtorEq, Nat.reduceEqDiff, Nat.reduceBEq, Nat.reduceAdd, Nat.reduceLeDiff, Nat.reduceMul, Nat.reduceLT, Int.reduceEq, Int.reduceLT, Int.reduceLE, t0, t2, t3, t5, t9, t10, t11, hlt, hwd, v0, v1]
          refine app_lines (m := l2) (grow_in hg1 u1) (by simp; omega) rfl fun x2 H' hg' => ?_
          obtain ⟨G2, hg2, rfl, u2⟩ := grow_out hg' (grow_none hg1 u1)
          simp +contextual -dsimp -implicitDefEqProofs (maxSteps := 5000000) only [go_sem, reduceIte, reduceCtorEq, Nat.reduceEqDiff, Nat.reduceBEq, Nat.reduceAdd, Nat.reduceLeDiff, Nat.reduceMul, Nat.reduceLT, Int.reduceEq, Int.reduceLT, Int.reduceLE, t0, t2, t3, t5, t9, t10, t11, hlt, hwd, v0, v1]
          refine k_pick 2 hK4 u2 (by omega) rfl fun b K7 _ _ _ hK7 => ?_
          simp +contextual -dsimp -implicitDefEqProofs (maxSteps := 5000000) only [go_sem, reduceIte, reduceCtorEq, Nat.reduceEqDiff, Nat.reduceBEq, Nat.reduceAdd, Nat.reduceLeDiff, Nat.reduceMul, Nat.reduceLT, Int.reduceEq, Int.reduceLT, Int.reduceLE, t0, t2, t3, t5, t9, t10, t11, hlt, hwd, v0, v1]
          refine ⟨fun _ => ?_, fun _ => ?_⟩
          · skip
            refine app_lines (m := [⟨d, 10, 0, 0⟩]) (grow_in hg2 u2) (by simp; omega) rfl fun x' H' hg' => ?_
            obtain ⟨G8, hg8, rfl, u8⟩ := grow_out hg' (grow_none hg2 u2)
            simp +contextual -dsimp -implicitDefEqProofs (maxSteps := 5000000) only [go_sem, reduceIte, reduceCtorEq, Nat.reduceEqDiff, Nat.reduceBEq, Nat.reduceAdd, Nat.reduceLeDiff, Nat.reduceMul, Nat.reduceLT, Int.reduceEq, Int.reduceLT, Int.reduceLE, t0, t2, t3, t5, t9, t10, t11, hlt, hwd, v0, v1]
            refine (hB G8 br _ _ t cl lp hK7 u8 (by omega)).mono ?_
            rintro _ H' ⟨l8, cl8, K8, rfl, rfl, hK8, h8, h9⟩
            simp +contextual -dsimp -implicitDefEqProofs (maxSteps := 5000000) only [go_sem, reduceIte, reduceCtorEq, Nat.reduceEqDiff, Nat.reduceBEq, Nat.reduceAdd, Nat.reduceLeDiff, Nat.reduceMul, Nat.reduceLT, Int.reduceEq, Int.reduceLT, Int.reduceLE, t0, t2, t3, t5, t9, t10, t11, hlt, hwd, v0, v1]
            refine app_lines (m := l8) (grow_in hg8 u8) (by simp; omega) rfl fun x' H' hg' => ?_
            obtain ⟨G9, hg9, rfl, u9⟩ := grow_out hg' (grow_none hg8 u8)
            simp +contextual -dsimp -implicitDefEqProofs (maxSteps := 5000000) only [go_sem, reduceIte, reduceCtorEq, Nat.reduceEqDiff, Nat.reduceBEq, Nat.reduceAdd, Nat.reduceLeDiff, Nat.reduceMul, Nat.reduceLT, Int.reduceEq, Int.reduceLT, Int.reduceLE, t0, t2, t3, t5, t9, t10, t11, hlt, hwd, v0, v1]
            refine retR_less (l := [x']) (H' := G9.set br K8) ?_ (AHeap.le_refl _) ⟨_, G9, K8, hg9, u9, rfl, rdk_mono hK8 (by omega), by first | omega | (simp; omega), by first | omega | (simp; omega)⟩
            simp only [resA, go_sem, reduceIte, reduceCtorEq, Nat.reduceEqDiff, Nat.reduceBEq, Nat.reduceAdd, Nat.reduceLeDiff, Nat.reduceMul, Nat.reduceLT, Int.reduceEq, Int.reduceLT, Int.reduceLE]
          · refine retR_less (l := [x2]) (H' := AHeap.set _ br K7) ?_ (AHeap.le_refl _) ⟨_, _, K7, hg2, u2, rfl, rdk_mono hK7 (by omega), by first | omega | (simp; omega), by first | omega | (simp; omega)⟩
            simp only [resA, go_sem, reduceIte, reduceCtorEq, Nat.reduceEqDiff, Nat.reduceBEq, Nat.reduceAdd, Nat.reduceLeDiff, Nat.reduceMul, Nat.reduceLT, Int.reduceEq, Int.reduceLT, Int.reduceLE, t9]
        · skip
          refine k_pick 2 hK2 fr (by omega) rfl fun b K7 _ _ _ hK7 => ?_
          simp +contextual -dsimp -implicitDefEqProofs (maxSteps := 5000000) only [go_sem, reduceIte, reduceCtorEq, Nat.reduceEqDiff, Nat.reduceBEq, Nat.reduceAdd, Nat.reduceLeDiff, Nat.reduceMul, Nat.reduceLT, Int.reduceEq, Int.reduceLT, Int.reduceLE, t0, t2, t3, t5, t9, t10, t11, hlt, hwd, v0, v1]
          refine ⟨fun _ => ?_, fun _ => ?_⟩
          · skip
            refine app_lines (m := [⟨d, 10, 0, 0⟩]) (grow_in hg fr) (by simp; omega) rfl fun x' H' hg' => ?_
            obtain ⟨G8, hg8, rfl, u8⟩ := grow_out hg' (grow_none hg fr)
            simp +contextual -dsimp -implicitDefEqProofs (maxSteps := 5000000) only [go_sem, reduceIte, reduceCtorEq, Nat.reduceEqDiff, Nat.reduceBEq, Nat.reduceAdd, Nat.reduceLeDiff, Nat.reduceMul, Nat.reduceLT, Int.reduceEq, Int.reduceLT, Int.reduceLE, t0, t2, t3, t5, t9, t10, t11, hlt, hwd, v0, v1]
            refine (hB G8 br _ _ t cl lp hK7 u8 (by omega)).mono ?_
            rintro _ H' ⟨l8, cl8, K8, rfl, rfl, hK8, h8, h9⟩
            simp +contextual -dsimp -implicitDefEqProofs (maxSteps := 5000000) only [go_sem, reduceIte, reduceCtorEq, Nat.reduceEqDiff, Nat.reduceBEq, Nat.reduceAdd, Nat.reduceLeDiff, Nat.reduceMul, Nat.reduceLT, Int.reduceEq, Int.reduceLT, Int.reduceLE, t0, t2, t3, t5, t9, t10, t11, hlt, hwd, v0, v1]
            refine app_lines (m := l8) (grow_in hg8 u8) (by simp; omega) rfl fun x' H' hg' => ?_
            obtain ⟨G9, hg9, rfl, u9⟩ := grow_out hg' (grow_none hg8 u8)
            simp +contextual -dsimp -implicitDefEqProofs (maxSteps := 5000000) only [go_sem, reduceIte, reduceCtorEq, Nat.reduceEqDiff, Nat.reduceBEq, Nat.reduceAdd, Nat.reduceLeDiff, Nat.reduceMul, Nat.reduceLT, Int.reduceEq, Int.reduceLT, Int.reduceLE, t0, t2, t3, t5, t9, t10, t11, hlt, hwd, v0, v1]
            refine retR_less (l := [x']) (H' := G9.set br K8) ?_ (AHeap.le_refl _) ⟨_, G9, K8, hg9, u9, rfl, rdk_mono hK8 (by omega), by first | omega | (simp; omega), by first | omega | (simp; omega)⟩
            simp only [resA, go_sem, reduceIte, reduceCtorEq, Nat.reduceEqDiff, Nat.reduceBEq, Nat.reduceAdd, Nat.reduceLeDiff, Nat.reduceMul, Nat.reduceLT, Int.reduceEq, Int.reduceLT, Int.reduceLE]
          · refine retR_less (l := [x]) (H' := AHeap.set _ br K7) ?_ (AHeap.le_refl _) ⟨_, _, K7, hg, fr, rfl, rdk_mono hK7 (by omega), by first | omega | (simp; omega), by first | omega | (simp; omega)⟩
            simp only [resA, go_sem, reduceIte, reduceCtorEq, Nat.reduceEqDiff, Nat.reduceBEq, Nat.reduceAdd, Nat.reduceLeDiff, Nat.reduceMul, Nat.reduceLT, Int.reduceEq, Int.reduceLT, Int.reduceLE, t9]
      · skip
        refine app_lines (m := [⟨d, 10, 0, 0⟩]) (grow_in hg fr) (by simp; omega) rfl fun x' H' hg' => ?_
        obtain ⟨G8, hg8, rfl, u8⟩ := grow_out hg' (grow_none hg fr)
        simp +contextual -dsimp -implicitDefEqProofs (maxSteps := 5000000) only [go_sem, reduceIte, reduceCtorEq, Nat.reduceEqDiff, Nat.reduceBEq, Nat.reduceAdd, Nat.reduceLeDiff, Nat.reduceMul, Nat.reduceLT, Int.reduceEq, Int.reduceLT, Int.reduceLE, t0, t2, t3, t5, t9, t10, t11, hlt, hwd, v0, v1]
        refine (hB G8 br _ _ t cl lp hK u8 (by omega)).mono ?_
        rintro _ H' ⟨l8, cl8, K8, rfl, rfl, hK8, h8, h9⟩
        simp +contextual -dsimp -implicitDefEqProofs (maxSteps := 5000000) only [go_sem, reduceIte, reduceCtorEq, Nat.reduceEqDiff, Nat.reduceBEq, Nat.reduceAdd, Nat.reduceLeDiff, Nat.reduceMul, Nat.reduceLT, Int.reduceEq, Int.reduceLT, Int.reduceLE, t0, t2, t3, t5, t9, t10, t11, hlt, hwd, v0, v1]
        refine app_lines (m := l8) (grow_in hg8 u8) (by simp; omega) rfl fun x' H' hg' => ?_
        obtain ⟨G9, hg9, rfl, u9⟩ := grow_out hg' (grow_none hg8 u8)
        simp +contextual -dsimp -implicitDefEqProofs (maxSteps := 5000000) only [go_sem, reduceIte, reduceCtorEq, Nat.reduceEqDiff, Nat.reduceBEq, Nat.reduceAdd, Nat.reduceLeDiff, Nat.reduceMul, Nat.reduceLT, Int.reduceEq, Int.reduceLT, Int.reduceLE, t0, t2, t3, t5, t9, t10, t11, hlt, hwd, v0, v1]
        refine retR_less (l := [x']) (H' := G9.set br K8) ?_ (AHeap.le_refl _) ⟨_, G9, K8, hg9, u9, rfl, rdk_mono hK8 (by omega), by first | omega | (simp; omega), by first | omega | (simp; omega)⟩
        simp only [resA, go_sem, reduceIte, reduceCtorEq, Nat.reduceEqDiff, Nat.reduceBEq, Nat.reduceAdd, Nat.reduceLeDiff, Nat.reduceMul, Nat.reduceLT, Int.reduceEq, Int.reduceLT, Int.reduceLE]
end Go.Proofs.Ytbjgilehnlpmaaa
end
section
set_option linter.unusedVariables false
set_option linter.unusedSimpArgs false
namespace Go.Proofs.Ytbjgilehnlpmaaa
open Go Go.Sim
set_option maxRecDepth 100000
attribute [local go_sem ↓] aw_skip aw_ret aw_exit aw_region aw_draw aw_seq aw_block aw_loop aw_cond frz_nil frz_cons sq_normal sq_ret sq_exit exB_normal exB_ret exB_same exB_other retQ_ret retQ_normal ret0_ret ret0_normal ao_nil go1 g_move g_assign g_pick g_build g_load g_binOp g_unOp g_convert g_fieldAddr g_field g_indexAddr g_index g_extract g_slice g_nilCheck g_len g_makeFunc h_call h_append h_alloc h_box h_buildSlice h_makeSlice h_store gV i_box i_buildSlice i_move i_assign i_build i_load i_binOp i_unOp i_convert i_fieldAddr i_field i_indexAddr i_index i_extract i_slice i_nilCheck i_makeFunc i_len i_max i_min i_alloc i_makeSlice i_store i_append i_call i_pick boxI boxA buildSliceI buildSliceA makeSliceA allocA storeA p_move p_assign p_pick p_build p_load p_binOp p_unOp p_convert p_fieldAddr p_field p_indexAddr p_index p_extract p_slice p_nilCheck p_makeFunc p_len p_max p_min p_alloc p_box p_buildSlice p_makeSlice p_store p_append p_call x_nil x_go1 x_g0 x_g1 x_g2 x_g3 x_s0 x_s1 x_s2 x_s3 u_move u_assign u_pick u_build u_load u_binOp u_unOp u_convert u_fieldAddr u_field u_indexAddr u_index u_extract u_slice u_nilCheck u_makeFunc u_len u_buildSlice x_s4 x_g4 rq_normal rq_ret rq_exit aw_range
attribute [local go_sem] frzV_sl frzK_some set_none set_other AHeap.set_self set_del set_set cnd_t cnd_f cnd_b retA_one retA_two retA_three retA_four retA_nil gIf_b mrgV_b mrgV_wh mrgV_U gIf_U gIf_wh mrgB_f mrgB_some mrgB_if wh_true wh_false keepA_some keepA_if gD_zero gD_succ gT_some bxA_t bxA_f callA_fn ev_tmp ev_const ev_global ev_func oc_bool oc_int oc_string oc_nil oc_nilptr oc_nilfunc cl_bool cl_int cl_string cl_nil updO_some updO_none upd_same upd_other init_at pickA_b pickA_wh selA_t selA_f selA_and selA_or selA_orn selA_orm selA_bb selA_ii beqt b_add b_sub b_mul b_and b_or b_xor b_eql b_neq b_lss b_leq b_gtr b_geq b_quo b_rem b_shr b_seql b_sneq b_sadd b_beql b_bneq b_aeql b_aneq u_not u_neg isConstOp eqA eqCellV List.getD_cons_zero List.getD_cons_succ List.map_cons List.map_nil List.nil_append List.cons_append List.append_nil if_true if_false Option.map_some Option.map_none ne_eq not_false_eq_true oneA ldv ld1v ld1s wr1s ldRow stRow row_lit row_agg row_vsl row_sl row_ptr row_fn one_I one_B one_S one_vsl one_sl one_ptr one_fn extractA okA rI rS rU rClass rFault rExit rStart rLine Int.toNat_natCast List.length_cons List.length_nil List.length_map List.all_cons List.all_nil Bool.and_true Nat.zero_add List.getElem?_cons_zero List.getElem?_cons_succ List.take_succ_cons List.take_zero List.drop_succ_cons List.drop_zero and_self true_and and_true implies_true decide_eq_true_eq decide_eq_false_iff_not Bool.or_eq_true Bool.or_eq_false_iff Bool.and_eq_true Bool.not_eq_true' Bool.not_eq_false' beq_false decide_true decide_false Int.ofNat_lt Int.ofNat_le Int.natCast_nonneg Bool.or_true Bool.or_false Bool.true_or Bool.false_or beq_self_eq_true List.drop_one Bool.not_true Bool.not_false Bool.not_not Bool.false_eq_true Bool.true_eq_false false_implies true_implies Bool.true_and Bool.false_and Bool.and_false not_true_eq_false Int.natCast_eq_zero Int.natCast_pos Int.natCast_zero false_and and_false or_false false_or or_true true_or Bool.or_self none_le_iff List.replicate_zero Int.toNat_zero List.replicate_succ buildRows List.set_cons_zero List.set_cons_succ List.set_nil List.mapM_nil maxLen_eq Nat.zero_le Nat.mul_one Nat.one_mul bldA fillA spliceA List.take_nil List.drop_nil List.getElem?_nil ld1o wr1o bldSliceA le_same cv_i cvI_t quietT_fn qvd_some ld_o ldO_1 ldO_l wr_o wrO_1 set_2 set_3 set_4 putL_nil putL_cons List.zip_cons_cons List.zip_nil_left List.zip_nil_right List.toList_toArray frzV_set ti1 ti2 tk2 ti3 te3 ts3 tk3 tz3 ti4 tb4 ti5 tk5 tz5 ti9 te9 ts9 tk9 tz9 ti12 tk12 ti13 tp13 tf13_0 tf13_1 ti20 ti21 tk21 tz21 ti22 te22 ti23 tp23 tf23_0 ti24 tp24 tf24_0 ti25 te25 ti27 ti28 ti29 te29 ti30 te30 ti31 tp31 tf31_0 ti32 tp32 tf32_0 ti33 tp33 tf33_0 tf33_1 tf33_2 tf33_3 ti34 tp34 tf34_0 tf34_1 tf34_2 tf34_3 ti35 ti36 tq36 tp36 tf36_0 tf36_1 tf36_2 tf36_3 ti37 tq37 tp37 tf37_0 tf37_1 tf37_2 tf37_3 ti38 ti39 ti40 ti41 ti42 ti43 ti44 te44 tz44 ti46 ti47 ti48 ti49 ti50 ti51 ti52 tq52 tp52 tf52_0 tf52_1 ti53 tq53 tp53 tf53_0 tf53_1 ti54 ti55 tq55 tp55 tf55_0 tf55_1 tf55_2 tf55_3 tf55_4 ti56 tq56 tp56 tf56_0 tf56_1 tf56_2 tf56_3 tf56_4 ti57 ti58 ti59 ti60 ti61 ti62 ti63 ti64 ti65 ti66 ti67 ti68 ti69 ti70 tp70 tf70_0 tf70_1 tf70_2 tf70_3 tf70_4 ti71 tp71 tf71_0 tf71_1 tf71_2 tf71_3 tf71_4 ti73 ti74 ti75 ti76 ti77 ti78 ti79 ti80 tq80 tp80 tf80_0 tf80_1 ti81 tq81 tp81 tf81_0 tf81_1 ti82 ti83 ti84 ti85 ti86 ti87 ti88 ti89 ti90 tp90 tf90_0 tf90_1 ti91 tp91 tf91_0 tf91_1 ti92 ti93 ti94 ti95 ti96 ti97 ti98 ti99 ti100 ti101 ti102 ti103 te103 ti104 ti105 ti106 ti107 ti108 ti109 ti110 ti111 ti112 tk112 tz112 ti113 ti114 ti115 tk115 ti117 ti118 ti119 ti121 ti122 ti123 tk123 tz123 ti124 ti125 tk125 tz125 ti126 ti127 tk127 ti128 ti129 ti130 ti131 ti132 ti133 ti135 ti136 ti142 ti146 fp13_0 fv13_0 fp13_1 fv13_1 fp23_0 fv23_0 fp24_0 fv24_0 fp31_0 fv31_0 fp32_0 fv32_0 fp33_0 fv33_0 fp33_1 fv33_1 fp33_2 fv33_2 fp33_3 fv33_3 fp34_0 fv34_0 fp34_1 fv34_1 fp34_2 fv34_2 fp34_3 fv34_3 fp36_0 fv36_0 fp36_1 fv36_1 fp36_2 fv36_2 fp36_3 fv36_3 fp37_0 fv37_0 fp37_1 fv37_1 fp37_2 fv37_2 fp37_3 fv37_3 fp52_0 fv52_0 fp52_1 fv52_1 fp53_0 fv53_0 fp53_1 fv53_1 fp55_0 fv55_0 fp55_1 fv55_1 fp55_2 fv55_2 fp55_3 fv55_3 fp55_4 fv55_4 fp56_0 fv56_0 fp56_1 fv56_1 fp56_2 fv56_2 fp56_3 fv56_3 fp56_4 fv56_4 fp70_0 fv70_0 fp70_1 fv70_1 fp70_2 fv70_2 fp70_3 fv70_3 fp70_4 fv70_4 fp71_0 fv71_0 fp71_1 fv71_1 fp71_2 fv71_2 fp71_3 fv71_3 fp71_4 fv71_4 fp80_0 fv80_0 fp80_1 fv80_1 fp81_0 fv81_0 fp81_1 fv81_1 fp90_0 fv90_0 fp90_1 fv90_1 fp91_0 fv91_0 fp91_1 fv91_1 lv22 ll22 is22 ix22 sh22 so22 sb22 sm22 sp22 lv25 ll25 is25 ix25 sh25 so25 sb25 sm25 sp25 lv29 ll29 is29 ix29 sh29 so29 sb29 sm29 sp29 lv30 ll30 is30 ix30 sh30 so30 sb30 sm30 sp30 lv44 ll44 is44 ix44 sh44 so44 sb44 sm44 sp44 lv103 ll103 is103 ix103 sh103 so103 sb103 sm103 sp103 xs9 ls9 sx9 sy9 sz9
set_option maxHeartbeats 4000000

theorem c_aStatement {d : Int} {p p1 p2 : Nat} (hd : 0 ≤ d ∧ d ≤ 3) (h6 : 6 ≤ p) (hp1 : p1 + 6 ≤ p) (hp2 : p2 + 6 ≤ p) (hp : p ≤ 300000) (hB : d < 3 → DrawnF 85 p1 (d + 1)) (hT : d < 3 → DrawnF 84 p2 d) : DrawnF 93 p d := by
  intro F br n K t cl lp hK hF hn
  have hwd : IntKind.i64.wrap (d + 1) = d + 1 := w64 (by omega) (by omega)
  refine acalls_of1 Try.func93 rfl (by kernel_rfl) rfl rfl (awp_sound (fz := fun _ => []) (im := fun s => s == 5 || s == 29 || s == 43 || s == 57 || s == 65 || s == 96 || s == 108) mixed _ _ _ _ (by kernel_rfl) ?_)
  simp +contextual -dsimp -implicitDefEqProofs (maxSteps := 5000000) only [go_sem, reduceIte, reduceCtorEq, Nat.reduceEqDiff, Nat.reduceBEq, Nat.reduceAdd, Nat.reduceLeDiff, Nat.reduceMul, Nat.reduceLT, Int.reduceEq, Int.reduceLT, Int.reduceLE]
  refine k_pick 16 hK hF (by omega) rfl fun k0 K0 q0 q1 _ hK0 => ?_
  simp +contextual -dsimp -implicitDefEqProofs (maxSteps := 5000000) only [go_sem, reduceIte, reduceCtorEq, Nat.reduceEqDiff, Nat.reduceBEq, Nat.reduceAdd, Nat.reduceLeDiff, Nat.reduceMul, Nat.reduceLT, Int.reduceEq, Int.reduceLT, Int.reduceLE]
  refine ⟨fun h3 => ?_, fun h3 => ?_⟩
  · refine k_pick 9 hK0 hF (by omega) rfl fun k K1 r0 r1 _ hK1 => ?_
    simp +contextual -dsimp -implicitDefEqProofs (maxSteps := 5000000) only [go_sem, reduceIte, reduceCtorEq, Nat.reduceEqDiff, Nat.reduceBEq, Nat.reduceAdd, Nat.reduceLeDiff, Nat.reduceMul, Nat.reduceLT, Int.reduceEq, Int.reduceLT, Int.reduceLE]
    skip
    rintro b10 ⟨n1, n2, hb⟩
    simp only [br_out n1]
    have nb : ∀ K, (F.set b10 K) br = none := fun K => by rw [set_other n2]; exact hF
    have le : ∀ K K', AHeap.le (F.set br K') ((F.set b10 K).set br K') := fun K K' => le_ch (le_s1 (AHeap.le_refl _) hb)
    by_cases c4 : k < 4
    · simp +contextual -dsimp -implicitDefEqProofs (maxSteps := 5000000) only [go_sem, reduceIte, reduceCtorEq, Nat.reduceEqDiff, Nat.reduceBEq, Nat.reduceAdd, Nat.reduceLeDiff, Nat.reduceMul, Nat.reduceLT, Int.reduceEq, Int.reduceLT, Int.reduceLE, c4, n1, n2]
      refine k_one [1, 2, 3, 4, 5] _ hK1 (nb _) (by omega) (by simp) rfl rfl fun v K1 _ hK1 => ?_
      simp +contextual -dsimp -implicitDefEqProofs (maxSteps := 5000000) only [go_sem, reduceIte, reduceCtorEq, Nat.reduceEqDiff, Nat.reduceBEq, Nat.reduceAdd, Nat.reduceLeDiff, Nat.reduceMul, Nat.reduceLT, Int.reduceEq, Int.reduceLT, Int.reduceLE, c4, n1, n2]
      refine retR_less (l := [.vsl [rLine ⟨d, 1, v, 0⟩] true]) (H' := F.set br K1) ?_ (le _ _) ⟨[⟨d, 1, v, 0⟩], true, K1, rfl, rfl, rdk_mono hK1 (by omega), by simp, by simp; omega⟩
      simp only [resA, go_sem, reduceIte, reduceCtorEq, Nat.reduceEqDiff, Nat.reduceBEq, Nat.reduceAdd, Nat.reduceLeDiff, Nat.reduceMul, Nat.reduceLT, Int.reduceEq, Int.reduceLT, Int.reduceLE]
    by_cases c6 : k < 6
    · simp +contextual -dsimp -implicitDefEqProofs (maxSteps := 5000000) only [go_sem, reduceIte, reduceCtorEq, Nat.reduceEqDiff, Nat.reduceBEq, Nat.reduceAdd, Nat.reduceLeDiff, Nat.reduceMul, Nat.reduceLT, Int.reduceEq, Int.reduceLT, Int.reduceLE, c4, c6, n1, n2]
      refine k_pick t.length hK1 (nb _) (by omega) rfl fun a K1 _ _ _ hK1 => ?_
      simp +contextual -dsimp -implicitDefEqProofs (maxSteps := 5000000) only [go_sem, reduceIte, reduceCtorEq, Nat.reduceEqDiff, Nat.reduceBEq, Nat.reduceAdd, Nat.reduceLeDiff, Nat.reduceMul, Nat.reduceLT, Int.reduceEq, Int.reduceLT, Int.reduceLE, c4, c6, n1, n2]
      refine k_one [1, 2, 3] _ hK1 (nb _) (by omega) (by simp) rfl rfl fun v K2 _ hK2 => ?_
      simp +contextual -dsimp -implicitDefEqProofs (maxSteps := 5000000) only [go_sem, reduceIte, reduceCtorEq, Nat.reduceEqDiff, Nat.reduceBEq, Nat.reduceAdd, Nat.reduceLeDiff, Nat.reduceMul, Nat.reduceLT, Int.reduceEq, Int.reduceLT, Int.reduceLE, c4, c6, n1, n2]
      refine retR_less (l := [.vsl [rLine ⟨d, 2, a, v⟩] true]) (H' := F.set br K2) ?_ (le _ _) ⟨[⟨d, 2, a, v⟩], true, K2, rfl, rfl, rdk_mono hK2 (by omega), by simp, by simp; omega⟩
      simp only [resA, go_sem, reduceIte, reduceCtorEq, Nat.reduceEqDiff, Nat.reduceBEq, Nat.reduceAdd, Nat.reduceLeDiff, Nat.reduceMul, Nat.reduceLT, Int.reduceEq, Int.reduceLT, Int.reduceLE]
    by_cases e6 : k = 6
    · simp +contextual -dsimp -implicitDefEqProofs (maxSteps := 5000000) only [go_sem, reduceIte, reduceCtorEq, Nat.reduceEqDiff, Nat.reduceBEq, Nat.reduceAdd, Nat.reduceLeDiff, Nat.reduceMul, Nat.reduceLT, Int.reduceEq, Int.reduceLT, Int.reduceLE, c4, c6, e6, n1, n2]
      refine retR_less (l := [.vsl [rLine ⟨d, 3, 0, 0⟩] true]) (H' := AHeap.set F br _) ?_ (le _ _) ⟨[⟨d, 3, 0, 0⟩], true, _, rfl, rfl, rdk_mono hK1 (by omega), by simp, by simp; omega⟩
      simp only [resA, go_sem, reduceIte, reduceCtorEq, Nat.reduceEqDiff, Nat.reduceBEq, Nat.reduceAdd, Nat.reduceLeDiff, Nat.reduceMul, Nat.reduceLT, Int.reduceEq, Int.reduceLT, Int.reduceLE]
    by_cases e7 : k = 7
    · cases lp
      · simp +contextual -dsimp -implicitDefEqProofs (maxSteps := 5000000) only [go_sem, reduceIte, reduceCtorEq, Nat.reduceEqDiff, Nat.reduceBEq, Nat.reduceAdd, Nat.reduceLeDiff, Nat.reduceMul, Nat.reduceLT, Int.reduceEq, Int.reduceLT, Int.reduceLE, c4, c6, e6, e7, n1, n2]
        refine k_one [7, 8] _ hK1 (nb _) (by omega) (by simp) rfl rfl fun v K1 _ hK1 => ?_
        simp +contextual -dsimp -implicitDefEqProofs (maxSteps := 5000000) only [go_sem, reduceIte, reduceCtorEq, Nat.reduceEqDiff, Nat.reduceBEq, Nat.reduceAdd, Nat.reduceLeDiff, Nat.reduceMul, Nat.reduceLT, Int.reduceEq, Int.reduceLT, Int.reduceLE, c4, c6, e6, e7, n1, n2]
        refine retR_less (l := [.vsl [rLine ⟨d, 4, v, 0⟩] true]) (H' := F.set br K1) ?_ (le _ _) ⟨[⟨d, 4, v, 0⟩], true, K1, rfl, rfl, rdk_mono hK1 (by omega), by simp, by simp; omega⟩
        simp only [resA, go_sem, reduceIte, reduceCtorEq, Nat.reduceEqDiff, Nat.reduceBEq, Nat.reduceAdd, Nat.reduceLeDiff, Nat.reduceMul, Nat.reduceLT, Int.reduceEq, Int.reduceLT, Int.reduceLE]
      · simp +contextual -dsimp -implicitDefEqProofs (maxSteps := 5000000) only [go_sem, reduceIte, reduceCtorEq, Nat.reduceEqDiff, Nat.reduceBEq, Nat.reduceAdd, Nat.reduceLeDiff, Nat.reduceMul, Nat.reduceLT, Int.reduceEq, Int.reduceLT, Int.reduceLE, c4, c6, e6, e7, n1, n2]
        refine k_one [5, 6] _ hK1 (nb _) (by omega) (by simp) rfl rfl fun v K1 _ hK1 => ?_
        simp +contextual -dsimp -implicitDefEqProofs (maxSteps := 5000000) only [go_sem, reduceIte, reduceCtorEq, Nat.reduceEqDiff, Nat.reduceBEq, Nat.reduceAdd, Nat.reduceLeDiff, Nat.reduceMul, Nat.reduceLT, Int.reduceEq, Int.reduceLT, Int.reduceLE, c4, c6, e6, e7, n1, n2]
        refine retR_less (l := [.vsl [rLine ⟨d, v, 0, 0⟩] true]) (H' := F.set br K1) ?_ (le _ _) ⟨[⟨d, v, 0, 0⟩], true, K1, rfl, rfl, rdk_mono hK1 (by omega), by simp, by simp; omega⟩
        simp only [resA, go_sem, reduceIte, reduceCtorEq, Nat.reduceEqDiff, Nat.reduceBEq, Nat.reduceAdd, Nat.reduceLeDiff, Nat.reduceMul, Nat.reduceLT, Int.reduceEq, Int.reduceLT, Int.reduceLE]
    by_cases e8 : k = 8
    · simp +contextual -dsimp -implicitDefEqProofs (maxSteps := 5000000) only [go_sem, reduceIte, reduceCtorEq, Nat.reduceEqDiff, Nat.reduceBEq, Nat.reduceAdd, Nat.reduceLeDiff, Nat.reduceMul, Nat.reduceLT, Int.reduceEq, Int.reduceLT, Int.reduceLE, c4, c6, e6, e7, e8, n1, n2]
      refine retR_less (l := [.vsl [rLine ⟨d, 0, 0, 0⟩] true]) (H' := AHeap.set F br _) ?_ (le _ _) ⟨[⟨d, 0, 0, 0⟩], true, _, rfl, rfl, rdk_mono hK1 (by omega), by simp, by simp; omega⟩
      simp only [resA, go_sem, reduceIte, reduceCtorEq, Nat.reduceEqDiff, Nat.reduceBEq, Nat.reduceAdd, Nat.reduceLeDiff, Nat.reduceMul, Nat.reduceLT, Int.reduceEq, Int.reduceLT, Int.reduceLE]
    omega
  · skip
    rintro b10 ⟨n1, n2, hb⟩
    simp only [br_out n1]
    have nb : ∀ K, (F.set b10 K) br = none := fun K => by rw [set_other n2]; exact hF
    have le : ∀ K K', AHeap.le (F.set br K') ((F.set b10 K).set br K') := fun K K' => le_ch (le_s1 (AHeap.le_refl _) hb)
    by_cases c4 : k0 < 4
    · simp +contextual -dsimp -implicitDefEqProofs (maxSteps := 5000000) only [go_sem, reduceIte, reduceCtorEq, Nat.reduceEqDiff, Nat.reduceBEq, Nat.reduceAdd, Nat.reduceLeDiff, Nat.reduceMul, Nat.reduceLT, Int.reduceEq, Int.reduceLT, Int.reduceLE, c4, n1, n2]
      refine k_one [1, 2, 3, 4, 5] _ hK0 (nb _) (by omega) (by simp) rfl rfl fun v K1 _ hK1 => ?_
      simp +contextual -dsimp -implicitDefEqProofs (maxSteps := 5000000) only [go_sem, reduceIte, reduceCtorEq, Nat.reduceEqDiff, Nat.reduceBEq, Nat.reduceAdd, Nat.reduceLeDiff, Nat.reduceMul, Nat.reduceLT, Int.reduceEq, Int.reduceLT, Int.reduceLE, c4, n1, n2]
      refine retR_less (l := [.vsl [rLine ⟨d, 1, v, 0⟩] true]) (H' := F.set br K1) ?_ (le _ _) ⟨[⟨d, 1, v, 0⟩], true, K1, rfl, rfl, rdk_mono hK1 (by omega), by simp, by simp; omega⟩
      simp only [resA, go_sem, reduceIte, reduceCtorEq, Nat.reduceEqDiff, Nat.reduceBEq, Nat.reduceAdd, Nat.reduceLeDiff, Nat.reduceMul, Nat.reduceLT, Int.reduceEq, Int.reduceLT, Int.reduceLE]
    by_cases c6 : k0 < 6
    · simp +contextual -dsimp -implicitDefEqProofs (maxSteps := 5000000) only [go_sem, reduceIte, reduceCtorEq, Nat.reduceEqDiff, Nat.reduceBEq, Nat.reduceAdd, Nat.reduceLeDiff, Nat.reduceMul, Nat.reduceLT, Int.reduceEq, Int.reduceLT, Int.reduceLE, c4, c6, n1, n2]
      refine k_pick t.length hK0 (nb _) (by omega) rfl fun a K1 _ _ _ hK1 => ?_
      simp +contextual -dsimp -implicitDefEqProofs (maxSteps := 5000000) only [go_sem, reduceIte, reduceCtorEq, Nat.reduceEqDiff, Nat.reduceBEq, Nat.reduceAdd, Nat.reduceLeDiff, Nat.reduceMul, Nat.reduceLT, Int.reduceEq, Int.reduceLT, Int.reduceLE, c4, c6, n1, n2]
      refine k_one [1, 2, 3] _ hK1 (nb _) (by omega) (by simp) rfl rfl fun v K2 _ hK2 => ?_
      simp +contextual -dsimp -implicitDefEqProofs (maxSteps := 5000000) only [go_sem, reduceIte, reduceCtorEq, Nat.reduceEqDiff, Nat.reduceBEq, Nat.reduceAdd, Nat.reduceLeDiff, Nat.reduceMul, Nat.reduceLT, Int.reduceEq, Int.reduceLT, Int.reduceLE, c4, c6, n1, n2]
      refine retR_less (l := [.vsl [rLine ⟨d, 2, a, v⟩] true]) (H' := F.set br K2) ?_ (le _ _) ⟨[⟨d, 2, a, v⟩], true, K2, rfl, rfl, rdk_mono hK2 (by omega), by simp, by simp; omega⟩
      simp only [resA, go_sem, reduceIte, reduceCtorEq, Nat.reduceEqDiff, Nat.reduceBEq, Nat.reduceAdd, Nat.reduceLeDiff, Nat.reduceMul, Nat.reduceLT, Int.reduceEq, Int.reduceLT, Int.reduceLE]
    by_cases e6 : k0 = 6
    · simp +contextual -dsimp -implicitDefEqProofs (maxSteps := 5000000) only [go_sem, reduceIte, reduceCtorEq, Nat.reduceEqDiff, Nat.reduceBEq, Nat.reduceAdd, Nat.reduceLeDiff, Nat.reduceMul, Nat.reduceLT, Int.reduceEq, Int.reduceLT, Int.reduceLE, c4, c6, e6, n1, n2]
      refine retR_less (l := [.vsl [rLine ⟨d, 3, 0, 0⟩] true]) (H' := AHeap.set F br _) ?_ (le _ _) ⟨[⟨d, 3, 0, 0⟩], true, _, rfl, rfl, rdk_mono hK0 (by omega), by simp, by simp; omega⟩
      simp only [resA, go_sem, reduceIte, reduceCtorEq, Nat.reduceEqDiff, Nat.reduceBEq, Nat.reduceAdd, Nat.reduceLeDiff, Nat.reduceMul, Nat.reduceLT, Int.reduceEq, Int.reduceLT, Int.reduceLE]
    by_cases e7 : k0 = 7
    · cases lp
      · simp +contextual -dsimp -implicitDefEqProofs (maxSteps := 5000000) only [go_sem, reduceIte, reduceCtorEq, Nat.reduceEqDiff, Nat.reduceBEq, Nat.reduceAdd, Nat.reduceLeDiff, Nat.reduceMul, Nat.reduceLT, Int.reduceEq, Int.reduceLT, Int.reduceLE, c4, c6, e6, e7, n1, n2]
        refine k_one [7, 8] _ hK0 (nb _) (by omega) (by simp) rfl rfl fun v K1 _ hK1 => ?_
        simp +contextual -dsimp -implicitDefEqProofs (maxSteps := 5000000) only [go_sem, reduceIte, reduceCtorEq, Nat.reduceEqDiff, Nat.reduceBEq, Nat.reduceAdd, Nat.reduceLeDiff, Nat.reduceMul, Nat.reduceLT, Int.reduceEq, Int.reduceLT, Int.reduceLE, c4, c6, e6, e7, n1, n2]
        refine retR_less (l := [.vsl [rLine ⟨d, 4, v, 0⟩] true]) (H' := F.set br K1) ?_ (le _ _) ⟨[⟨d, 4, v, 0⟩], true, K1, rfl, rfl, rdk_mono hK1 (by omega), by simp, by simp; omega⟩
        simp only [resA, go_sem, reduceIte, reduceCtorEq, Nat.reduceEqDiff, Nat.reduceBEq, Nat.reduceAdd, Nat.reduceLeDiff, Nat.reduceMul, Nat.reduceLT, Int.reduceEq, Int.reduceLT, Int.reduceLE]
      · simp +contextual -dsimp -implicitDefEqProofs (maxSteps := 5000000) only [go_sem, reduceIte, reduceCtorEq, Nat.reduceEqDiff, Nat.reduceBEq, Nat.reduceAdd, Nat.reduceLeDiff, Nat.reduceMul, Nat.reduceLT, Int.reduceEq, Int.reduceLT, Int.reduceLE, c4, c6, e6, e7, n1, n2]
        refine k_one [5, 6] _ hK0 (nb _) (by omega) (by simp) rfl rfl fun v K1 _ hK1 => ?_
        simp +contextual -dsimp -implicitDefEqProofs (maxSteps := 5000000) only [go_sem, reduceIte, reduceCtorEq, Nat.reduceEqDiff, Nat.reduceBEq, Nat.reduceAdd, Nat.reduceLeDiff, Nat.reduceMul, Nat.reduceLT, Int.reduceEq, Int.reduceLT, Int.reduceLE, c4, c6, e6, e7, n1, n2]
        refine retR_less (l := [.vsl [rLine ⟨d, v, 0, 0⟩] true]) (H' := F.set br K1) ?_ (le _ _) ⟨[⟨d, v, 0, 0⟩], true, K1, rfl, rfl, rdk_mono hK1 (by omega), by simp, by simp; omega⟩
        simp only [resA, go_sem, reduceIte, reduceCtorEq, Nat.reduceEqDiff, Nat.reduceBEq, Nat.reduceAdd, Nat.reduceLeDiff, Nat.reduceMul, Nat.reduceLT, Int.reduceEq, Int.reduceLT, Int.reduceLE]
    by_cases e8 : k0 = 8
    · simp +contextual -dsimp -implicitDefEqProofs (maxSteps := 5000000) only [go_sem, reduceIte, reduceCtorEq, Nat.reduceEqDiff, Nat.reduceBEq, Nat.reduceAdd, Nat.reduceLeDiff, Nat.reduceMul, Nat.reduceLT, Int.reduceEq, Int.reduceLT, Int.reduceLE, c4, c6, e6, e7, e8, n1, n2]
      refine retR_less (l := [.vsl [rLine ⟨d, 0, 0, 0⟩] true]) (H' := AHeap.set F br _) ?_ (le _ _) ⟨[⟨d, 0, 0, 0⟩], true, _, rfl, rfl, rdk_mono hK0 (by omega), by simp, by simp; omega⟩
      simp only [resA, go_sem, reduceIte, reduceCtorEq, Nat.reduceEqDiff, Nat.reduceBEq, Nat.reduceAdd, Nat.reduceLeDiff, Nat.reduceMul, Nat.reduceLT, Int.reduceEq, Int.reduceLT, Int.reduceLE]
    have h3' : d < 3 := by omega
    have hB := hB h3'
    have hT := hT h3'
    have nb : ∀ K, (F.set b10 K) br = none := fun K => by rw [set_other n2]; exact hF
    have le : ∀ K K', AHeap.le (F.set br K') ((F.set b10 K).set br K') := fun K K' => le_ch (le_s1 (AHeap.le_refl _) hb)
    by_cases c11 : k0 < 11
    · simp +contextual -dsimp -implicitDefEqProofs (maxSteps := 5000000) only [go_sem, reduceIte, reduceCtorEq, Nat.reduceEqDiff, Nat.reduceBEq, Nat.reduceAdd, Nat.reduceLeDiff, Nat.reduceMul, Nat.reduceLT, Int.reduceEq, Int.reduceLT, Int.reduceLE, c4, c6, e6, e7, e8, c11, n1, n2]
      refine k_pick 4 hK0 (nb _) (by omega) rfl fun a K1 _ _ _ hK1 => ?_
      simp +contextual -dsimp -implicitDefEqProofs (maxSteps := 5000000) only [go_sem, reduceIte, reduceCtorEq, Nat.reduceEqDiff, Nat.reduceBEq, Nat.reduceAdd, Nat.reduceLeDiff, Nat.reduceMul, Nat.reduceLT, Int.reduceEq, Int.reduceLT, Int.reduceLE, c4, c6, e6, e7, e8, c11, n1, n2]
      refine k_pick 2 hK1 (nb _) (by omega) rfl fun b K2 _ _ _ hK2 => ?_
      simp +contextual -dsimp -implicitDefEqProofs (maxSteps := 5000000) only [go_sem, reduceIte, reduceCtorEq, Nat.reduceEqDiff, Nat.reduceBEq, Nat.reduceAdd, Nat.reduceLeDiff, Nat.reduceMul, Nat.reduceLT, Int.reduceEq, Int.reduceLT, Int.reduceLE, c4, c6, e6, e7, e8, c11, n1, n2]
      refine draw_intro [1, 0, 0, 0, 0, 0, 0, 3, 2, 0] _ (by kernel_rfl) (le_set (nb _)) ?_
      simp +contextual -dsimp -implicitDefEqProofs (maxSteps := 5000000) only [go_sem, reduceIte, reduceCtorEq, Nat.reduceEqDiff, Nat.reduceBEq, Nat.reduceAdd, Nat.reduceLeDiff, Nat.reduceMul, Nat.reduceLT, Int.reduceEq, Int.reduceLT, Int.reduceLE, c4, c6, e6, e7, e8, c11, n1, n2, hwd]
      refine (hB _ br _ _ t cl lp hK2 (nb _) (by omega)).mono ?_
      rintro _ H' ⟨l2, cl2, K4, rfl, rfl, hK4, h3, h4⟩
      refine ⟨le_set (nb _), ?_⟩
      simp +contextual -dsimp -implicitDefEqProofs (maxSteps := 5000000) only [go_sem, reduceIte, reduceCtorEq, Nat.reduceEqDiff, Nat.reduceBEq, Nat.reduceAdd, Nat.reduceLeDiff, Nat.reduceMul, Nat.reduceLT, Int.reduceEq, Int.reduceLT, Int.reduceLE, c4, c6, e6, e7, e8, c11, n1, n2, hwd]
      refine app_lit (y := ⟨d, 11, a, b⟩) rfl h3 (by omega) fun x' H' hg => ?_
      obtain ⟨G, hg0, rfl, u0⟩ := grow_out hg (nb _)
      have hg0' := grow_in (K := K4) hg0 u0
      obtain ⟨G2, hg2, rfl, u2⟩ := grow_out hg0 hb
      have u2r : G2 br = none := by rw [set_none] at u0; exact u0.2.2
      simp +contextual -dsimp -implicitDefEqProofs (maxSteps := 5000000) only [go_sem, reduceIte, reduceCtorEq, Nat.reduceEqDiff, Nat.reduceBEq, Nat.reduceAdd, Nat.reduceLeDiff, Nat.reduceMul, Nat.reduceLT, Int.reduceEq, Int.reduceLT, Int.reduceLE, c4, c6, e6, e7, e8, c11, n1, n2, hwd]
      refine grow_frz (t := 8) hg0' fun cl3 => ?_
      refine retR_less (l := [.vsl ((⟨d, 11, a, b⟩ :: l2).map rLine) cl3]) (H' := F.set br K4) ?_ (le _ _) ⟨⟨d, 11, a, b⟩ :: l2, cl3, K4, rfl, rfl, rdk_mono hK4 (by omega), by simp, by simp; omega⟩
      simp only [resA, go_sem, reduceIte, reduceCtorEq, Nat.reduceEqDiff, Nat.reduceBEq, Nat.reduceAdd, Nat.reduceLeDiff, Nat.reduceMul, Nat.reduceLT, Int.reduceEq, Int.reduceLT, Int.reduceLE]
    by_cases e11 : k0 = 11
    · simp +contextual -dsimp -implicitDefEqProofs (maxSteps := 5000000) only [go_sem, reduceIte, reduceCtorEq, Nat.reduceEqDiff, Nat.reduceBEq, Nat.reduceAdd, Nat.reduceLeDiff, Nat.reduceMul, Nat.reduceLT, Int.reduceEq, Int.reduceLT, Int.reduceLE, c4, c6, e6, e7, e8, c11, e11, n1, n2]
      refine k_one [2, 1, 3, 0] _ hK0 (nb _) (by omega) (by simp) rfl rfl fun a K2 _ hK2 => ?_
      simp +contextual -dsimp -implicitDefEqProofs (maxSteps := 5000000) only [go_sem, reduceIte, reduceCtorEq, Nat.reduceEqDiff, Nat.reduceBEq, Nat.reduceAdd, Nat.reduceLeDiff, Nat.reduceMul, Nat.reduceLT, Int.reduceEq, Int.reduceLT, Int.reduceLE, c4, c6, e6, e7, e8, c11, e11, n1, n2]
      refine draw_intro [1, 0, 0, 0, 0, 0, 3, 2, 0] _ (by kernel_rfl) (le_set (nb _)) ?_
      simp +contextual -dsimp -implicitDefEqProofs (maxSteps := 5000000) only [go_sem, reduceIte, reduceCtorEq, Nat.reduceEqDiff, Nat.reduceBEq, Nat.reduceAdd, Nat.reduceLeDiff, Nat.reduceMul, Nat.reduceLT, Int.reduceEq, Int.reduceLT, Int.reduceLE, c4, c6, e6, e7, e8, c11, n1, n2, e11, hwd]
      refine (hB _ br _ _ t cl true hK2 (nb _) (by omega)).mono ?_
      rintro _ H' ⟨l2, cl2, K4, rfl, rfl, hK4, h3, h4⟩
      refine ⟨le_set (nb _), ?_⟩
      simp +contextual -dsimp -implicitDefEqProofs (maxSteps := 5000000) only [go_sem, reduceIte, reduceCtorEq, Nat.reduceEqDiff, Nat.reduceBEq, Nat.reduceAdd, Nat.reduceLeDiff, Nat.reduceMul, Nat.reduceLT, Int.reduceEq, Int.reduceLT, Int.reduceLE, c4, c6, e6, e7, e8, c11, n1, n2, e11, hwd]
      refine app_lit (y := ⟨d, 12, a, 0⟩) rfl h3 (by omega) fun x' H' hg => ?_
      obtain ⟨G, hg0, rfl, u0⟩ := grow_out hg (nb _)
      have hg0' := grow_in (K := K4) hg0 u0
      obtain ⟨G2, hg2, rfl, u2⟩ := grow_out hg0 hb
      have u2r : G2 br = none := by rw [set_none] at u0; exact u0.2.2
      simp +contextual -dsimp -implicitDefEqProofs (maxSteps := 5000000) only [go_sem, reduceIte, reduceCtorEq, Nat.reduceEqDiff, Nat.reduceBEq, Nat.reduceAdd, Nat.reduceLeDiff, Nat.reduceMul, Nat.reduceLT, Int.reduceEq, Int.reduceLT, Int.reduceLE, c4, c6, e6, e7, e8, c11, n1, n2, e11, hwd]
      refine grow_frz (t := 8) hg0' fun cl3 => ?_
      refine retR_less (l := [.vsl ((⟨d, 12, a, 0⟩ :: l2).map rLine) cl3]) (H' := F.set br K4) ?_ (le _ _) ⟨⟨d, 12, a, 0⟩ :: l2, cl3, K4, rfl, rfl, rdk_mono hK4 (by omega), by simp, by simp; omega⟩
      simp only [resA, go_sem, reduceIte, reduceCtorEq, Nat.reduceEqDiff, Nat.reduceBEq, Nat.reduceAdd, Nat.reduceLeDiff, Nat.reduceMul, Nat.reduceLT, Int.reduceEq, Int.reduceLT, Int.reduceLE]
    · simp +contextual -dsimp -implicitDefEqProofs (maxSteps := 5000000) only [go_sem, reduceIte, reduceCtorEq, Nat.reduceEqDiff, Nat.reduceBEq, Nat.reduceAdd, Nat.reduceLeDiff, Nat.reduceMul, Nat.reduceLT, Int.reduceEq, Int.reduceLT, Int.reduceLE, c4, c6, e6, e7, e8, c11, e11, n1, n2]
      refine (hT _ br _ _ t cl lp hK0 (nb _) (by omega)).mono ?_
      rintro _ H' ⟨l2, cl2, K4, rfl, rfl, hK4, h3, h4⟩
      simp +contextual -dsimp -implicitDefEqProofs (maxSteps := 5000000) only [go_sem, reduceIte, reduceCtorEq, Nat.reduceEqDiff, Nat.reduceBEq, Nat.reduceAdd, Nat.reduceLeDiff, Nat.reduceMul, Nat.reduceLT, Int.reduceEq, Int.reduceLT, Int.reduceLE, c4, c6, e6, e7, e8, c11, e11, n1, n2]
      refine retR_less (l := [.vsl (l2.map rLine) cl2]) (H' := F.set br K4) ?_ (le _ _) ⟨l2, cl2, K4, rfl, rfl, rdk_mono hK4 (by omega), h3, by omega⟩
      simp only [resA, go_sem, reduceIte, reduceCtorEq, Nat.reduceEqDiff, Nat.reduceBEq, Nat.reduceAdd, Nat.reduceLeDiff, Nat.reduceMul, Nat.reduceLT, Int.reduceEq, Int.reduceLT, Int.reduceLE]
end Go.Proofs.Ytbjgilehnlpmaaa
end
section
set_option linter.unusedVariables false
set_option linter.unusedSimpArgs false
namespace Go.Proofs.Ytbjgilehnlpmaaa
open Go Go.Sim
set_option maxRecDepth 100000
attribute [local go_sem ↓] aw_skip aw_ret aw_exit aw_region aw_draw aw_seq aw_block aw_loop aw_cond frz_nil frz_cons sq_normal sq_ret sq_exit exB_normal exB_ret exB_same exB_other retQ_ret retQ_normal ret0_ret ret0_normal ao_nil go1 g_move g_assign g_pick g_build g_load g_binOp g_unOp g_convert g_fieldAddr g_field g_indexAddr g_index g_extract g_slice g_nilCheck g_len g_makeFunc h_call h_append h_alloc h_box h_buildSlice h_makeSlice h_store gV i_box i_buildSlice i_move i_assign i_build i_load i_binOp i_unOp i_convert i_fieldAddr i_field i_indexAddr i_index i_extract i_slice i_nilCheck i_makeFunc i_len i_max i_min i_alloc i_makeSlice i_store i_append i_call i_pick boxI boxA buildSliceI buildSliceA makeSliceA allocA storeA p_move p_assign p_pick p_build p_load p_binOp p_unOp p_convert p_fieldAddr p_field p_indexAddr p_index p_extract p_slice p_nilCheck p_makeFunc p_len p_max p_min p_alloc p_box p_buildSlice p_makeSlice p_store p_append p_call x_nil x_go1 x_g0 x_g1 x_g2 x_g3 x_s0 x_s1 x_s2 x_s3 u_move u_assign u_pick u_build u_load u_binOp u_unOp u_convert u_fieldAddr u_field u_indexAddr u_index u_extract u_slice u_nilCheck u_makeFunc u_len u_buildSlice x_s4 x_g4 rq_normal rq_ret rq_exit aw_range
attribute [local go_sem] frzV_sl frzK_some set_none set_other AHeap.set_self set_del set_set cnd_t cnd_f cnd_b retA_one retA_two retA_three retA_four retA_nil gIf_b mrgV_b mrgV_wh mrgV_U gIf_U gIf_wh mrgB_f mrgB_some mrgB_if wh_true wh_false keepA_some keepA_if gD_zero gD_succ gT_some bxA_t bxA_f callA_fn ev_tmp ev_const ev_global ev_func oc_bool oc_int oc_string oc_nil oc_nilptr oc_nilfunc cl_bool cl_int cl_string cl_nil updO_some updO_none upd_same upd_other init_at pickA_b pickA_wh selA_t selA_f selA_and selA_or selA_orn selA_orm selA_bb selA_ii beqt b_add b_sub b_mul b_and b_or b_xor b_eql b_neq b_lss b_leq b_gtr b_geq b_quo b_rem b_shr b_seql b_sneq b_sadd b_beql b_bneq b_aeql b_aneq u_not u_neg isConstOp eqA eqCellV List.getD_cons_zero List.getD_cons_succ List.map_cons List.map_nil List.nil_append List.cons_append List.append_nil if_true if_false Option.map_some Option.map_none ne_eq not_false_eq_true oneA ldv ld1v ld1s wr1s ldRow stRow row_lit row_agg row_vsl row_sl row_ptr row_fn one_I one_B one_S one_vsl one_sl one_ptr one_fn extractA okA rI rS rU rClass rFault rExit rStart rLine Int.toNat_natCast List.length_cons List.length_nil List.length_map List.all_cons List.all_nil Bool.and_true Nat.zero_add List.getElem?_cons_zero List.getElem?_cons_succ List.take_succ_cons List.take_zero List.drop_succ_cons List.drop_zero and_self true_and and_true implies_true decide_eq_true_eq decide_eq_false_iff_not Bool.or_eq_true Bool.or_eq_false_iff Bool.and_eq_true Bool.not_eq_true' Bool.not_eq_false' beq_false decide_true decide_false Int.ofNat_lt Int.ofNat_le Int.natCast_nonneg Bool.or_true Bool.or_false Bool.true_or Bool.false_or beq_self_eq_true List.drop_one Bool.not_true Bool.not_false Bool.not_not Bool.false_eq_true Bool.true_eq_false false_implies true_implies Bool.true_and Bool.false_and Bool.and_false not_true_eq_false Int.natCast_eq_zero Int.natCast_pos Int.natCast_zero false_and and_false or_false false_or or_true true_or Bool.or_self none_le_iff List.replicate_zero Int.toNat_zero List.replicate_succ buildRows List.set_cons_zero List.set_cons_succ List.set_nil List.mapM_nil maxLen_eq Nat.zero_le Nat.mul_one Nat.one_mul bldA fillA spliceA List.take_nil List.drop_nil List.getElem?_nil ld1o wr1o bldSliceA le_same cv_i cvI_t quietT_fn qvd_some ld_o ldO_1 ldO_l wr_o wrO_1 set_2 set_3 set_4 putL_nil putL_cons List.zip_cons_cons List.zip_nil_left List.zip_nil_right List.toList_toArray frzV_set ti1 ti2 tk2 ti3 te3 ts3 tk3 tz3 ti4 tb4 ti5 tk5 tz5 ti9 te9 ts9 tk9 tz9 ti12 tk12 ti13 tp13 tf13_0 tf13_1 ti20 ti21 tk21 tz21 ti22 te22 ti23 tp23 tf23_0 ti24 tp24 tf24_0 ti25 te25 ti27 ti28 ti29 te29 ti30 te30 ti31 tp31 tf31_0 ti32 tp32 tf32_0 ti33 tp33 tf33_0 tf33_1 tf33_2 tf33_3 ti34 tp34 tf34_0 tf34_1 tf34_2 tf34_3 ti35 ti36 tq36 tp36 tf36_0 tf36_1 tf36_2 tf36_3 ti37 tq37 tp37 tf37_0 tf37_1 tf37_2 tf37_3 ti38 ti39 ti40 ti41 ti42 ti43 ti44 te44 tz44 ti46 ti47 ti48 ti49 ti50 ti51 ti52 tq52 tp52 tf52_0 tf52_1 ti53 tq53 tp53 tf53_0 tf53_1 ti54 ti55 tq55 tp55 tf55_0 tf55_1 tf55_2 tf55_3 tf55_4 ti56 tq56 tp56 tf56_0 tf56_1 tf56_2 tf56_3 tf56_4 ti57 ti58 ti59 ti60 ti61 ti62 ti63 ti64 ti65 ti66 ti67 ti68 ti69 ti70 tp70 tf70_0 tf70_1 tf70_2 tf70_3 tf70_4 ti71 tp71 tf71_0 tf71_1 tf71_2 tf71_3 tf71_4 ti73 ti74 ti75 ti76 ti77 ti78 ti79 ti80 tq80 tp80 tf80_0 tf80_1 ti81 tq81 tp81 tf81_0 tf81_1 ti82 ti83 ti84 ti85 ti86 ti87 ti88 ti89 ti90 tp90 tf90_0 tf90_1 ti91 tp91 tf91_0 tf91_1 ti92 ti93 ti94 ti95 ti96 ti97 ti98 ti99 ti100 ti101 ti102 ti103 te103 ti104 ti105 ti106 ti107 ti108 ti109 ti110 ti111 ti112 tk112 tz112 ti113 ti114 ti115 tk115 ti117 ti118 ti119 ti121 ti122 ti123 tk123 tz123 ti124 ti125 tk125 tz125 ti126 ti127 tk127 ti128 ti129 ti130 ti131 ti132 ti133 ti135 ti136 ti142 ti146 fp13_0 fv13_0 fp13_1 fv13_1 fp23_0 fv23_0 fp24_0 fv24_0 fp31_0 fv31_0 fp32_0 fv32_0 fp33_0 fv33_0 fp33_1 fv33_1 fp33_2 fv33_2 fp33_3 fv33_3 fp34_0 fv34_0 fp34_1 fv34_1 fp34_2 fv34_2 fp34_3 fv34_3 fp36_0 fv36_0 fp36_1 fv36_1 fp36_2 fv36_2 fp36_3 fv36_3 fp37_0 fv37_0 fp37_1 fv37_1 fp37_2 fv37_2 fp37_3 fv37_3 fp52_0 fv52_0 fp52_1 fv52_1 fp53_0 fv53_0 fp53_1 fv53_1 fp55_0 fv55_0 fp55_1 fv55_1 fp55_2 fv55_2 fp55_3 fv55_3 fp55_4 fv55_4 fp56_0 fv56_0 fp56_1 fv56_1 fp56_2 fv56_2 fp56_3 fv56_3 fp56_4 fv56_4 fp70_0 fv70_0 fp70_1 fv70_1 fp70_2 fv70_2 fp70_3 fv70_3 fp70_4 fv70_4 fp71_0 fv71_0 fp71_1 fv71_1 fp71_2 fv71_2 fp71_3 fv71_3 fp71_4 fv71_4 fp80_0 fv80_0 fp80_1 fv80_1 fp81_0 fv81_0 fp81_1 fv81_1 fp90_0 fv90_0 fp90_1 fv90_1 fp91_0 fv91_0 fp91_1 fv91_1 lv22 ll22 is22 ix22 sh22 so22 sb22 sm22 sp22 lv25 ll25 is25 ix25 sh25 so25 sb25 sm25 sp25 lv29 ll29 is29 ix29 sh29 so29 sb29 sm29 sp29 lv30 ll30 is30 ix30 sh30 so30 sb30 sm30 sp30 lv44 ll44 is44 ix44 sh44 so44 sb44 sm44 sp44 lv103 ll103 is103 ix103 sh103 so103 sb103 sm103 sp103 xs9 ls9 sx9 sy9 sz9
set_option maxHeartbeats 4000000

theorem st3 : DrawnF 93 6 3 := c_aStatement (p1 := 0) (p2 := 0) (by omega) (by omega) (by omega) (by omega) (by omega) (fun h => absurd h (by omega)) (fun h => absurd h (by omega))
theorem blk3 : Drawn 85 19 3 := c_aBlock (by omega) st3
theorem try2 : Drawn 84 105 2 := c_aTry (p := 19) (by omega) (by omega) blk3.frz
theorem st2 : DrawnF 93 111 2 := c_aStatement (p1 := 19) (p2 := 105) (by omega) (by omega) (by omega) (by omega) (by omega) (fun _ => blk3.frz) (fun _ => try2.frz)
theorem blk2 : Drawn 85 334 2 := c_aBlock (by omega) st2
theorem try1 : Drawn 84 1680 1 := c_aTry (p := 334) (by omega) (by omega) blk2.frz
theorem st1 : DrawnF 93 1686 1 := c_aStatement (p1 := 334) (p2 := 1680) (by omega) (by omega) (by omega) (by omega) (by omega) (fun _ => blk2.frz) (fun _ => try1.frz)
theorem blk1 : Drawn 85 5059 1 := c_aBlock (by omega) st1
theorem try0 : Drawn 84 25305 0 := c_aTry (p := 5059) (by omega) (by omega) blk1.frz
theorem st0 : DrawnF 93 25311 0 := c_aStatement (p1 := 5059) (p2 := 25305) (by omega) (by omega) (by omega) (by omega) (by omega) (fun _ => blk1.frz) (fun _ => try0.frz)
theorem blk0 : Drawn 85 75934 0 := c_aBlock (by omega) st0
/-- What is told beside blocks that nobody needs. -/
theorem grow_drop {α : Type} {f : α → List AV} {sz : Nat} {ty : TypeId} {F F0 G : AHeap} {x : AV} {l : List α} (hg : Grow f sz ty F0 G x l) (hle : F.le F0) : ∃ G', Grow f sz ty F G' x l ∧ G'.le G := by
  rcases hg with ⟨rfl, rfl, rfl⟩ | ⟨b, cl, hb, rfl, rfl⟩
  · exact ⟨F, .inl ⟨rfl, rfl, rfl⟩, hle⟩
  · have hb' : F b = none := by
      cases h : F b with
      | none => rfl
      | some k => rw [hle b k h] at hb; cases hb
    exact ⟨_, .inr ⟨b, cl, hb', rfl, rfl⟩, le_ch hle⟩
theorem le_none {F G : AHeap} {b : Nat} (h : F.le G) (hb : G b = none) : F b = none := by
  cases hq : F b with
  | none => rfl
  | some k => rw [h b k hq] at hb; cases hb
theorem c_goodProgram (F : AHeap) (br n : Nat) (K : ABlk) (t : List Class) (cl : Bool) (h : RdK n K) (hF : F br = none) (hn : n < 500000000) : ACalls Try.prog 58 [.ptr br 2 0 0, aTree t cl] (F.set br K) fun r H' =>
    ∃ (l : List Line) (G : AHeap) (K' : ABlk), Grow rLine 4 37 F G r l ∧ G br = none ∧ H' = G.set br K' ∧ RdK (n + 900000) K' ∧ 1 ≤ l.length ∧ l.length ≤ 24 := by
  refine acalls_of1 Try.func58 rfl (by kernel_rfl) rfl rfl (awp_sound (fz := fun _ => []) (im := fun s => s == 3) mixed _ _ _ _ (by kernel_rfl) ?_)
  simp +contextual -dsimp -implicitDefEqProofs (maxSteps := 5000000) only [go_sem, reduceIte, reduceCtorEq, Nat.reduceEqDiff, Nat.reduceBEq, Nat.reduceAdd, Nat.reduceLeDiff, Nat.reduceMul, Nat.reduceLT, Int.reduceEq, Int.reduceLT, Int.reduceLE]
  refine aloop mixed (fz := fun _ => []) (im := fun s => s == 3) (by kernel_rfl) (fun m tm H' => ∃ (F0 : AHeap) (K : ABlk) (i : Nat), m = 4 - i ∧ i ≤ 4 ∧ F.le F0 ∧ F0 br = none ∧ RdK (n + i * 180000) K ∧ H' = F0.set br K ∧ tm 0 = .ptr br 2 0 0 ∧ tm 3 = .vptr [[.vsl (t.map rClass) cl]] 0 0 ∧ tm 5 = I i) 4 ⟨F, K, 0, rfl, by omega, AHeap.le_refl _, hF, by simpa using h, rfl, ?_⟩ ?_
  · simp +contextual -dsimp -implicitDefEqProofs (maxSteps := 5000000) only [go_sem, reduceIte, reduceCtorEq, Nat.reduceEqDiff, Nat.reduceBEq, Nat.reduceAdd, Nat.reduceLeDiff, Nat.reduceMul, Nat.reduceLT, Int.reduceEq, Int.reduceLT, Int.reduceLE]
  · rintro m tm H' ⟨F0, K, i, rfl, hi, hle, fr, hK, rfl, t0, t3, t5⟩
    by_cases hlt : (i : Int) < 4
    · have hi4 : i < 4 := by omega
      simp +contextual -dsimp -implicitDefEqProofs (maxSteps := 5000000) only [go_sem, reduceIte, reduceCtorEq, Nat.reduceEqDiff, Nat.reduceBEq, Nat.reduceAdd, Nat.reduceLeDiff, Nat.reduceMul, Nat.reduceLT, Int.reduceEq, Int.reduceLT, Int.reduceLE, t0, t3, t5, hlt]
      refine (try0 F0 br _ K t cl false hK fr (by omega)).mono ?_
      rintro x H' ⟨l, G, K1, hg, fr1, rfl, hK1, h1, h2⟩
      simp +contextual -dsimp -implicitDefEqProofs (maxSteps := 5000000) only [go_sem, reduceIte, reduceCtorEq, Nat.reduceEqDiff, Nat.reduceBEq, Nat.reduceAdd, Nat.reduceLeDiff, Nat.reduceMul, Nat.reduceLT, Int.reduceEq, Int.reduceLT, Int.reduceLE, t0, t3, t5, hlt]
      refine k_pick 3 hK1 fr1 (by omega) rfl fun v K2 _ _ _ hK2 => ?_
      simp +contextual -dsimp -implicitDefEqProofs (maxSteps := 5000000) only [go_sem, reduceIte, reduceCtorEq, Nat.reduceEqDiff, Nat.reduceBEq, Nat.reduceAdd, Nat.reduceLeDiff, Nat.reduceMul, Nat.reduceLT, Int.reduceEq, Int.reduceLT, Int.reduceLE, t0, t3, t5, hlt]
      refine ⟨fun _ => ?_, fun _ => ?_⟩
      · refine (blk0.frz G br _ K2 t cl false hK2 fr1 (by omega)).mono ?_
        rintro _ H' ⟨l2, cl2, K3, rfl, rfl, hK3, h3, h4⟩
        simp +contextual -dsimp -implicitDefEqProofs (maxSteps := 5000000) only [go_sem, reduceIte, reduceCtorEq, Nat.reduceEqDiff, Nat.reduceBEq, Nat.reduceAdd, Nat.reduceLeDiff, Nat.reduceMul, Nat.reduceLT, Int.reduceEq, Int.reduceLT, Int.reduceLE, t0, t3, t5, hlt]
        refine app_lines (m := l2) (grow_in hg fr1) (by omega) rfl fun x' H' hg' => ?_
        obtain ⟨G1, hg1, rfl, u1⟩ := grow_out hg' (grow_none hg fr1)
        simp +contextual -dsimp -implicitDefEqProofs (maxSteps := 5000000) only [go_sem, reduceIte, reduceCtorEq, Nat.reduceEqDiff, Nat.reduceBEq, Nat.reduceAdd, Nat.reduceLeDiff, Nat.reduceMul, Nat.reduceLT, Int.reduceEq, Int.reduceLT, Int.reduceLE, t0, t3, t5, hlt]
        refine k_pick 4 hK3 u1 (by omega) rfl fun w K5 _ _ _ hK5 => ?_
        simp +contextual -dsimp -implicitDefEqProofs (maxSteps := 5000000) only [go_sem, reduceIte, reduceCtorEq, Nat.reduceEqDiff, Nat.reduceBEq, Nat.reduceAdd, Nat.reduceLeDiff, Nat.reduceMul, Nat.reduceLT, Int.reduceEq, Int.reduceLT, Int.reduceLE, t0, t3, t5, hlt]
        refine ⟨fun _ => ?_, fun _ => ?_⟩
        · refine (blk0 _ br _ _ t cl false hK5 u1 (by omega)).mono ?_
          rintro x6 H' ⟨l6, G6, K6, hg6, fr6, rfl, hK6, h5, h6⟩
          simp +contextual -dsimp -implicitDefEqProofs (maxSteps := 5000000) only [go_sem, reduceIte, reduceCtorEq, Nat.reduceEqDiff, Nat.reduceBEq, Nat.reduceAdd, Nat.reduceLeDiff, Nat.reduceMul, Nat.reduceLT, Int.reduceEq, Int.reduceLT, Int.reduceLE, t0, t3, t5, hlt]
          have hlen := grow_len te25 hg6
          simp +contextual -dsimp -implicitDefEqProofs (maxSteps := 5000000) only [go_sem, reduceIte, reduceCtorEq, Nat.reduceEqDiff, Nat.reduceBEq, Nat.reduceAdd, Nat.reduceLeDiff, Nat.reduceMul, Nat.reduceLT, Int.reduceEq, Int.reduceLT, Int.reduceLE, t0, t3, t5, hlt, hlen]
          refine ⟨fun h24 => ?_, fun h24 => ?_⟩
          · obtain ⟨G', hg', le'⟩ := grow_drop hg6 (AHeap.le_trans hle (grow_le hg1))
            refine retR_less (l := [x6]) (H' := G'.set br _) ?_ (le_ch le') ⟨_, G', _, hg', le_none le' fr6, rfl, rdk_mono hK6 (by omega), by first | omega | (simp; omega), by first | omega | (simp at h24 ⊢; omega)⟩
            simp only [resA, go_sem, reduceIte, reduceCtorEq, Nat.reduceEqDiff, Nat.reduceBEq, Nat.reduceAdd, Nat.reduceLeDiff, Nat.reduceMul, Nat.reduceLT, Int.reduceEq, Int.reduceLT, Int.reduceLE]
          · exact ⟨_, by omega, _, _, i + 1, rfl, by omega, AHeap.le_trans (AHeap.le_trans hle (grow_le hg1)) (grow_le hg6), fr6, rdk_mono hK6 (by omega), rfl, I_wrap (by omega) (by omega) (by omega)⟩
        · skip
          have hlen := grow_len te25 hg1
          simp +contextual -dsimp -implicitDefEqProofs (maxSteps := 5000000) only [go_sem, reduceIte, reduceCtorEq, Nat.reduceEqDiff, Nat.reduceBEq, Nat.reduceAdd, Nat.reduceLeDiff, Nat.reduceMul, Nat.reduceLT, Int.reduceEq, Int.reduceLT, Int.reduceLE, t0, t3, t5, hlt, hlen]
          refine ⟨fun h24 => ?_, fun h24 => ?_⟩
          · obtain ⟨G', hg', le'⟩ := grow_drop hg1 hle
            refine retR_less (l := [x']) (H' := G'.set br _) ?_ (le_ch le') ⟨_, G', _, hg', le_none le' u1, rfl, rdk_mono hK5 (by omega), by first | omega | (simp; omega), by first | omega | (simp at h24 ⊢; omega)⟩
            simp only [resA, go_sem, reduceIte, reduceCtorEq, Nat.reduceEqDiff, Nat.reduceBEq, Nat.reduceAdd, Nat.reduceLeDiff, Nat.reduceMul, Nat.reduceLT, Int.reduceEq, Int.reduceLT, Int.reduceLE]
          · exact ⟨_, by omega, _, _, i + 1, rfl, by omega, AHeap.le_trans hle (grow_le hg1), u1, rdk_mono hK5 (by omega), rfl, I_wrap (by omega) (by omega) (by omega)⟩
      · skip
        refine k_pick 4 hK2 fr1 (by omega) rfl fun w K5 _ _ _ hK5 => ?_
        simp +contextual -dsimp -implicitDefEqProofs (maxSteps := 5000000) only [go_sem, reduceIte, reduceCtorEq, Nat.reduceEqDiff, Nat.reduceBEq, Nat.reduceAdd, Nat.reduceLeDiff, Nat.reduceMul, Nat.reduceLT, Int.reduceEq, Int.reduceLT, Int.reduceLE, t0, t3, t5, hlt]
        refine ⟨fun _ => ?_, fun _ => ?_⟩
        · refine (blk0 _ br _ _ t cl false hK5 fr1 (by omega)).mono ?_
          rintro x6 H' ⟨l6, G6, K6, hg6, fr6, rfl, hK6, h5, h6⟩
          simp +contextual -dsimp -implicitDefEqProofs (maxSteps := 5000000) only [go_sem, reduceIte, reduceCtorEq, Nat.reduceEqDiff, Nat.reduceBEq, Nat.reduceAdd, Nat.reduceLeDiff, Nat.reduceMul, Nat.reduceLT, Int.reduceEq, Int.reduceLT, Int.reduceLE, t0, t3, t5, hlt]
          have hlen := grow_len te25 hg6
          simp +contextual -dsimp -implicitDefEqProofs (maxSteps := 5000000) only [go_sem, reduceIte, reduceCtorEq, Nat.reduceEqDiff, Nat.reduceBEq, Nat.reduceAdd, Nat.reduceLeDiff, Nat.reduceMul, Nat.reduceLT, Int.reduceEq, Int.reduceLT, Int.reduceLE, t0, t3, t5, hlt, hlen]
          refine ⟨fun h24 => ?_, fun h24 => ?_⟩
          · obtain ⟨G', hg', le'⟩ := grow_drop hg6 (AHeap.le_trans hle (grow_le hg))
            refine retR_less (l := [x6]) (H' := G'.set br _) ?_ (le_ch le') ⟨_, G', _, hg', le_none le' fr6, rfl, rdk_mono hK6 (by omega), by first | omega | (simp; omega), by first | omega | (simp at h24 ⊢; omega)⟩
            simp only [resA, go_sem, reduceIte, reduceCtorEq, Nat.reduceEqDiff, Nat.reduceBEq, Nat.reduceAdd, Nat.reduceLeDiff, Nat.reduceMul, Nat.reduceLT, Int.reduceEq, Int.reduceLT, Int.reduceLE]
          · exact ⟨_, by omega, _, _, i + 1, rfl, by omega, AHeap.le_trans (AHeap.le_trans hle (grow_le hg)) (grow_le hg6), fr6, rdk_mono hK6 (by omega), rfl, I_wrap (by omega) (by omega) (by omega)⟩
        · skip
          have hlen := grow_len te25 hg
          simp +contextual -dsimp -implicitDefEqProofs (maxSteps := 5000000) only [go_sem, reduceIte, reduceCtorEq, Nat.reduceEqDiff, Nat.reduceBEq, Nat.reduceAdd, Nat.reduceLeDiff, Nat.reduceMul, Nat.reduceLT, Int.reduceEq, Int.reduceLT, Int.reduceLE, t0, t3, t5, hlt, hlen]
          refine ⟨fun h24 => ?_, fun h24 => ?_⟩
          · obtain ⟨G', hg', le'⟩ := grow_drop hg hle
            refine retR_less (l := [x]) (H' := G'.set br _) ?_ (le_ch le') ⟨_, G', _, hg', le_none le' fr1, rfl, rdk_mono hK5 (by omega), by first | omega | (simp; omega), by first | omega | (simp at h24 ⊢; omega)⟩
            simp only [resA, go_sem, reduceIte, reduceCtorEq, Nat.reduceEqDiff, Nat.reduceBEq, Nat.reduceAdd, Nat.reduceLeDiff, Nat.reduceMul, Nat.reduceLT, Int.reduceEq, Int.reduceLT, Int.reduceLE]
          · exact ⟨_, by omega, _, _, i + 1, rfl, by omega, AHeap.le_trans hle (grow_le hg), fr1, rdk_mono hK5 (by omega), rfl, I_wrap (by omega) (by omega) (by omega)⟩
    · simp +contextual -dsimp -implicitDefEqProofs (maxSteps := 5000000) only [go_sem, reduceIte, reduceCtorEq, Nat.reduceEqDiff, Nat.reduceBEq, Nat.reduceAdd, Nat.reduceLeDiff, Nat.reduceMul, Nat.reduceLT, Int.reduceEq, Int.reduceLT, Int.reduceLE, t0, t3, t5, hlt]
      rintro b36 ⟨w1, w2, hb36⟩
      rw [br_out w1]
      have hb : F b36 = none := le_none hle hb36
      refine retR_less (l := [.sl b36 4 0 4 true]) (H' := (F.set b36 ⟨4, 37, ([⟨0, 7, 0, 0⟩, ⟨1, 2, 0, 1⟩, ⟨0, 10, 0, 0⟩, ⟨1, 1, 1, 0⟩] : List Line).map rLine⟩).set br K) ?_ (le_ch (le_ch hle)) ⟨_, _, K, .inr ⟨b36, true, hb, rfl, rfl⟩, by rw [set_other w2]; exact hF, rfl, rdk_mono hK (by omega), by simp, by simp⟩
      simp only [resA, go_sem, reduceIte, reduceCtorEq, Nat.reduceEqDiff, Nat.reduceBEq, Nat.reduceAdd, Nat.reduceLeDiff, Nat.reduceMul, Nat.reduceLT, Int.reduceEq, Int.reduceLT, Int.reduceLE]
end Go.Proofs.Ytbjgilehnlpmaaa
end
section
set_option linter.unusedVariables false
set_option linter.unusedSimpArgs false
namespace Go.Proofs.Ytbjgilehnlpmaaa
open Go Go.Sim
set_option maxRecDepth 100000
attribute [local go_sem ↓] aw_skip aw_ret aw_exit aw_region aw_draw aw_seq aw_block aw_loop aw_cond frz_nil frz_cons sq_normal sq_ret sq_exit exB_normal exB_ret exB_same exB_other retQ_ret retQ_normal ret0_ret ret0_normal ao_nil go1 g_move g_assign g_pick g_build g_load g_binOp g_unOp g_convert g_fieldAddr g_field g_indexAddr g_index g_extract g_slice g_nilCheck g_len g_makeFunc h_call h_append h_alloc h_box h_buildSlice h_makeSlice h_store gV i_box i_buildSlice i_move i_assign i_build i_load i_binOp i_unOp i_convert i_fieldAddr i_field i_indexAddr i_index i_extract i_slice i_nilCheck i_makeFunc i_len i_max i_min i_alloc i_makeSlice i_store i_append i_call i_pick boxI boxA buildSliceI buildSliceA makeSliceA allocA storeA p_move p_assign p_pick p_build p_load p_binOp p_unOp p_convert p_fieldAddr p_field p_indexAddr p_index p_extract p_slice p_nilCheck p_makeFunc p_len p_max p_min p_alloc p_box p_buildSlice p_makeSlice p_store p_append p_call x_nil x_go1 x_g0 x_g1 x_g2 x_g3 x_s0 x_s1 x_s2 x_s3 u_move u_assign u_pick u_build u_load u_binOp u_unOp u_convert u_fieldAddr u_field u_indexAddr u_index u_extract u_slice u_nilCheck u_makeFunc u_len u_buildSlice x_s4 x_g4 rq_normal rq_ret rq_exit aw_range
attribute [local go_sem] frzV_sl frzK_some set_none set_other AHeap.set_self set_del set_set cnd_t cnd_f cnd_b retA_one retA_two retA_three retA_four retA_nil gIf_b mrgV_b mrgV_wh mrgV_U gIf_U gIf_wh mrgB_f mrgB_some mrgB_if wh_true wh_false keepA_some keepA_if gD_zero gD_succ gT_some bxA_t bxA_f callA_fn ev_tmp ev_const ev_global ev_func oc_bool oc_int oc_string oc_nil oc_nilptr oc_nilfunc cl_bool cl_int cl_string cl_nil updO_some updO_none upd_same upd_other init_at pickA_b pickA_wh selA_t selA_f selA_and selA_or selA_orn selA_orm selA_bb selA_ii beqt b_add b_sub b_mul b_and b_or b_xor b_eql b_neq b_lss b_leq b_gtr b_geq b_quo b_rem b_shr b_seql b_sneq b_sadd b_beql b_bneq b_aeql b_aneq u_not u_neg isConstOp eqA eqCellV List.getD_cons_zero List.getD_cons_succ List.map_cons List.map_nil List.nil_append List.cons_append List.append_nil if_true if_false Option.map_some Option.map_none ne_eq not_false_eq_true oneA ldv ld1v ld1s wr1s ldRow stRow row_lit row_agg row_vsl row_sl row_ptr row_fn one_I one_B one_S one_vsl one_sl one_ptr one_fn extractA okA rI rS rU rClass rFault rExit rStart rLine Int.toNat_natCast List.length_cons List.length_nil List.length_map List.all_cons List.all_nil Bool.and_true Nat.zero_add List.getElem?_cons_zero List.getElem?_cons_succ List.take_succ_cons List.take_zero List.drop_succ_cons List.drop_zero and_self true_and and_true implies_true decide_eq_true_eq decide_eq_false_iff_not Bool.or_eq_true Bool.or_eq_false_iff Bool.and_eq_true Bool.not_eq_true' Bool.not_eq_false' beq_false decide_true decide_false Int.ofNat_lt Int.ofNat_le Int.natCast_nonneg Bool.or_true Bool.or_false Bool.true_or Bool.false_or beq_self_eq_true List.drop_one Bool.not_true Bool.not_false Bool.not_not Bool.false_eq_true Bool.true_eq_false false_implies true_implies Bool.true_and Bool.false_and Bool.and_false not_true_eq_false Int.natCast_eq_zero Int.natCast_pos Int.natCast_zero false_and and_false or_false false_or or_true true_or Bool.or_self none_le_iff List.replicate_zero Int.toNat_zero List.replicate_succ buildRows List.set_cons_zero List.set_cons_succ List.set_nil List.mapM_nil maxLen_eq Nat.zero_le Nat.mul_one Nat.one_mul bldA fillA spliceA List.take_nil List.drop_nil List.getElem?_nil ld1o wr1o bldSliceA le_same cv_i cvI_t quietT_fn qvd_some ld_o ldO_1 ldO_l wr_o wrO_1 set_2 set_3 set_4 putL_nil putL_cons List.zip_cons_cons List.zip_nil_left List.zip_nil_right List.toList_toArray frzV_set ti1 ti2 tk2 ti3 te3 ts3 tk3 tz3 ti4 tb4 ti5 tk5 tz5 ti9 te9 ts9 tk9 tz9 ti12 tk12 ti13 tp13 tf13_0 tf13_1 ti20 ti21 tk21 tz21 ti22 te22 ti23 tp23 tf23_0 ti24 tp24 tf24_0 ti25 te25 ti27 ti28 ti29 te29 ti30 te30 ti31 tp31 tf31_0 ti32 tp32 tf32_0 ti33 tp33 tf33_0 tf33_1 tf33_2 tf33_3 ti34 tp34 tf34_0 tf34_1 tf34_2 tf34_3 ti35 ti36 tq36 tp36 tf36_0 tf36_1 tf36_2 tf36_3 ti37 tq37 tp37 tf37_0 tf37_1 tf37_2 tf37_3 ti38 ti39 ti40 ti41 ti42 ti43 ti44 te44 tz44 ti46 ti47 ti48 ti49 ti50 ti51 ti52 tq52 tp52 tf52_0 tf52_1 ti53 tq53 tp53 tf53_0 tf53_1 ti54 ti55 tq55 tp55 tf55_0 tf55_1 tf55_2 tf55_3 tf55_4 ti56 tq56 tp56 tf56_0 tf56_1 tf56_2 tf56_3 tf56_4 ti57 ti58 ti59 ti60 ti61 ti62 ti63 ti64 ti65 ti66 ti67 ti68 ti69 ti70 tp70 tf70_0 tf70_1 tf70_2 tf70_3 tf70_4 ti71 tp71 tf71_0 tf71_1 tf71_2 tf71_3 tf71_4 ti73 ti74 ti75 ti76 ti77 ti78 ti79 ti80 tq80 tp80 tf80_0 tf80_1 ti81 tq81 tp81 tf81_0 tf81_1 ti82 ti83 ti84 ti85 ti86 ti87 ti88 ti89 ti90 tp90 tf90_0 tf90_1 ti91 tp91 tf91_0 tf91_1 ti92 ti93 ti94 ti95 ti96 ti97 ti98 ti99 ti100 ti101 ti102 ti103 te103 ti104 ti105 ti106 ti107 ti108 ti109 ti110 ti111 ti112 tk112 tz112 ti113 ti114 ti115 tk115 ti117 ti118 ti119 ti121 ti122 ti123 tk123 tz123 ti124 ti125 tk125 tz125 ti126 ti127 tk127 ti128 ti129 ti130 ti131 ti132 ti133 ti135 ti136 ti142 ti146 fp13_0 fv13_0 fp13_1 fv13_1 fp23_0 fv23_0 fp24_0 fv24_0 fp31_0 fv31_0 fp32_0 fv32_0 fp33_0 fv33_0 fp33_1 fv33_1 fp33_2 fv33_2 fp33_3 fv33_3 fp34_0 fv34_0 fp34_1 fv34_1 fp34_2 fv34_2 fp34_3 fv34_3 fp36_0 fv36_0 fp36_1 fv36_1 fp36_2 fv36_2 fp36_3 fv36_3 fp37_0 fv37_0 fp37_1 fv37_1 fp37_2 fv37_2 fp37_3 fv37_3 fp52_0 fv52_0 fp52_1 fv52_1 fp53_0 fv53_0 fp53_1 fv53_1 fp55_0 fv55_0 fp55_1 fv55_1 fp55_2 fv55_2 fp55_3 fv55_3 fp55_4 fv55_4 fp56_0 fv56_0 fp56_1 fv56_1 fp56_2 fv56_2 fp56_3 fv56_3 fp56_4 fv56_4 fp70_0 fv70_0 fp70_1 fv70_1 fp70_2 fv70_2 fp70_3 fv70_3 fp70_4 fv70_4 fp71_0 fv71_0 fp71_1 fv71_1 fp71_2 fv71_2 fp71_3 fv71_3 fp71_4 fv71_4 fp80_0 fv80_0 fp80_1 fv80_1 fp81_0 fv81_0 fp81_1 fv81_1 fp90_0 fv90_0 fp90_1 fv90_1 fp91_0 fv91_0 fp91_1 fv91_1 lv22 ll22 is22 ix22 sh22 so22 sb22 sm22 sp22 lv25 ll25 is25 ix25 sh25 so25 sb25 sm25 sp25 lv29 ll29 is29 ix29 sh29 so29 sb29 sm29 sp29 lv30 ll30 is30 ix30 sh30 so30 sb30 sm30 sp30 lv44 ll44 is44 ix44 sh44 so44 sb44 sm44 sp44 lv103 ll103 is103 ix103 sh103 so103 sb103 sm103 sp103 xs9 ls9 sx9 sy9 sz9
set_option maxHeartbeats 4000000

theorem c_someProgram0 (F : AHeap) (br n : Nat) (K : ABlk) (h : RdK n K) (hF : F br = none) (hn : n < 400000000) : ACalls Try.prog 35 [.ptr br 2 0 0] (F.set br K) fun r H' =>
    ∃ t cl x, ∃ l : List Line, ∃ cl' G K', r = .tup [aTree t cl, x] ∧ Fz (AHeap.set G br K') (F.set br K') x (.vsl (l.map rLine) cl') ∧ F.le G ∧ H' = G.set br K' ∧ RdK (n + 1000000) K' ∧ t.length ≤ 8 ∧ shortNames t ∧ l.length ≤ 24 := by
  refine acalls_of1 Try.func35 rfl (by kernel_rfl) rfl rfl (awp_sound (fz := fun r => if r = 13 then [5] else []) (im := fun s => s == 15 || s == 30 || s == 39 || s == 48) mixed _ _ _ _ (by kernel_rfl) ?_)
  simp +contextual -dsimp -implicitDefEqProofs (maxSteps := 5000000) only [go_sem, reduceIte, reduceCtorEq, Nat.reduceEqDiff, Nat.reduceBEq, Nat.reduceAdd, Nat.reduceLeDiff, Nat.reduceMul, Nat.reduceLT, Int.reduceEq, Int.reduceLT, Int.reduceLE]
  rintro b2 ⟨p1, p2, hb2⟩
  rw [br_out p1]
  have n2 : ∀ K4, (F.set b2 K4) br = none := fun K4 => by rw [set_other p2]; exact hF
  refine (c_someTreeF _ br n K h (n2 _) (by omega)).mono ?_
  rintro _ _ ⟨t, cl, K1, rfl, rfl, hK1, ht8, hs⟩
  simp +contextual -dsimp -implicitDefEqProofs (maxSteps := 5000000) only [go_sem, reduceIte, reduceCtorEq, Nat.reduceEqDiff, Nat.reduceBEq, Nat.reduceAdd, Nat.reduceLeDiff, Nat.reduceMul, Nat.reduceLT, Int.reduceEq, Int.reduceLT, Int.reduceLE, p1, p2]
  rintro b4 ⟨q1, q2, q3, q4, hb4⟩
  simp only [br_out q1]
  have n4 : ∀ K4 K5, ((F.set b2 K4).set b4 K5) br = none := fun K4 K5 => by rw [set_other q2]; exact n2 _
  refine ⟨fun h0 => ?_, fun h0 => ?_⟩
  · refine retR_less (l := [aTree t cl, .vsl [rLine ⟨0, 0, 0, 0⟩] true]) (H' := F.set br K1) ?_ (le_ch (le_s1 (le_s1 (AHeap.le_refl _) hb2) hb4)) ⟨t, cl, _, [⟨0, 0, 0, 0⟩], true, F, K1, rfl, .same _, AHeap.le_refl _, rfl, rdk_mono hK1 (by omega), ht8, hs, by simp⟩
    simp only [resA, go_sem, reduceIte, reduceCtorEq, Nat.reduceEqDiff, Nat.reduceBEq, Nat.reduceAdd, Nat.reduceLeDiff, Nat.reduceMul, Nat.reduceLT, Int.reduceEq, Int.reduceLT, Int.reduceLE, p1, p2, q1, q2, q3, q4]
  · refine (c_goodProgram _ br _ K1 t cl hK1 (n4 _ _) (by omega)).mono ?_
    rintro _ _ ⟨l, G0, K2, hg0, hr0, rfl, hK2, h1, h24⟩
    rcases hg0 with ⟨e, _, _⟩ | ⟨bx, clx, hbx, rfl, rfl⟩
    · rw [e] at h1; simp at h1
    have hbx' := hbx
    have hr' := hr0
    rw [set_none, set_none] at hbx'
    rw [set_none] at hr'
    obtain ⟨s1, s2, s3, s4, hbF⟩ := hbx'
    obtain ⟨s5, s6, _⟩ := hr'
    have n6 : ∀ (A C D : ABlk), (((F.set b2 A).set b4 C).set bx D) br = none := fun A C D => by rw [set_other s5]; exact n4 _ _
    have fin : ∀ (l' : List Line) (off len : Nat) (c' : Bool) (K3 : ABlk) (tm : Tm), off + len ≤ l'.length → len ≤ 24 → RdK (n + 1000000) K3 → tm 2 = .ptr b2 1 0 0 → tm 3 = .sl bx 4 off len c' → retR Try.prog [.cell 2 24, .tmp 3] (fun r H' => ∃ t cl x, ∃ l : List Line, ∃ cl' G K', r = .tup [aTree t cl, x] ∧ Fz (AHeap.set G br K') (F.set br K') x (.vsl (l.map rLine) cl') ∧ F.le G ∧ H' = G.set br K' ∧ RdK (n + 1000000) K' ∧ t.length ≤ 8 ∧ shortNames t ∧ l.length ≤ 24) tm
        ((((F.set b2 ⟨1, 24, [[.vsl (t.map rClass) cl]]⟩).set b4 ⟨1, 24, [[.vsl (t.map rClass) cl]]⟩).set bx ⟨4, 37, l'.map rLine⟩).set br K3) := by
      intro l' off len c' K3 tm hol hl24 hK3 h2 h3
      have hz := Fz.sl (H := (F.set bx ⟨4, 37, l'.map rLine⟩).set br K3) (K := F.set br K3) (b := bx) (sz := 4) (off := off) (len := len) (cl := c') (k := ⟨4, 37, l'.map rLine⟩) (by rw [set_other s6, AHeap.set_self]) rfl (by simpa using hol) (by rw [set_other s6]; exact hbF)
      have he : ((l'.map rLine).drop off).take len = ((l'.drop off).take len).map rLine := by rw [List.map_take, List.map_drop]
      simp only [he] at hz
      refine retR_less (l := [aTree t cl, .sl bx 4 off len c']) (H' := (F.set bx ⟨4, 37, l'.map rLine⟩).set br K3) ?_ (le_ch (le_ch (le_s1 (le_s1 (AHeap.le_refl _) hb2) hb4))) ⟨t, cl, _, (l'.drop off).take len, c', _, K3, rfl, hz, le_s1 (AHeap.le_refl _) hbF, rfl, hK3, ht8, hs, by simp; omega⟩
      simp only [resA, go_sem, reduceIte, reduceCtorEq, Nat.reduceEqDiff, Nat.reduceBEq, Nat.reduceAdd, Nat.reduceLeDiff, Nat.reduceMul, Nat.reduceLT, Int.reduceEq, Int.reduceLT, Int.reduceLE, p1, p2, q1, q2, q3, q4, s1, s2, s3, s4, s5, s6, h2, h3]
    have finV : ∀ (l' : List Line) (c' : Bool) (K3 : ABlk) (tm : Tm), l'.length ≤ 24 → RdK (n + 1000000) K3 → tm 2 = .ptr b2 1 0 0 → tm 3 = .vsl (l'.map rLine) c' → retR Try.prog [.cell 2 24, .tmp 3] (fun r H' => ∃ t cl x, ∃ l : List Line, ∃ cl' G K', r = .tup [aTree t cl, x] ∧ Fz (AHeap.set G br K') (F.set br K') x (.vsl (l.map rLine) cl') ∧ F.le G ∧ H' = G.set br K' ∧ RdK (n + 1000000) K' ∧ t.length ≤ 8 ∧ shortNames t ∧ l.length ≤ 24) tm
        (((F.set b2 ⟨1, 24, [[.vsl (t.map rClass) cl]]⟩).set b4 ⟨1, 24, [[.vsl (t.map rClass) cl]]⟩).set br K3) := by
      intro l' c' K3 tm hl24 hK3 h2 h3
      refine retR_less (l := [aTree t cl, .vsl (l'.map rLine) c']) (H' := F.set br K3) ?_ (le_ch (le_s1 (le_s1 (AHeap.le_refl _) hb2) hb4)) ⟨t, cl, _, l', c', F, K3, rfl, .same _, AHeap.le_refl _, rfl, hK3, ht8, hs, hl24⟩
      simp only [resA, go_sem, reduceIte, reduceCtorEq, Nat.reduceEqDiff, Nat.reduceBEq, Nat.reduceAdd, Nat.reduceLeDiff, Nat.reduceMul, Nat.reduceLT, Int.reduceEq, Int.reduceLT, Int.reduceLE, p1, p2, q1, q2, q3, q4, h2, h3]
    have htk : List.take l.length (l.map rLine) = l.map rLine := List.take_of_length_le (by simp)
    have delx : ∀ (G : AHeap) (L K : ABlk), G bx = none → ((G.set bx L).set br K).del bx = G.set br K := fun G L K hG => by rw [set_comm s6, set_del (by rw [set_other s6]; exact hG)]
    simp +contextual -dsimp -implicitDefEqProofs (maxSteps := 5000000) only [go_sem, reduceIte, reduceCtorEq, Nat.reduceEqDiff, Nat.reduceBEq, Nat.reduceAdd, Nat.reduceLeDiff, Nat.reduceMul, Nat.reduceLT, Int.reduceEq, Int.reduceLT, Int.reduceLE, p1, p2, q1, q2, q3, q4, s1, s2, s3, s4, s5, s6]
    refine k_pick l.length hK2 (n6 _ _ _) (by omega) rfl fun v K3 v0 v1 _ hK3 => ?_
    have vl := v1 (by omega)
    have vn : v.toNat < l.length := by omega
    simp +contextual -dsimp -implicitDefEqProofs (maxSteps := 5000000) only [go_sem, reduceIte, reduceCtorEq, Nat.reduceEqDiff, Nat.reduceBEq, Nat.reduceAdd, Nat.reduceLeDiff, Nat.reduceMul, Nat.reduceLT, Int.reduceEq, Int.reduceLT, Int.reduceLE, p1, p2, q1, q2, q3, q4, s1, s2, s3, s4, s5, s6]
    refine k_pick 24 hK3 (n6 _ _ _) (by omega) rfl fun z K4 _ _ _ hK4 => ?_
    by_cases c0 : z = 0
    · simp +contextual -dsimp -implicitDefEqProofs (maxSteps := 5000000) only [go_sem, reduceIte, reduceCtorEq, Nat.reduceEqDiff, Nat.reduceBEq, Nat.reduceAdd, Nat.reduceLeDiff, Nat.reduceMul, Nat.reduceLT, Int.reduceEq, Int.reduceLT, Int.reduceLE, c0, p1, p2, q1, q2, q3, q4, s1, s2, s3, s4, s5, s6]
      refine k_one [-1, 6, 0, 1] _ hK4 (n6 _ _ _) (by omega) (by simp) rfl rfl fun s K5 _ hK5 => ?_
      simp +contextual -dsimp -implicitDefEqProofs (maxSteps := 5000000) only [go_sem, reduceIte, reduceCtorEq, Nat.reduceEqDiff, Nat.reduceBEq, Nat.reduceAdd, Nat.reduceLeDiff, Nat.reduceMul, Nat.reduceLT, Int.reduceEq, Int.reduceLT, Int.reduceLE, c0, p1, p2, q1, q2, q3, q4, s1, s2, s3, s4, s5, s6, v0, vl, vn]
      rw [wrO_y (y := { l.getD v.toNat default with depth := s }) vn rfl]
      simp +contextual -dsimp -implicitDefEqProofs (maxSteps := 5000000) only [go_sem, reduceIte, reduceCtorEq, Nat.reduceEqDiff, Nat.reduceBEq, Nat.reduceAdd, Nat.reduceLeDiff, Nat.reduceMul, Nat.reduceLT, Int.reduceEq, Int.reduceLT, Int.reduceLE, c0, p1, p2, q1, q2, q3, q4, s1, s2, s3, s4, s5, s6, v0, vl, vn]
      refine fin (l.set v.toNat { l.getD v.toNat default with depth := s }) 0 l.length clx K5 _ (by simp) h24 (rdk_mono hK5 (by omega)) rfl rfl
    by_cases c1 : z = 1
    · simp +contextual -dsimp -implicitDefEqProofs (maxSteps := 5000000) only [go_sem, reduceIte, reduceCtorEq, Nat.reduceEqDiff, Nat.reduceBEq, Nat.reduceAdd, Nat.reduceLeDiff, Nat.reduceMul, Nat.reduceLT, Int.reduceEq, Int.reduceLT, Int.reduceLE, c0, c1, p1, p2, q1, q2, q3, q4, s1, s2, s3, s4, s5, s6]
      refine k_one [-1, 13, 5, 9, 0] _ hK4 (n6 _ _ _) (by omega) (by simp) rfl rfl fun s K5 _ hK5 => ?_
      simp +contextual -dsimp -implicitDefEqProofs (maxSteps := 5000000) only [go_sem, reduceIte, reduceCtorEq, Nat.reduceEqDiff, Nat.reduceBEq, Nat.reduceAdd, Nat.reduceLeDiff, Nat.reduceMul, Nat.reduceLT, Int.reduceEq, Int.reduceLT, Int.reduceLE, c0, c1, p1, p2, q1, q2, q3, q4, s1, s2, s3, s4, s5, s6, v0, vl, vn]
      rw [wrO_y (y := { l.getD v.toNat default with kind := s }) vn rfl]
      simp +contextual -dsimp -implicitDefEqProofs (maxSteps := 5000000) only [go_sem, reduceIte, reduceCtorEq, Nat.reduceEqDiff, Nat.reduceBEq, Nat.reduceAdd, Nat.reduceLeDiff, Nat.reduceMul, Nat.reduceLT, Int.reduceEq, Int.reduceLT, Int.reduceLE, c0, c1, p1, p2, q1, q2, q3, q4, s1, s2, s3, s4, s5, s6, v0, vl, vn]
      refine fin (l.set v.toNat { l.getD v.toNat default with kind := s }) 0 l.length clx K5 _ (by simp) h24 (rdk_mono hK5 (by omega)) rfl rfl
    by_cases c2 : z = 2
    · simp +contextual -dsimp -implicitDefEqProofs (maxSteps := 5000000) only [go_sem, reduceIte, reduceCtorEq, Nat.reduceEqDiff, Nat.reduceBEq, Nat.reduceAdd, Nat.reduceLeDiff, Nat.reduceMul, Nat.reduceLT, Int.reduceEq, Int.reduceLT, Int.reduceLE, c0, c1, c2, p1, p2, q1, q2, q3, q4, s1, s2, s3, s4, s5, s6]
      refine k_one [-1, 100, 8] _ hK4 (n6 _ _ _) (by omega) (by simp) rfl rfl fun s K5 _ hK5 => ?_
      simp +contextual -dsimp -implicitDefEqProofs (maxSteps := 5000000) only [go_sem, reduceIte, reduceCtorEq, Nat.reduceEqDiff, Nat.reduceBEq, Nat.reduceAdd, Nat.reduceLeDiff, Nat.reduceMul, Nat.reduceLT, Int.reduceEq, Int.reduceLT, Int.reduceLE, c0, c1, c2, p1, p2, q1, q2, q3, q4, s1, s2, s3, s4, s5, s6, v0, vl, vn]
      rw [wrO_y (y := { l.getD v.toNat default with a := s }) vn rfl]
      simp +contextual -dsimp -implicitDefEqProofs (maxSteps := 5000000) only [go_sem, reduceIte, reduceCtorEq, Nat.reduceEqDiff, Nat.reduceBEq, Nat.reduceAdd, Nat.reduceLeDiff, Nat.reduceMul, Nat.reduceLT, Int.reduceEq, Int.reduceLT, Int.reduceLE, c0, c1, c2, p1, p2, q1, q2, q3, q4, s1, s2, s3, s4, s5, s6, v0, vl, vn]
      refine fin (l.set v.toNat { l.getD v.toNat default with a := s }) 0 l.length clx K5 _ (by simp) h24 (rdk_mono hK5 (by omega)) rfl rfl
    by_cases c3 : z = 3
    · simp +contextual -dsimp -implicitDefEqProofs (maxSteps := 5000000) only [go_sem, reduceIte, reduceCtorEq, Nat.reduceEqDiff, Nat.reduceBEq, Nat.reduceAdd, Nat.reduceLeDiff, Nat.reduceMul, Nat.reduceLT, Int.reduceEq, Int.reduceLT, Int.reduceLE, c0, c1, c2, c3, p1, p2, q1, q2, q3, q4, s1, s2, s3, s4, s5, s6]
      refine ⟨Nat.le_refl _, ?_⟩
      have h1i : (1 : Int) ≤ l.length := by omega
      rw [delx _ _ _ hbx, htk]
      simp +contextual -dsimp -implicitDefEqProofs (maxSteps := 5000000) only [go_sem, reduceIte, reduceCtorEq, Nat.reduceEqDiff, Nat.reduceBEq, Nat.reduceAdd, Nat.reduceLeDiff, Nat.reduceMul, Nat.reduceLT, Int.reduceEq, Int.reduceLT, Int.reduceLE, h1i, c0, c1, c2, c3, p1, p2, q1, q2, q3, q4, s1, s2, s3, s4, s5, s6]
      refine finV (l.drop 1) clx K4 _ (by simp; omega) (rdk_mono hK4 (by omega)) rfl rfl
    · simp +contextual -dsimp -implicitDefEqProofs (maxSteps := 5000000) only [go_sem, reduceIte, reduceCtorEq, Nat.reduceEqDiff, Nat.reduceBEq, Nat.reduceAdd, Nat.reduceLeDiff, Nat.reduceMul, Nat.reduceLT, Int.reduceEq, Int.reduceLT, Int.reduceLE, c0, c1, c2, c3, p1, p2, q1, q2, q3, q4, s1, s2, s3, s4, s5, s6]
      refine ⟨Nat.le_refl _, ?_⟩
      rw [delx _ _ _ hbx]
      simp +contextual -dsimp -implicitDefEqProofs (maxSteps := 5000000) only [go_sem, reduceIte, reduceCtorEq, Nat.reduceEqDiff, Nat.reduceBEq, Nat.reduceAdd, Nat.reduceLeDiff, Nat.reduceMul, Nat.reduceLT, Int.reduceEq, Int.reduceLT, Int.reduceLE, htk, c0, c1, c2, c3, p1, p2, q1, q2, q3, q4, s1, s2, s3, s4, s5, s6]
      refine finV l clx K4 _ h24 (rdk_mono hK4 (by omega)) rfl rfl
theorem c_someProgram (F : AHeap) (br n : Nat) (K : ABlk) (h : RdK n K) (hF : F br = none) (hn : n < 400000000) : ACalls Try.prog 35 [.ptr br 2 0 0] (F.set br K) fun r H' =>
    ∃ t cl, ∃ l : List Line, ∃ cl' K', r = .tup [aTree t cl, .vsl (l.map rLine) cl'] ∧ H' = F.set br K' ∧ RdK (n + 1000000) K' ∧ t.length ≤ 8 ∧ shortNames t ∧ l.length ≤ 24 := by
  refine acalls_fz (c_someProgram0 F br n K h hF hn) ?_
  rintro _ _ ⟨t, cl, x, l, cl', G, K', rfl, hz, hle, rfl, hK, ht, hs, hl⟩
  exact ⟨_, F.set br K', le_ch hle, fz_tup (.cons (.same _) (.cons hz .nil)), t, cl, l, cl', K', rfl, rfl, hK, ht, hs, hl⟩
end Go.Proofs.Ytbjgilehnlpmaaa
end
section
set_option linter.unusedVariables false
set_option linter.unusedSimpArgs false
namespace Go.Proofs.Ytbjgilehnlpmaaa
open Go Go.Sim
set_option maxRecDepth 100000
attribute [local go_sem ↓] aw_skip aw_ret aw_exit aw_region aw_draw aw_seq aw_block aw_loop aw_cond frz_nil frz_cons sq_normal sq_ret sq_exit exB_normal exB_ret exB_same exB_other retQ_ret retQ_normal ret0_ret ret0_normal ao_nil go1 g_move g_assign g_pick g_build g_load g_binOp g_unOp g_convert g_fieldAddr g_field g_indexAddr g_index g_extract g_slice g_nilCheck g_len g_makeFunc h_call h_append h_alloc h_box h_buildSlice h_makeSlice h_store gV i_box i_buildSlice i_move i_assign i_build i_load i_binOp i_unOp i_convert i_fieldAddr i_field i_indexAddr i_index i_extract i_slice i_nilCheck i_makeFunc i_len i_max i_min i_alloc i_makeSlice i_store i_append i_call i_pick boxI boxA buildSliceI buildSliceA makeSliceA allocA storeA p_move p_assign p_pick p_build p_load p_binOp p_unOp p_convert p_fieldAddr p_field p_indexAddr p_index p_extract p_slice p_nilCheck p_makeFunc p_len p_max p_min p_alloc p_box p_buildSlice p_makeSlice p_store p_append p_call x_nil x_go1 x_g0 x_g1 x_g2 x_g3 x_s0 x_s1 x_s2 x_s3 u_move u_assign u_pick u_build u_load u_binOp u_unOp u_convert u_fieldAddr u_field u_indexAddr u_index u_extract u_slice u_nilCheck u_makeFunc u_len u_buildSlice x_s4 x_g4 rq_normal rq_ret rq_exit aw_range
attribute [local go_sem] frzV_sl frzK_some set_none set_other AHeap.set_self set_del set_set cnd_t cnd_f cnd_b retA_one retA_two retA_three retA_four retA_nil gIf_b mrgV_b mrgV_wh mrgV_U gIf_U gIf_wh mrgB_f mrgB_some mrgB_if wh_true wh_false keepA_some keepA_if gD_zero gD_succ gT_some bxA_t bxA_f callA_fn ev_tmp ev_const ev_global ev_func oc_bool oc_int oc_string oc_nil oc_nilptr oc_nilfunc cl_bool cl_int cl_string cl_nil updO_some updO_none upd_same upd_other init_at pickA_b pickA_wh selA_t selA_f selA_and selA_or selA_orn selA_orm selA_bb selA_ii beqt b_add b_sub b_mul b_and b_or b_xor b_eql b_neq b_lss b_leq b_gtr b_geq b_quo b_rem b_shr b_seql b_sneq b_sadd b_beql b_bneq b_aeql b_aneq u_not u_neg isConstOp eqA eqCellV List.getD_cons_zero List.getD_cons_succ List.map_cons List.map_nil List.nil_append List.cons_append List.append_nil if_true if_false Option.map_some Option.map_none ne_eq not_false_eq_true oneA ldv ld1v ld1s wr1s ldRow stRow row_lit row_agg row_vsl row_sl row_ptr row_fn one_I one_B one_S one_vsl one_sl one_ptr one_fn extractA okA rI rS rU rClass rFault rExit rStart rLine Int.toNat_natCast List.length_cons List.length_nil List.length_map List.all_cons List.all_nil Bool.and_true Nat.zero_add List.getElem?_cons_zero List.getElem?_cons_succ List.take_succ_cons List.take_zero List.drop_succ_cons List.drop_zero and_self true_and and_true implies_true decide_eq_true_eq decide_eq_false_iff_not Bool.or_eq_true Bool.or_eq_false_iff Bool.and_eq_true Bool.not_eq_true' Bool.not_eq_false' beq_false decide_true decide_false Int.ofNat_lt Int.ofNat_le Int.natCast_nonneg Bool.or_true Bool.or_false Bool.true_or Bool.false_or beq_self_eq_true List.drop_one Bool.not_true Bool.not_false Bool.not_not Bool.false_eq_true Bool.true_eq_false false_implies true_implies Bool.true_and Bool.false_and Bool.and_false not_true_eq_false Int.natCast_eq_zero Int.natCast_pos Int.natCast_zero false_and and_false or_false false_or or_true true_or Bool.or_self none_le_iff List.replicate_zero Int.toNat_zero List.replicate_succ buildRows List.set_cons_zero List.set_cons_succ List.set_nil List.mapM_nil maxLen_eq Nat.zero_le Nat.mul_one Nat.one_mul bldA fillA spliceA List.take_nil List.drop_nil List.getElem?_nil ld1o wr1o bldSliceA le_same cv_i cvI_t quietT_fn qvd_some ld_o ldO_1 ldO_l wr_o wrO_1 set_2 set_3 set_4 putL_nil putL_cons List.zip_cons_cons List.zip_nil_left List.zip_nil_right List.toList_toArray frzV_set ti1 ti2 tk2 ti3 te3 ts3 tk3 tz3 ti4 tb4 ti5 tk5 tz5 ti9 te9 ts9 tk9 tz9 ti12 tk12 ti13 tp13 tf13_0 tf13_1 ti20 ti21 tk21 tz21 ti22 te22 ti23 tp23 tf23_0 ti24 tp24 tf24_0 ti25 te25 ti27 ti28 ti29 te29 ti30 te30 ti31 tp31 tf31_0 ti32 tp32 tf32_0 ti33 tp33 tf33_0 tf33_1 tf33_2 tf33_3 ti34 tp34 tf34_0 tf34_1 tf34_2 tf34_3 ti35 ti36 tq36 tp36 tf36_0 tf36_1 tf36_2 tf36_3 ti37 tq37 tp37 tf37_0 tf37_1 tf37_2 tf37_3 ti38 ti39 ti40 ti41 ti42 ti43 ti44 te44 tz44 ti46 ti47 ti48 ti49 ti50 ti51 ti52 tq52 tp52 tf52_0 tf52_1 ti53 tq53 tp53 tf53_0 tf53_1 ti54 ti55 tq55 tp55 tf55_0 tf55_1 tf55_2 tf55_3 tf55_4 ti56 tq56 tp56 tf56_0 tf56_1 tf56_2 tf56_3 tf56_4 ti57 ti58 ti59 ti60 ti61 ti62 ti63 ti64 ti65 ti66 ti67 ti68 ti69 ti70 tp70 tf70_0 tf70_1 tf70_2 tf70_3 tf70_4 ti71 tp71 tf71_0 tf71_1 tf71_2 tf71_3 tf71_4 ti73 ti74 ti75 ti76 ti77 ti78 ti79 ti80 tq80 tp80 tf80_0 tf80_1 ti81 tq81 tp81 tf81_0 tf81_1 ti82 ti83 ti84 ti85 ti86 ti87 ti88 ti89 ti90 tp90 tf90_0 tf90_1 ti91 tp91 tf91_0 tf91_1 ti92 ti93 ti94 ti95 ti96 ti97 ti98 ti99 ti100 ti101 ti102 ti103 te103 ti104 ti105 ti106 ti107 ti108 ti109 ti110 ti111 ti112 tk112 tz112 ti113 ti114 ti115 tk115 ti117 ti118 ti119 ti121 ti122 ti123 tk123 tz123 ti124 ti125 tk125 tz125 ti126 ti127 tk127 ti128 ti129 ti130 ti131 ti132 ti133 ti135 ti136 ti142 ti146 fp13_0 fv13_0 fp13_1 fv13_1 fp23_0 fv23_0 fp24_0 fv24_0 fp31_0 fv31_0 fp32_0 fv32_0 fp33_0 fv33_0 fp33_1 fv33_1 fp33_2 fv33_2 fp33_3 fv33_3 fp34_0 fv34_0 fp34_1 fv34_1 fp34_2 fv34_2 fp34_3 fv34_3 fp36_0 fv36_0 fp36_1 fv36_1 fp36_2 fv36_2 fp36_3 fv36_3 fp37_0 fv37_0 fp37_1 fv37_1 fp37_2 fv37_2 fp37_3 fv37_3 fp52_0 fv52_0 fp52_1 fv52_1 fp53_0 fv53_0 fp53_1 fv53_1 fp55_0 fv55_0 fp55_1 fv55_1 fp55_2 fv55_2 fp55_3 fv55_3 fp55_4 fv55_4 fp56_0 fv56_0 fp56_1 fv56_1 fp56_2 fv56_2 fp56_3 fv56_3 fp56_4 fv56_4 fp70_0 fv70_0 fp70_1 fv70_1 fp70_2 fv70_2 fp70_3 fv70_3 fp70_4 fv70_4 fp71_0 fv71_0 fp71_1 fv71_1 fp71_2 fv71_2 fp71_3 fv71_3 fp71_4 fv71_4 fp80_0 fv80_0 fp80_1 fv80_1 fp81_0 fv81_0 fp81_1 fv81_1 fp90_0 fv90_0 fp90_1 fv90_1 fp91_0 fv91_0 fp91_1 fv91_1 lv22 ll22 is22 ix22 sh22 so22 sb22 sm22 sp22 lv25 ll25 is25 ix25 sh25 so25 sb25 sm25 sp25 lv29 ll29 is29 ix29 sh29 so29 sb29 sm29 sp29 lv30 ll30 is30 ix30 sh30 so30 sb30 sm30 sp30 lv44 ll44 is44 ix44 sh44 so44 sb44 sm44 sp44 lv103 ll103 is103 ix103 sh103 so103 sb103 sm103 sp103 xs9 ls9 sx9 sy9 sz9
set_option maxHeartbeats 4000000

/-- What is still to be read: ends of blocks, the innermost one first. -/
def flatS : List (Int × Fo) → List Line
  | [] => []
  | q :: s => q.2.flat q.1 ++ flatS s
def StkOk (t : List Class) : List (Int × Fo) → Prop
  | [] => True
  | q :: s => Low q.1 (flatS s) ∧ numsF t q.2 q.1 = true ∧ StkOk t s
def mapS (g : Fo → Fo) (s : List (Int × Fo)) : List (Int × Fo) := s.map fun q => (q.1, g q.2)
theorem stk_top {t : List Class} {l : Line} {r : List Line} : ∀ s : List (Int × Fo), StkOk t s → flatS s = l :: r → ∃ d k a b kids rest s', StkOk t ((d, .node k a b kids rest) :: s') ∧ flatS ((d, .node k a b kids rest) :: s') = flatS s ∧ ∀ g : Fo → Fo, g .nil = .nil → flatS (mapS g ((d, .node k a b kids rest) :: s')) = flatS (mapS g s)
  | [], _, h => by cases h
  | (d, .nil) :: s, ok, h => by
    obtain ⟨d, k, a, b, kids, rest, s', h1, h2, h3⟩ := stk_top s ok.2.2 (by simpa [flatS, Fo.flat] using h)
    refine ⟨d, k, a, b, kids, rest, s', h1, by simpa [flatS, Fo.flat] using h2, fun g hg => ?_⟩
    rw [h3 g hg]; simp [mapS, flatS, hg, Fo.flat]
  | (d, .node k a b kids rest) :: s, ok, h => ⟨d, k, a, b, kids, rest, s, ok, rfl, fun _ _ => rfl⟩
theorem stk_at {p : List Line} {i : Nat} {d : Int} {f : Fo} {s : List (Int × Fo)} {t : List Class} (h : p.drop i = flatS ((d, f) :: s)) (hi : i ≤ p.length) (ok : StkOk t ((d, f) :: s)) : At p i d f :=
  ⟨p.take i, flatS s, by have := List.take_append_drop i p; rw [h] at this; exact this.symm, by rw [List.length_take]; omega, ok.1⟩
theorem stk_low {t : List Class} {d : Int} {f : Fo} {s : List (Int × Fo)} (ok : StkOk t ((d, f) :: s)) : Low (d + 1) (f.flat d ++ flatS s) := low_flat ok.1
theorem drop_add' {p : List Line} {i : Nat} {l r : List Line} (h : p.drop i = l ++ r) : p.drop (i + l.length) = r := by
  rw [← List.drop_drop, h, List.drop_left]
theorem stk_nil {g : Fo → Fo} (hg : g .nil = .nil) : ∀ s : List (Int × Fo), flatS s = [] → flatS (mapS g s) = []
  | [], _ => rfl
  | (d, .nil) :: s, h => by
    have := stk_nil hg s (by simpa [flatS, Fo.flat] using h)
    simpa [mapS, flatS, hg, Fo.flat] using this
  | (d, .node k a b kids rest) :: s, h => by simp [flatS, Fo.flat] at h
theorem c_slowered {t : List Class} : ∀ (n : Nat) (f : Fo) (d : Int) (cl : Bool) (H : AHeap), f.size < n → f.size ≤ 10000 → numsF t f d = true → ACalls Try.prog 22 [aProg (f.flat d) cl] H fun r H' => Grow rLine 4 37 H H' r ((lowerF f).flat d) := by
  intro n
  induction n with
  | zero => intro f d cl H h; omega
  | succ n ih =>
    intro f d cl H hfn hf24 hnf
    have hfl := flat_len f d
    have hll := lowerF_flat_len f d
    refine acalls_of0 Try.func22 rfl (by kernel_rfl) rfl rfl (awp_sound (fz := fun r => if r = 4 then [5] else []) (im := fun s => s == 7 || s == 26 || s == 42 || s == 62) mixed _ _ _ _ (by kernel_rfl) ?_)
    simp +contextual -dsimp -implicitDefEqProofs (maxSteps := 5000000) only [go_sem, reduceIte, reduceCtorEq, Nat.reduceEqDiff, Nat.reduceBEq, Nat.reduceAdd, Nat.reduceLeDiff, Nat.reduceMul, Nat.reduceLT, Int.reduceEq, Int.reduceLT, Int.reduceLE]
    refine aloop mixed (fz := fun r => if r = 4 then [5] else []) (im := fun s => s == 7 || s == 26 || s == 42 || s == 62) (by kernel_rfl) (fun m tm H' => ∃ (q : Nat) (s : List (Int × Fo)) (out : List Line) (x : AV), m = f.size - q ∧ q ≤ f.size ∧ (f.flat d).drop q = flatS s ∧ StkOk t s ∧ Grow rLine 4 37 H H' x out ∧ out ++ flatS (mapS lowerF s) = (lowerF f).flat d ∧ tm 0 = aProg (f.flat d) cl ∧ tm 3 = x ∧ tm 4 = I q) f.size ⟨0, [(d, f)], [], _, rfl, Nat.zero_le _, by simp [flatS], ⟨low_nil _, hnf, trivial⟩, grow_nil, by simp [mapS, flatS], ?_⟩ ?_
    · simp +contextual -dsimp -implicitDefEqProofs (maxSteps := 5000000) only [go_sem, reduceIte, reduceCtorEq, Nat.reduceEqDiff, Nat.reduceBEq, Nat.reduceAdd, Nat.reduceLeDiff, Nat.reduceMul, Nat.reduceLT, Int.reduceEq, Int.reduceLT, Int.reduceLE]
    · rintro m tm H' ⟨q, s, out, x, rfl, hq, hdr, ok, hg, he, t0, t3, t4⟩
      have hol : out.length ≤ 4 * f.size := by
        have := congrArg List.length he
        rw [List.length_append] at this
        omega
      by_cases hlt : q < f.size
      · have hlt' : q < (f.flat d).length := by omega
        have hne : ∃ l r, flatS s = l :: r := by
          rw [← hdr, List.drop_eq_getElem_cons hlt']
          exact ⟨_, _, rfl⟩
        obtain ⟨l, r, hlr⟩ := hne
        obtain ⟨d1, k, a, b, kids, rest, s', ok', e1, e2⟩ := stk_top s ok hlr
        rw [← e1] at hdr
        rw [← e2 lowerF rfl] at he
        have hat := stk_at hdr (by omega) ok'
        obtain ⟨o1, o2, o3⟩ := ok'
        obtain ⟨n1, n2, n3, n4, n5⟩ := numsF_node o2
        have hh := hat.head
        have hd := inR5 n2
        have hksub := hat.kids.sub
        have hkl := hat.kids.len
        have hlk := lowerF_flat_len kids (d1 + 1)
        have hwq : IntKind.i64.wrap ((q : Int) + 1) = ((q + 1 : Nat) : Int) := by rw [w64 (by omega) (by omega)]; rfl
        have hwd : IntKind.i64.wrap (d1 + 1) = d1 + 1 := w64 (by omega) (by omega)
        simp +contextual -dsimp -implicitDefEqProofs (maxSteps := 5000000) only [go_sem, reduceIte, reduceCtorEq, Nat.reduceEqDiff, Nat.reduceBEq, Nat.reduceAdd, Nat.reduceLeDiff, Nat.reduceMul, Nat.reduceLT, Int.reduceEq, Int.reduceLT, Int.reduceLE, t0, t3, t4, hh.1, hh.2]
        rintro b5 hb5
        have hlow := low_flat (f := rest) o1
        by_cases hc : k = 11 ∧ b = 0
        · obtain ⟨k11, b0⟩ := hc
          have el : flatS (mapS lowerF ((d1, .node k a b kids rest) :: s')) = [⟨d1, 1, a, 0⟩, ⟨d1, 7, 0, 0⟩] ++ ((lowerF kids).flat (d1 + 1) ++ ([⟨d1, 10, 0, 0⟩, ⟨d1 + 1, 1, a, 0⟩] ++ flatS (mapS lowerF ((d1, rest) :: s')))) := by
            simp only [mapS, List.map_cons, flatS, lowerF]; rw [if_pos ⟨k11, b0⟩]; simp [Fo.flat]
          rw [el] at he
          have hdr' : (f.flat d).drop (q + 1 + kids.size) = flatS ((d1, rest) :: s') := by
            have h1 : flatS ((d1, Fo.node k a b kids rest) :: s') = (⟨d1, k, a, b⟩ :: kids.flat (d1 + 1)) ++ flatS ((d1, rest) :: s') := by simp [flatS, Fo.flat]
            rw [h1] at hdr
            have h2 := drop_add' hdr
            rw [List.length_cons, flat_len] at h2
            rw [← h2]; congr 1; omega
          subst k11; subst b0
          simp +contextual -dsimp -implicitDefEqProofs (maxSteps := 5000000) only [go_sem, reduceIte, reduceCtorEq, Nat.reduceEqDiff, Nat.reduceBEq, Nat.reduceAdd, Nat.reduceLeDiff, Nat.reduceMul, Nat.reduceLT, Int.reduceEq, Int.reduceLT, Int.reduceLE, t0, t3, t4, hh.1, hh.2]
          refine (c_blockEnd (f.flat d) cl q _ hh.1).det ?_
          rw [hat.endP]
          simp +contextual -dsimp -implicitDefEqProofs (maxSteps := 5000000) only [go_sem, reduceIte, reduceCtorEq, Nat.reduceEqDiff, Nat.reduceBEq, Nat.reduceAdd, Nat.reduceLeDiff, Nat.reduceMul, Nat.reduceLT, Int.reduceEq, Int.reduceLT, Int.reduceLE, t0, t3, t4, hh.1, hh.2]
          have hol2 : out.length + 2 + (lowerF kids).size + 2 ≤ 4 * f.size := by
            have := congrArg List.length he
            simp [flat_len] at this
            have := lowerF_flat_len f d
            rw [flat_len] at this
            omega
          refine app_lines (m := [⟨d1, 1, a, 0⟩, ⟨d1, 7, 0, 0⟩]) hg (by simp; omega) rfl fun x1 H1 hg1 => ?_
          simp +contextual -dsimp -implicitDefEqProofs (maxSteps := 5000000) only [go_sem, reduceIte, reduceCtorEq, Nat.reduceEqDiff, Nat.reduceBEq, Nat.reduceAdd, Nat.reduceLeDiff, Nat.reduceMul, Nat.reduceLT, Int.reduceEq, Int.reduceLT, Int.reduceLE, t0, t3, t4, hh.1, hh.2, hwq]
          rw [hksub]
          refine ⟨⟨by omega, by omega⟩, ?_⟩
          refine acalls_frz (ih kids (d1 + 1) _ _ (by omega) (by omega) n4) fun cl2 => ?_
          simp +contextual -dsimp -implicitDefEqProofs (maxSteps := 5000000) only [go_sem, reduceIte, reduceCtorEq, Nat.reduceEqDiff, Nat.reduceBEq, Nat.reduceAdd, Nat.reduceLeDiff, Nat.reduceMul, Nat.reduceLT, Int.reduceEq, Int.reduceLT, Int.reduceLE, t0, t3, t4, hh.1, hh.2, hwd]
          refine app_lines (m := (lowerF kids).flat (d1 + 1)) hg1 (by simp [flat_len]; omega) rfl fun x2 H2 hg2 => ?_
          simp +contextual -dsimp -implicitDefEqProofs (maxSteps := 5000000) only [go_sem, reduceIte, reduceCtorEq, Nat.reduceEqDiff, Nat.reduceBEq, Nat.reduceAdd, Nat.reduceLeDiff, Nat.reduceMul, Nat.reduceLT, Int.reduceEq, Int.reduceLT, Int.reduceLE, t0, t3, t4, hh.1, hh.2, hwd]
          refine app_lines (m := [⟨d1, 10, 0, 0⟩, ⟨d1 + 1, 1, a, 0⟩]) hg2 (by simp [flat_len]; omega) rfl fun x3 H3 hg3 => ?_
          simp +contextual -dsimp -implicitDefEqProofs (maxSteps := 5000000) only [go_sem, reduceIte, reduceCtorEq, Nat.reduceEqDiff, Nat.reduceBEq, Nat.reduceAdd, Nat.reduceLeDiff, Nat.reduceMul, Nat.reduceLT, Int.reduceEq, Int.reduceLT, Int.reduceLE, t0, t3, t4, hh.1, hh.2, hwd]
          refine ⟨f.size - (q + 1 + kids.size), by omega, q + 1 + kids.size, (d1, rest) :: s', _, x3, rfl, by omega, hdr', ⟨o1, n5, o3⟩, hg3, ?_⟩
          rw [← he]; simp
        · have el : flatS (mapS lowerF ((d1, .node k a b kids rest) :: s')) = [⟨d1, k, a, b⟩] ++ flatS (mapS lowerF ((d1 + 1, kids) :: (d1, rest) :: s')) := by
            simp only [mapS, List.map_cons, flatS, lowerF]; rw [if_neg hc]; simp [Fo.flat]
          rw [el] at he
          have hdr' : (f.flat d).drop (q + 1) = flatS ((d1 + 1, kids) :: (d1, rest) :: s') := by
            have h1 : flatS ((d1, Fo.node k a b kids rest) :: s') = [⟨d1, k, a, b⟩] ++ flatS ((d1 + 1, kids) :: (d1, rest) :: s') := by simp [flatS, Fo.flat]
            rw [h1] at hdr
            exact drop_add' hdr
          have fin : ∀ (x1 : AV) (H1 : AHeap), Grow rLine 4 37 H H1 x1 (out ++ [⟨d1, k, a, b⟩]) → ∃ m', m' < f.size - q ∧ ∃ (q_1 : Nat) (s : List (Int × Fo)) (out : List Line) (x : AV), m' = f.size - q_1 ∧ q_1 ≤ f.size ∧ (f.flat d).drop q_1 = flatS s ∧ StkOk t s ∧ Grow rLine 4 37 H H1 x out ∧ out ++ flatS (mapS lowerF s) = (lowerF f).flat d ∧ x1 = x ∧ AV.lit (.int .i64 (IntKind.i64.wrap ((q : Int) + 1))) = I q_1 :=
            fun x1 H1 w => ⟨f.size - (q + 1), by omega, q + 1, (d1 + 1, kids) :: (d1, rest) :: s', _, x1, rfl, by omega, hdr', ⟨hlow, n4, o1, n5, o3⟩, w, by rw [← he]; simp, rfl, by rw [hwq]⟩
          by_cases k11 : k = 11
          · have hb : b = 1 := by
              unfold numOk at n1
              rw [if_neg (by omega), if_neg (by omega), if_neg (by omega), if_pos k11, Bool.and_eq_true] at n1
              simp only [inR, Bool.and_eq_true, decide_eq_true_eq] at n1
              have : ¬ b = 0 := fun q => hc ⟨k11, q⟩
              omega
            simp +contextual -dsimp -implicitDefEqProofs (maxSteps := 5000000) only [go_sem, reduceIte, reduceCtorEq, Nat.reduceEqDiff, Nat.reduceBEq, Nat.reduceAdd, Nat.reduceLeDiff, Nat.reduceMul, Nat.reduceLT, Int.reduceEq, Int.reduceLT, Int.reduceLE, t0, t3, t4, hh.1, hh.2, k11, hb]
            refine app_lines (m := [⟨d1, 11, a, 1⟩]) hg (by simp; omega) rfl fun x1 H1 hg1 => ?_
            simp +contextual -dsimp -implicitDefEqProofs (maxSteps := 5000000) only [go_sem, reduceIte, reduceCtorEq, Nat.reduceEqDiff, Nat.reduceBEq, Nat.reduceAdd, Nat.reduceLeDiff, Nat.reduceMul, Nat.reduceLT, Int.reduceEq, Int.reduceLT, Int.reduceLE, t0, t3, t4, hh.1, hh.2, k11, hb]
            rw [← k11, ← hb] at hg1
            exact fin x1 H1 hg1
          · simp +contextual -dsimp -implicitDefEqProofs (maxSteps := 5000000) only [go_sem, reduceIte, reduceCtorEq, Nat.reduceEqDiff, Nat.reduceBEq, Nat.reduceAdd, Nat.reduceLeDiff, Nat.reduceMul, Nat.reduceLT, Int.reduceEq, Int.reduceLT, Int.reduceLE, t0, t3, t4, hh.1, hh.2, k11]
            refine app_lines (m := [⟨d1, k, a, b⟩]) hg (by simp; omega) rfl fun x1 H1 hg1 => ?_
            simp +contextual -dsimp -implicitDefEqProofs (maxSteps := 5000000) only [go_sem, reduceIte, reduceCtorEq, Nat.reduceEqDiff, Nat.reduceBEq, Nat.reduceAdd, Nat.reduceLeDiff, Nat.reduceMul, Nat.reduceLT, Int.reduceEq, Int.reduceLT, Int.reduceLE, t0, t3, t4, hh.1, hh.2, k11]
            exact fin x1 H1 hg1
      · have hqe : q = f.size := by omega
        have hnl : ¬ q < (f.flat d).length := by omega
        have hsn : flatS s = [] := by rw [← hdr, List.drop_eq_nil_of_le (by omega)]
        have hmn : out = (lowerF f).flat d := by
          rw [stk_nil rfl s hsn, List.append_nil] at he; exact he
        simp +contextual -dsimp -implicitDefEqProofs (maxSteps := 5000000) only [go_sem, reduceIte, reduceCtorEq, Nat.reduceEqDiff, Nat.reduceBEq, Nat.reduceAdd, Nat.reduceLeDiff, Nat.reduceMul, Nat.reduceLT, Int.reduceEq, Int.reduceLT, Int.reduceLE, t0, t3, t4, hnl]
        rw [← hmn]; exact hg
end Go.Proofs.Ytbjgilehnlpmaaa
end
section
set_option linter.unusedVariables false
set_option linter.unusedSimpArgs false
namespace Go.Proofs.Ytbjgilehnlpmaaa
open Go Go.Sim
set_option maxRecDepth 100000
attribute [local go_sem ↓] aw_skip aw_ret aw_exit aw_region aw_draw aw_seq aw_block aw_loop aw_cond frz_nil frz_cons sq_normal sq_ret sq_exit exB_normal exB_ret exB_same exB_other retQ_ret retQ_normal ret0_ret ret0_normal ao_nil go1 g_move g_assign g_pick g_build g_load g_binOp g_unOp g_convert g_fieldAddr g_field g_indexAddr g_index g_extract g_slice g_nilCheck g_len g_makeFunc h_call h_append h_alloc h_box h_buildSlice h_makeSlice h_store gV i_box i_buildSlice i_move i_assign i_build i_load i_binOp i_unOp i_convert i_fieldAddr i_field i_indexAddr i_index i_extract i_slice i_nilCheck i_makeFunc i_len i_max i_min i_alloc i_makeSlice i_store i_append i_call i_pick boxI boxA buildSliceI buildSliceA makeSliceA allocA storeA p_move p_assign p_pick p_build p_load p_binOp p_unOp p_convert p_fieldAddr p_field p_indexAddr p_index p_extract p_slice p_nilCheck p_makeFunc p_len p_max p_min p_alloc p_box p_buildSlice p_makeSlice p_store p_append p_call x_nil x_go1 x_g0 x_g1 x_g2 x_g3 x_s0 x_s1 x_s2 x_s3 u_move u_assign u_pick u_build u_load u_binOp u_unOp u_convert u_fieldAddr u_field u_indexAddr u_index u_extract u_slice u_nilCheck u_makeFunc u_len u_buildSlice x_s4 x_g4 rq_normal rq_ret rq_exit aw_range
attribute [local go_sem] frzV_sl frzK_some set_none set_other AHeap.set_self set_del set_set cnd_t cnd_f cnd_b retA_one retA_two retA_three retA_four retA_nil gIf_b mrgV_b mrgV_wh mrgV_U gIf_U gIf_wh mrgB_f mrgB_some mrgB_if wh_true wh_false keepA_some keepA_if gD_zero gD_succ gT_some bxA_t bxA_f callA_fn ev_tmp ev_const ev_global ev_func oc_bool oc_int oc_string oc_nil oc_nilptr oc_nilfunc cl_bool cl_int cl_string cl_nil updO_some updO_none upd_same upd_other init_at pickA_b pickA_wh selA_t selA_f selA_and selA_or selA_orn selA_orm selA_bb selA_ii beqt b_add b_sub b_mul b_and b_or b_xor b_eql b_neq b_lss b_leq b_gtr b_geq b_quo b_rem b_shr b_seql b_sneq b_sadd b_beql b_bneq b_aeql b_aneq u_not u_neg isConstOp eqA eqCellV List.getD_cons_zero List.getD_cons_succ List.map_cons List.map_nil List.nil_append List.cons_append List.append_nil if_true if_false Option.map_some Option.map_none ne_eq not_false_eq_true oneA ldv ld1v ld1s wr1s ldRow stRow row_lit row_agg row_vsl row_sl row_ptr row_fn one_I one_B one_S one_vsl one_sl one_ptr one_fn extractA okA rI rS rU rClass rFault rExit rStart rLine Int.toNat_natCast List.length_cons List.length_nil List.length_map List.all_cons List.all_nil Bool.and_true Nat.zero_add List.getElem?_cons_zero List.getElem?_cons_succ List.take_succ_cons List.take_zero List.drop_succ_cons List.drop_zero and_self true_and and_true implies_true decide_eq_true_eq decide_eq_false_iff_not Bool.or_eq_true Bool.or_eq_false_iff Bool.and_eq_true Bool.not_eq_true' Bool.not_eq_false' beq_false decide_true decide_false Int.ofNat_lt Int.ofNat_le Int.natCast_nonneg Bool.or_true Bool.or_false Bool.true_or Bool.false_or beq_self_eq_true List.drop_one Bool.not_true Bool.not_false Bool.not_not Bool.false_eq_true Bool.true_eq_false false_implies true_implies Bool.true_and Bool.false_and Bool.and_false not_true_eq_false Int.natCast_eq_zero Int.natCast_pos Int.natCast_zero false_and and_false or_false false_or or_true true_or Bool.or_self none_le_iff List.replicate_zero Int.toNat_zero List.replicate_succ buildRows List.set_cons_zero List.set_cons_succ List.set_nil List.mapM_nil maxLen_eq Nat.zero_le Nat.mul_one Nat.one_mul bldA fillA spliceA List.take_nil List.drop_nil List.getElem?_nil ld1o wr1o bldSliceA le_same cv_i cvI_t quietT_fn qvd_some ld_o ldO_1 ldO_l wr_o wrO_1 set_2 set_3 set_4 putL_nil putL_cons List.zip_cons_cons List.zip_nil_left List.zip_nil_right List.toList_toArray frzV_set ti1 ti2 tk2 ti3 te3 ts3 tk3 tz3 ti4 tb4 ti5 tk5 tz5 ti9 te9 ts9 tk9 tz9 ti12 tk12 ti13 tp13 tf13_0 tf13_1 ti20 ti21 tk21 tz21 ti22 te22 ti23 tp23 tf23_0 ti24 tp24 tf24_0 ti25 te25 ti27 ti28 ti29 te29 ti30 te30 ti31 tp31 tf31_0 ti32 tp32 tf32_0 ti33 tp33 tf33_0 tf33_1 tf33_2 tf33_3 ti34 tp34 tf34_0 tf34_1 tf34_2 tf34_3 ti35 ti36 tq36 tp36 tf36_0 tf36_1 tf36_2 tf36_3 ti37 tq37 tp37 tf37_0 tf37_1 tf37_2 tf37_3 ti38 ti39 ti40 ti41 ti42 ti43 ti44 te44 tz44 ti46 ti47 ti48 ti49 ti50 ti51 ti52 tq52 tp52 tf52_0 tf52_1 ti53 tq53 tp53 tf53_0 tf53_1 ti54 ti55 tq55 tp55 tf55_0 tf55_1 tf55_2 tf55_3 tf55_4 ti56 tq56 tp56 tf56_0 tf56_1 tf56_2 tf56_3 tf56_4 ti57 ti58 ti59 ti60 ti61 ti62 ti63 ti64 ti65 ti66 ti67 ti68 ti69 ti70 tp70 tf70_0 tf70_1 tf70_2 tf70_3 tf70_4 ti71 tp71 tf71_0 tf71_1 tf71_2 tf71_3 tf71_4 ti73 ti74 ti75 ti76 ti77 ti78 ti79 ti80 tq80 tp80 tf80_0 tf80_1 ti81 tq81 tp81 tf81_0 tf81_1 ti82 ti83 ti84 ti85 ti86 ti87 ti88 ti89 ti90 tp90 tf90_0 tf90_1 ti91 tp91 tf91_0 tf91_1 ti92 ti93 ti94 ti95 ti96 ti97 ti98 ti99 ti100 ti101 ti102 ti103 te103 ti104 ti105 ti106 ti107 ti108 ti109 ti110 ti111 ti112 tk112 tz112 ti113 ti114 ti115 tk115 ti117 ti118 ti119 ti121 ti122 ti123 tk123 tz123 ti124 ti125 tk125 tz125 ti126 ti127 tk127 ti128 ti129 ti130 ti131 ti132 ti133 ti135 ti136 ti142 ti146 fp13_0 fv13_0 fp13_1 fv13_1 fp23_0 fv23_0 fp24_0 fv24_0 fp31_0 fv31_0 fp32_0 fv32_0 fp33_0 fv33_0 fp33_1 fv33_1 fp33_2 fv33_2 fp33_3 fv33_3 fp34_0 fv34_0 fp34_1 fv34_1 fp34_2 fv34_2 fp34_3 fv34_3 fp36_0 fv36_0 fp36_1 fv36_1 fp36_2 fv36_2 fp36_3 fv36_3 fp37_0 fv37_0 fp37_1 fv37_1 fp37_2 fv37_2 fp37_3 fv37_3 fp52_0 fv52_0 fp52_1 fv52_1 fp53_0 fv53_0 fp53_1 fv53_1 fp55_0 fv55_0 fp55_1 fv55_1 fp55_2 fv55_2 fp55_3 fv55_3 fp55_4 fv55_4 fp56_0 fv56_0 fp56_1 fv56_1 fp56_2 fv56_2 fp56_3 fv56_3 fp56_4 fv56_4 fp70_0 fv70_0 fp70_1 fv70_1 fp70_2 fv70_2 fp70_3 fv70_3 fp70_4 fv70_4 fp71_0 fv71_0 fp71_1 fv71_1 fp71_2 fv71_2 fp71_3 fv71_3 fp71_4 fv71_4 fp80_0 fv80_0 fp80_1 fv80_1 fp81_0 fv81_0 fp81_1 fv81_1 fp90_0 fv90_0 fp90_1 fv90_1 fp91_0 fv91_0 fp91_1 fv91_1 lv22 ll22 is22 ix22 sh22 so22 sb22 sm22 sp22 lv25 ll25 is25 ix25 sh25 so25 sb25 sm25 sp25 lv29 ll29 is29 ix29 sh29 so29 sb29 sm29 sp29 lv30 ll30 is30 ix30 sh30 so30 sb30 sm30 sp30 lv44 ll44 is44 ix44 sh44 so44 sb44 sm44 sp44 lv103 ll103 is103 ix103 sh103 so103 sb103 sm103 sp103 xs9 ls9 sx9 sy9 sz9
set_option maxHeartbeats 4000000

theorem c_ClipL (l : List Line) (cl : Bool) (H : AHeap) : ACalls Try.prog 37 [aProg l cl] H fun r H' => r = aProg l true ∧ H' = H := by
  refine acalls_len (by kernel_rfl) (List.mem_cons_self ..) fun hl => ?_
  rw [List.length_map] at hl
  refine acalls_of0 Try.func37 rfl (by kernel_rfl) rfl rfl (awp_sound (fz := fun _ => []) (im := fun _ => false) mixed _ _ _ _ (by kernel_rfl) ?_)
  simp +contextual -dsimp -implicitDefEqProofs (maxSteps := 5000000) only [go_sem, reduceIte, reduceCtorEq, Nat.reduceEqDiff, Nat.reduceBEq, Nat.reduceAdd, Nat.reduceLeDiff, Nat.reduceMul, Nat.reduceLT, Int.reduceEq, Int.reduceLT, Int.reduceLE, List.take_length]
  exact Nat.le_refl _
/-- A program, if it is valid. -/
noncomputable def madeF (t : List Class) (p : List Line) : List Line := if validB t p = true then p else []
theorem c_programMade (t : List Class) (cl : Bool) (p : List Line) (cl' : Bool) (H : AHeap) (hn : namesOk t) (hp : p.length ≤ 4398046511104) : ACalls Try.prog 18 [aTree t cl, aProg p cl'] H fun r H' => (∃ c, r = .tup [aProg (madeF t p) c, B (validB t p)]) ∧ H' = H := by
  refine acalls_of0 Try.func18 rfl (by kernel_rfl) rfl rfl (awp_sound (fz := fun _ => []) (im := fun s => s == 2) mixed _ _ _ _ (by kernel_rfl) ?_)
  simp +contextual -dsimp -implicitDefEqProofs (maxSteps := 5000000) only [go_sem, reduceIte, reduceCtorEq, Nat.reduceEqDiff, Nat.reduceBEq, Nat.reduceAdd, Nat.reduceLeDiff, Nat.reduceMul, Nat.reduceLT, Int.reduceEq, Int.reduceLT, Int.reduceLE]
  refine (c_ValidProgram t cl p cl' _ hn hp).det ?_
  unfold madeF
  cases hv : validB t p
  · simp +contextual -dsimp -implicitDefEqProofs (maxSteps := 5000000) only [go_sem, reduceIte, reduceCtorEq, Nat.reduceEqDiff, Nat.reduceBEq, Nat.reduceAdd, Nat.reduceLeDiff, Nat.reduceMul, Nat.reduceLT, Int.reduceEq, Int.reduceLT, Int.reduceLE]
    exact ⟨true, rfl⟩
  · simp +contextual -dsimp -implicitDefEqProofs (maxSteps := 5000000) only [go_sem, reduceIte, reduceCtorEq, Nat.reduceEqDiff, Nat.reduceBEq, Nat.reduceAdd, Nat.reduceLeDiff, Nat.reduceMul, Nat.reduceLT, Int.reduceEq, Int.reduceLT, Int.reduceLE]
    refine (c_ClipL p cl' _).det ?_
    simp +contextual -dsimp -implicitDefEqProofs (maxSteps := 5000000) only [go_sem, reduceIte, reduceCtorEq, Nat.reduceEqDiff, Nat.reduceBEq, Nat.reduceAdd, Nat.reduceLeDiff, Nat.reduceMul, Nat.reduceLT, Int.reduceEq, Int.reduceLT, Int.reduceLE]
    exact ⟨true, rfl⟩
theorem c_checkedProgram (t : List Class) (cl : Bool) (p : List Line) (cl' : Bool) (H : AHeap) (hn : namesOk t) (hp : p.length ≤ 4398046511104) : ACalls Try.prog 21 [aTree t cl, aProg p cl'] H fun r H' => (∃ c, r = .tup [aProg (madeF t p) c, B (validB t p)]) ∧ H' = H := by
  refine acalls_of0 Try.func21 rfl (by kernel_rfl) rfl rfl (awp_sound (fz := fun _ => []) (im := fun s => s == 2) mixed _ _ _ _ (by kernel_rfl) ?_)
  simp +contextual -dsimp -implicitDefEqProofs (maxSteps := 5000000) only [go_sem, reduceIte, reduceCtorEq, Nat.reduceEqDiff, Nat.reduceBEq, Nat.reduceAdd, Nat.reduceLeDiff, Nat.reduceMul, Nat.reduceLT, Int.reduceEq, Int.reduceLT, Int.reduceLE]
  refine (c_svalidProgram t cl p cl' _ hn hp).det ?_
  unfold madeF
  cases hv : validB t p
  · simp +contextual -dsimp -implicitDefEqProofs (maxSteps := 5000000) only [go_sem, reduceIte, reduceCtorEq, Nat.reduceEqDiff, Nat.reduceBEq, Nat.reduceAdd, Nat.reduceLeDiff, Nat.reduceMul, Nat.reduceLT, Int.reduceEq, Int.reduceLT, Int.reduceLE]
    exact ⟨true, rfl⟩
  · simp +contextual -dsimp -implicitDefEqProofs (maxSteps := 5000000) only [go_sem, reduceIte, reduceCtorEq, Nat.reduceEqDiff, Nat.reduceBEq, Nat.reduceAdd, Nat.reduceLeDiff, Nat.reduceMul, Nat.reduceLT, Int.reduceEq, Int.reduceLT, Int.reduceLE]
    exact ⟨cl', rfl⟩
/-- A program in which things are closed by tries. -/
noncomputable def lowP (p : List Line) : List Line := (lowerF (forestP p)).flat 0
noncomputable def lowR (t : List Class) (p : List Line) : List Line := if validB t p = true then madeF t (lowP p) else []
noncomputable def lowB (t : List Class) (p : List Line) : Bool := validB t p && validB t (lowP p)
theorem lowP_len {t : List Class} {p : List Line} (h : ValidP t p) : (lowP p).length ≤ 96 := by
  obtain ⟨_, _, _, _, _, h6⟩ := validP_forest h
  have := lowerF_flat_len (forestP p) 0
  unfold lowP; omega
theorem c_mLowerWith (t : List Class) (cl : Bool) (p : List Line) (cl' : Bool) (H : AHeap) (hn : namesOk t) (hp : p.length ≤ 4398046511104) : ACalls Try.prog 6 [aTree t cl, aProg p cl'] H fun r H' => (∃ c, r = .tup [aProg (lowR t p) c, B (lowB t p)]) ∧ H' = H := by
  refine acalls_of0 Try.func6 rfl (by kernel_rfl) rfl rfl (awp_sound (fz := fun _ => []) (im := fun s => s == 2) mixed _ _ _ _ (by kernel_rfl) ?_)
  simp +contextual -dsimp -implicitDefEqProofs (maxSteps := 5000000) only [go_sem, reduceIte, reduceCtorEq, Nat.reduceEqDiff, Nat.reduceBEq, Nat.reduceAdd, Nat.reduceLeDiff, Nat.reduceMul, Nat.reduceLT, Int.reduceEq, Int.reduceLT, Int.reduceLE]
  refine (c_ValidProgram t cl p cl' _ hn hp).det ?_
  unfold lowR lowB
  cases hv : validB t p
  · simp +contextual -dsimp -implicitDefEqProofs (maxSteps := 5000000) only [go_sem, reduceIte, reduceCtorEq, Nat.reduceEqDiff, Nat.reduceBEq, Nat.reduceAdd, Nat.reduceLeDiff, Nat.reduceMul, Nat.reduceLT, Int.reduceEq, Int.reduceLT, Int.reduceLE]
    exact ⟨true, rfl⟩
  · have hval := validB_true.1 hv
    obtain ⟨h1, h2, h3, h4, h5, h6⟩ := validP_forest hval
    have hll := lowP_len hval
    have key := fun H => c_mlowered (t := t) ((forestP p).size + 1) (forestP p) 0 cl' H (by omega) (by omega) h3
    rw [← h2] at key
    simp +contextual -dsimp -implicitDefEqProofs (maxSteps := 5000000) only [go_sem, reduceIte, reduceCtorEq, Nat.reduceEqDiff, Nat.reduceBEq, Nat.reduceAdd, Nat.reduceLeDiff, Nat.reduceMul, Nat.reduceLT, Int.reduceEq, Int.reduceLT, Int.reduceLE]
    refine draw_intro [1, 0, 3, 2, 0, 0, 0, 0] AHeap.none (by kernel_rfl) none_le ?_
    simp +contextual -dsimp -implicitDefEqProofs (maxSteps := 5000000) only [go_sem, reduceIte, reduceCtorEq, Nat.reduceEqDiff, Nat.reduceBEq, Nat.reduceAdd, Nat.reduceLeDiff, Nat.reduceMul, Nat.reduceLT, Int.reduceEq, Int.reduceLT, Int.reduceLE]
    refine acalls_frz (key _) fun c1 => ?_
    simp +contextual -dsimp -implicitDefEqProofs (maxSteps := 5000000) only [go_sem, reduceIte, reduceCtorEq, Nat.reduceEqDiff, Nat.reduceBEq, Nat.reduceAdd, Nat.reduceLeDiff, Nat.reduceMul, Nat.reduceLT, Int.reduceEq, Int.reduceLT, Int.reduceLE]
    refine (c_programMade t cl (lowP p) c1 _ hn (by omega)).mono ?_
    rintro _ _ ⟨⟨c2, rfl⟩, rfl⟩
    simp +contextual -dsimp -implicitDefEqProofs (maxSteps := 5000000) only [go_sem, reduceIte, reduceCtorEq, Nat.reduceEqDiff, Nat.reduceBEq, Nat.reduceAdd, Nat.reduceLeDiff, Nat.reduceMul, Nat.reduceLT, Int.reduceEq, Int.reduceLT, Int.reduceLE]
    exact ⟨c2, rfl⟩
theorem c_sLowerWith (t : List Class) (cl : Bool) (p : List Line) (cl' : Bool) (H : AHeap) (hn : namesOk t) (hp : p.length ≤ 4398046511104) : ACalls Try.prog 7 [aTree t cl, aProg p cl'] H fun r H' => (∃ c, r = .tup [aProg (lowR t p) c, B (lowB t p)]) ∧ H' = H := by
  refine acalls_of0 Try.func7 rfl (by kernel_rfl) rfl rfl (awp_sound (fz := fun _ => []) (im := fun s => s == 2) mixed _ _ _ _ (by kernel_rfl) ?_)
  simp +contextual -dsimp -implicitDefEqProofs (maxSteps := 5000000) only [go_sem, reduceIte, reduceCtorEq, Nat.reduceEqDiff, Nat.reduceBEq, Nat.reduceAdd, Nat.reduceLeDiff, Nat.reduceMul, Nat.reduceLT, Int.reduceEq, Int.reduceLT, Int.reduceLE]
  refine (c_svalidProgram t cl p cl' _ hn hp).det ?_
  unfold lowR lowB
  cases hv : validB t p
  · simp +contextual -dsimp -implicitDefEqProofs (maxSteps := 5000000) only [go_sem, reduceIte, reduceCtorEq, Nat.reduceEqDiff, Nat.reduceBEq, Nat.reduceAdd, Nat.reduceLeDiff, Nat.reduceMul, Nat.reduceLT, Int.reduceEq, Int.reduceLT, Int.reduceLE]
    exact ⟨true, rfl⟩
  · have hval := validB_true.1 hv
    obtain ⟨h1, h2, h3, h4, h5, h6⟩ := validP_forest hval
    have hll := lowP_len hval
    have key := fun H => c_slowered (t := t) ((forestP p).size + 1) (forestP p) 0 cl' H (by omega) (by omega) h3
    rw [← h2] at key
    simp +contextual -dsimp -implicitDefEqProofs (maxSteps := 5000000) only [go_sem, reduceIte, reduceCtorEq, Nat.reduceEqDiff, Nat.reduceBEq, Nat.reduceAdd, Nat.reduceLeDiff, Nat.reduceMul, Nat.reduceLT, Int.reduceEq, Int.reduceLT, Int.reduceLE]
    refine draw_intro [1, 0, 3, 2, 0, 0, 0, 0] AHeap.none (by kernel_rfl) none_le ?_
    simp +contextual -dsimp -implicitDefEqProofs (maxSteps := 5000000) only [go_sem, reduceIte, reduceCtorEq, Nat.reduceEqDiff, Nat.reduceBEq, Nat.reduceAdd, Nat.reduceLeDiff, Nat.reduceMul, Nat.reduceLT, Int.reduceEq, Int.reduceLT, Int.reduceLE]
    refine acalls_frz (key _) fun c1 => ?_
    simp +contextual -dsimp -implicitDefEqProofs (maxSteps := 5000000) only [go_sem, reduceIte, reduceCtorEq, Nat.reduceEqDiff, Nat.reduceBEq, Nat.reduceAdd, Nat.reduceLeDiff, Nat.reduceMul, Nat.reduceLT, Int.reduceEq, Int.reduceLT, Int.reduceLE]
    refine (c_checkedProgram t cl (lowP p) c1 _ hn (by omega)).mono ?_
    rintro _ _ ⟨⟨c2, rfl⟩, rfl⟩
    simp +contextual -dsimp -implicitDefEqProofs (maxSteps := 5000000) only [go_sem, reduceIte, reduceCtorEq, Nat.reduceEqDiff, Nat.reduceBEq, Nat.reduceAdd, Nat.reduceLeDiff, Nat.reduceMul, Nat.reduceLT, Int.reduceEq, Int.reduceLT, Int.reduceLE]
    exact ⟨c2, rfl⟩
def lowDig (l : List Int) : List Int := l.map fun n => n.tmod 100
theorem c_lowDigits (l : List Int) (cl : Bool) (H : AHeap) (hl : l.length ≤ 1000000) : ACalls Try.prog 11 [.vsl (l.map rI) cl] H fun r H' => Grow rI 1 3 H H' r (lowDig l) := by
  refine acalls_of0 Try.func11 rfl (by kernel_rfl) rfl rfl (awp_sound (fz := fun _ => []) (im := fun s => s == 5 || s == 18) mixed _ _ _ _ (by kernel_rfl) ?_)
  simp +contextual -dsimp -implicitDefEqProofs (maxSteps := 5000000) only [go_sem, reduceIte, reduceCtorEq, Nat.reduceEqDiff, Nat.reduceBEq, Nat.reduceAdd, Nat.reduceLeDiff, Nat.reduceMul, Nat.reduceLT, Int.reduceEq, Int.reduceLT, Int.reduceLE]
  refine aloop mixed (fz := fun _ => []) (im := fun s => s == 5 || s == 18) (by kernel_rfl) (fun m tm H' => ∃ (k : Nat) (x : AV), m = l.length - k ∧ k ≤ l.length ∧ Grow rI 1 3 H H' x (lowDig (l.take k)) ∧ tm 0 = .vsl (l.map rI) cl ∧ tm 3 = x ∧ tm 4 = I k) l.length ⟨0, _, by omega, by omega, grow_nil, ?_⟩ ?_
  · simp +contextual -dsimp -implicitDefEqProofs (maxSteps := 5000000) only [go_sem, reduceIte, reduceCtorEq, Nat.reduceEqDiff, Nat.reduceBEq, Nat.reduceAdd, Nat.reduceLeDiff, Nat.reduceMul, Nat.reduceLT, Int.reduceEq, Int.reduceLT, Int.reduceLE]
  · rintro m tm H' ⟨k, x, rfl, hk, hg, t0, t3, t4⟩
    by_cases hlt : k < l.length
    · simp +contextual -dsimp -implicitDefEqProofs (maxSteps := 5000000) only [go_sem, reduceIte, reduceCtorEq, Nat.reduceEqDiff, Nat.reduceBEq, Nat.reduceAdd, Nat.reduceLeDiff, Nat.reduceMul, Nat.reduceLT, Int.reduceEq, Int.reduceLT, Int.reduceLE, t0, t3, t4, hlt]
      refine grow_append (m := [(l.getD k default).tmod 100]) te29 ti3 rI_len (by decide) hg (by unfold lowDig; rw [List.length_map, List.length_take]; show (min k l.length + 1) * 8 ≤ _; omega) (by unfold lowDig; rw [List.length_map, List.length_take]; show min k l.length + 1 ≤ _; omega) rfl fun x' H'' hg' => ?_
      simp +contextual -dsimp -implicitDefEqProofs (maxSteps := 5000000) only [go_sem, reduceIte, reduceCtorEq, Nat.reduceEqDiff, Nat.reduceBEq, Nat.reduceAdd, Nat.reduceLeDiff, Nat.reduceMul, Nat.reduceLT, Int.reduceEq, Int.reduceLT, Int.reduceLE, t0, t3, t4, hlt]
      refine ⟨_, by omega, k + 1, x', rfl, hlt, ?_, rfl, I_wrap (by omega) (by omega) (by omega)⟩
      rw [take_next hlt]
      unfold lowDig
      rw [List.map_append]
      exact hg'
    · simp +contextual -dsimp -implicitDefEqProofs (maxSteps := 5000000) only [go_sem, reduceIte, reduceCtorEq, Nat.reduceEqDiff, Nat.reduceBEq, Nat.reduceAdd, Nat.reduceLeDiff, Nat.reduceMul, Nat.reduceLT, Int.reduceEq, Int.reduceLT, Int.reduceLE, t0, t3, t4, hlt]
      rw [show k = l.length by omega, List.take_length] at hg
      exact hg
end Go.Proofs.Ytbjgilehnlpmaaa
end
section
set_option linter.unusedVariables false
set_option linter.unusedSimpArgs false
namespace Go.Proofs.Ytbjgilehnlpmaaa
open Go Go.Sim
set_option maxRecDepth 100000

/-- The first 'else' of a try. -/
def elseF : Fo → Nat → Option (Nat × Fo)
  | .nil, _ => none
  | .node k _ _ kids rest, i => if followsK k = true then (if k = 9 then some (i, kids) else elseF rest (i + 1 + kids.size)) else none
/-- The last line that goes on with a try. -/
def lastB : Fo → Nat → Option (Nat × Int × Fo)
  | .nil, _ => none
  | .node k _ _ kids rest, i => if followsK k = true then (match lastB rest (i + 1 + kids.size) with | some x => some x | none => some (i, k, kids)) else none
/-- The first line of a try that catches a class. -/
def catchF (t : List Class) (c : Int) : Fo → Nat → Option (Nat × Fo)
  | .nil, _ => none
  | .node k a _ kids rest, i => if followsK k = true then (if k = 8 ∧ isF t c a = true then some (i, kids) else catchF t c rest (i + 1 + kids.size)) else none
def finR (t : List Class) (f : Fo) (i : Nat) (e : En) (h : Int) (s : RS) : En × RS :=
  match lastB f i with
  | some (q, k, ks) => if k = 10 then (fun l : En × RS => (if l.1.ed = 0 then e else l.1, l.2)) (runF t ks (q + 1) none (if e.ed = 2 then e.val else h) s) else (e, s)
  | none => (e, s)
def midR (t : List Class) (f : Fo) (i : Nat) (e : En) (h : Int) (s : RS) : En × RS :=
  if e.ed = 0 then (match elseF f i with | some (q, ks) => runF t ks (q + 1) none h s | none => (e, s))
  else if e.ed = 2 then (match catchF t (clsOf s e.val) f i with | some (q, ks) => runF t ks (q + 1) none e.val s | none => (e, s))
  else (e, s)
theorem headsK_mem {k : Int} : ∀ {f : Fo}, k ∈ headsK f → followsK k = true
  | .nil, h => by cases h
  | .node k' a b kids rest, h => by
    simp only [headsK] at h
    split at h
    · rename_i hk
      rcases List.mem_cons.1 h with rfl | h
      · exact hk
      · exact headsK_mem h
    · cases h
theorem tryG_ten {ks : List Int} (hf : ∀ k ∈ ks, followsK k = true) (h : tryG 10 ks = true) : ks = [] := by
  cases ks with
  | nil => rfl
  | cons k ks =>
    simp only [tryG, Bool.and_eq_true, Bool.or_eq_true, decide_eq_true_eq] at h
    omega
theorem chain_empty {t : List Class} {f : Fo} (h : headsK f = []) {i : Nat} {st e : En} {g : Int} {s : RS} : chainR t f i st e g s = (e, s) ∧ lastB f i = none ∧ elseF f i = none ∧ ∀ c, catchF t c f i = none := by
  cases f with
  | nil => exact ⟨rfl, rfl, rfl, fun _ => rfl⟩
  | node k a b kids rest =>
    simp only [headsK] at h
    split at h
    · cases h
    · rename_i hk
      simp [chainR, lastB, elseF, catchF, hk]
/-- Behind what has been run of a try. -/
theorem chain_fin {t : List Class} : ∀ (f : Fo) (i : Nat) (st e : En) (h : Int) (s : RS) (last : Int), tryG last (headsK f) = true → (st.ed ≠ 2 ∨ 8 < last) → (st.ed ≠ 0 ∨ 9 ≤ last) → chainR t f i st e h s = finR t f i e h s
  | .nil, i, st, e, h, s, last, _, _, _ => rfl
  | .node k a b kids rest, i, st, e, h, s, last, hg, c1, c2 => by
    by_cases hk : followsK k = true
    · have hk' := hk
      simp only [followsK, inR, Bool.and_eq_true, decide_eq_true_eq] at hk'
      simp only [headsK, hk, if_true, tryG, Bool.and_eq_true, Bool.or_eq_true, decide_eq_true_eq] at hg
      obtain ⟨g1, g2⟩ := hg
      by_cases k10 : k = 10
      · subst k10
        have he := tryG_ten (fun k hk => headsK_mem hk) g2
        simp only [chainR, hk, if_true, show ¬ (10 : Int) = 8 by decide, show ¬ (10 : Int) = 9 by decide, if_false]
        rw [(chain_empty (t := t) he).1]
        have hl : lastB (.node 10 a b kids rest) i = some (i, 10, kids) := by
          simp only [lastB, hk, if_true]; rw [(chain_empty (t := t) (e := e) (st := st) (g := h) (s := s) he).2.1]
        unfold finR
        rw [hl]
        simp
      · have hrest : chainR t (.node k a b kids rest) i st e h s = chainR t rest (i + 1 + kids.size) st e h s := by
          simp only [chainR, hk, if_true]
          by_cases k8 : k = 8
          · rw [if_pos k8, if_neg (by omega)]
          · have k9 : k = 9 := by omega
            rw [if_neg k8, if_pos k9, if_neg (by omega)]
        rw [hrest]
        have hfin : finR t (.node k a b kids rest) i e h s = finR t rest (i + 1 + kids.size) e h s := by
          unfold finR
          simp only [lastB, hk, if_true]
          cases hl : lastB rest (i + 1 + kids.size) with
          | none => simp [k10]
          | some x => rfl
        rw [hfin]
        exact chain_fin rest _ st e h s k g2 (by omega) (by omega)
    · have he : headsK (.node k a b kids rest) = [] := by simp [headsK, hk]
      have := chain_empty (t := t) (i := i) (st := st) (e := e) (g := h) (s := s) he
      rw [this.1]
      unfold finR
      rw [this.2.1]
theorem finR_skip {t : List Class} {k a b : Int} {kids rest : Fo} {i : Nat} {e : En} {h : Int} {s : RS} (hk : followsK k = true) (k10 : k ≠ 10) : finR t (.node k a b kids rest) i e h s = finR t rest (i + 1 + kids.size) e h s := by
  unfold finR
  simp only [lastB, hk, if_true]
  cases hl : lastB rest (i + 1 + kids.size) with
  | none => simp [k10]
  | some x => rfl
/-- What goes on with a try, as the reference takes it. -/
theorem chain_spec {t : List Class} : ∀ (f : Fo) (i : Nat) (e : En) (h : Int) (s : RS) (last : Int), tryG last (headsK f) = true → chainR t f i e e h s = finR t f i (midR t f i e h s).1 h (midR t f i e h s).2
  | .nil, i, e, h, s, last, _ => by
    unfold midR; simp [elseF, catchF, chainR, finR, lastB]
  | .node k a b kids rest, i, e, h, s, last, hg => by
    by_cases hk : followsK k = true
    · have hk' := hk
      simp only [followsK, inR, Bool.and_eq_true, decide_eq_true_eq] at hk'
      simp only [headsK, hk, if_true, tryG, Bool.and_eq_true, Bool.or_eq_true, decide_eq_true_eq] at hg
      obtain ⟨g1, g2⟩ := hg
      by_cases k8 : k = 8
      · subst k8
        by_cases hc : e.ed = 2 ∧ isF t (clsOf s e.val) a = true
        · have hm : midR t (.node 8 a b kids rest) i e h s = runF t kids (i + 1) none e.val s := by
            unfold midR
            rw [if_neg (by omega), if_pos hc.1]
            simp only [catchF, hk, if_true, hc.2, and_self]
          rw [hm, finR_skip hk (by decide)]
          simp only [chainR, hk, if_true, hc, and_self]
          exact chain_fin rest _ ⟨-1, 0⟩ _ h _ 8 g2 (.inl (by show (-1 : Int) ≠ 2; decide)) (.inl (by show (-1 : Int) ≠ 0; decide))
        · have hm : midR t (.node 8 a b kids rest) i e h s = midR t rest (i + 1 + kids.size) e h s := by
            unfold midR
            by_cases e0 : e.ed = 0
            · rw [if_pos e0, if_pos e0]
              simp only [elseF, hk, if_true, show ¬ (8 : Int) = 9 by decide, if_false]
            · rw [if_neg e0, if_neg e0]
              by_cases e2 : e.ed = 2
              · rw [if_pos e2, if_pos e2]
                have hn : ¬ (isF t (clsOf s e.val) a = true) := fun q => hc ⟨e2, q⟩
                simp only [catchF, hk, if_true, hn, Bool.false_eq_true, and_false, if_false]
              · rw [if_neg e2, if_neg e2]
          rw [hm, finR_skip hk (by decide)]
          have hr : chainR t (.node 8 a b kids rest) i e e h s = chainR t rest (i + 1 + kids.size) e e h s := by
            simp only [chainR, hk, if_true]; rw [if_neg hc]
          rw [hr]
          exact chain_spec rest _ e h s 8 g2
      · by_cases k9 : k = 9
        · subst k9
          by_cases e0 : e.ed = 0
          · have hm : midR t (.node 9 a b kids rest) i e h s = runF t kids (i + 1) none h s := by
              unfold midR
              rw [if_pos e0]
              simp only [elseF, hk, if_true]
            rw [hm, finR_skip hk (by decide)]
            simp only [chainR, hk, if_true, show ¬ (9 : Int) = 8 by decide, if_false, e0]
            exact chain_fin rest _ e _ h _ 9 g2 (.inl (by omega)) (.inr (by omega))
          · have hr : chainR t (.node 9 a b kids rest) i e e h s = chainR t rest (i + 1 + kids.size) e e h s := by
              simp only [chainR, hk, if_true, show ¬ (9 : Int) = 8 by decide, if_false]; rw [if_neg e0]
            have hm : midR t (.node 9 a b kids rest) i e h s = midR t rest (i + 1 + kids.size) e h s := by
              unfold midR
              rw [if_neg e0, if_neg e0]
              split
              · simp only [catchF, hk, if_true, show ¬ (9 : Int) = 8 by decide, false_and, if_false]
              · rfl
            rw [hm, hr, finR_skip hk (by decide)]
            exact chain_spec rest _ e h s 9 g2
        · have k10 : k = 10 := by omega
          subst k10
          have he := tryG_ten (fun k hk => headsK_mem hk) g2
          have ce := chain_empty (t := t) (i := i + 1 + kids.size) (st := e) (e := e) (g := h) (s := s) he
          have hm : midR t (.node 10 a b kids rest) i e h s = (e, s) := by
            unfold midR
            simp only [elseF, catchF, hk, if_true, show ¬ (10 : Int) = 9 by decide, show ¬ (10 : Int) = 8 by decide, false_and, if_false, ce.2.2.1, ce.2.2.2]
            split
            · rfl
            · split <;> rfl
          rw [hm]
          exact chain_fin (.node 10 a b kids rest) i e e h s 9 (by simp [headsK, hk, tryG, g2]) (.inr (by omega)) (.inr (by omega))
    · have he : headsK (.node k a b kids rest) = [] := by simp [headsK, hk]
      have ce := chain_empty (t := t) (i := i) (st := e) (e := e) (g := h) (s := s) he
      have hm : midR t (.node k a b kids rest) i e h s = (e, s) := by
        unfold midR
        simp only [ce.2.2.1, ce.2.2.2]
        split
        · rfl
        · split <;> rfl
      rw [hm, ce.1]
      unfold finR
      rw [ce.2.1]
theorem lastB_pos : ∀ (f : Fo) (i : Nat) (j : Nat), (j :: chainN f i).getLastD 0 = match lastB f i with | some (q, _, _) => q | none => j
  | .nil, i, j => rfl
  | .node k a b kids rest, i, j => by
    simp only [chainN, lastB]
    split
    · have := lastB_pos rest (i + 1 + kids.size) i
      rw [List.getLastD_cons] at this
      rw [List.getLastD_cons, List.getLastD_cons, this]
      cases lastB rest (i + 1 + kids.size) <;> rfl
    · rfl
theorem lastB_at {p : List Line} {d : Int} : ∀ (f : Fo) (i : Nat) (q : Nat) (k : Int) (ks : Fo), At p i d f → lastB f i = some (q, k, ks) → (∃ a b re, At p q d (.node k a b ks re)) ∧ ks.size < f.size ∧ followsK k = true
  | .nil, i, q, k, ks, _, h => by cases h
  | .node k' a b kids rest, i, q, k, ks, hat, h => by
    simp only [lastB] at h
    split at h
    · rename_i hk
      cases hl : lastB rest (i + 1 + kids.size) with
      | none =>
        rw [hl] at h
        simp only [Option.some.injEq, Prod.mk.injEq] at h
        obtain ⟨rfl, rfl, rfl⟩ := h
        exact ⟨⟨a, b, rest, hat⟩, by simp only [Fo.size]; omega, hk⟩
      | some x =>
        rw [hl] at h
        obtain ⟨h1, h2, h3⟩ := lastB_at rest _ q k ks hat.rest (by rw [hl]; exact h)
        exact ⟨h1, by simp only [Fo.size]; omega, h3⟩
    · cases h
def headNo : Fo → Bool
  | .nil => true
  | .node k _ _ _ _ => !followsK k
theorem okF_head {f : Fo} {lp : Bool} (h : okF f lp false = true) : headNo f = true := by
  cases f with
  | nil => rfl
  | node k a b kids rest =>
    simp only [headNo, Bool.not_eq_true']
    cases hk : followsK k with
    | false => rfl
    | true => simp [okF, hk] at h
theorem chainR_no {t : List Class} {f : Fo} (hf : headNo f = true) {i : Nat} {st e : En} {h : Int} {s : RS} : chainR t f i st e h s = (e, s) ∧ skipF f = f ∧ skipN f i = i := by
  cases f with
  | nil => exact ⟨rfl, rfl, rfl⟩
  | node k a b kids rest =>
    have hk : followsK k = false := by simpa [headNo] using hf
    simp [chainR, skipF, skipN, hk]
/-- Behind a try, where nothing goes on with it. -/
theorem runF_no {t : List Class} {f : Fo} (hf : headNo f = true) {i : Nat} {st e : En} {h : Int} {s : RS} : runF t f i (some (st, e)) h s = if e.ed = 0 then runF t f i none h s else (e, s) := by
  have := chainR_no (t := t) (i := i) (st := st) (e := e) (h := h) (s := s) hf
  rw [runF_some, this.1, this.2.1, this.2.2]
/-- The lines of a block that is right. -/
theorem okF_node {k a b : Int} {kids rest : Fo} {lp m : Bool} (h : okF (.node k a b kids rest) lp m = true) :
    (followsK k = true ∧ m = true ∧ okF kids lp false = true ∧ okF rest lp true = true) ∨
    (followsK k = false ∧ ((k = 7 ∧ tryOkF (headsK rest) = true ∧ okF kids lp false = true ∧ okF rest lp true = true) ∨
      (k ≠ 7 ∧ okF rest lp false = true ∧ (k = 11 → okF kids lp false = true) ∧ (k = 12 → okF kids true false = true) ∧ (k = 5 ∨ k = 6 → lp = true)))) := by
  simp only [okF] at h
  by_cases hf : followsK k = true
  · rw [if_pos hf] at h
    simp only [Bool.and_eq_true] at h
    exact .inl ⟨hf, h.1, h.2.1, h.2.2⟩
  · right
    refine ⟨by simpa using hf, ?_⟩
    rw [if_neg hf] at h
    by_cases h56 : k = 5 ∨ k = 6
    · rw [if_pos h56, Bool.and_eq_true] at h
      exact .inr ⟨by omega, h.2, fun q => by omega, fun q => by omega, fun _ => h.1⟩
    · rw [if_neg h56] at h
      by_cases h7 : k = 7
      · rw [if_pos h7] at h
        simp only [Bool.and_eq_true] at h
        exact .inl ⟨h7, h.1, h.2.1, h.2.2⟩
      · rw [if_neg h7] at h
        by_cases h11 : k = 11
        · rw [if_pos h11, Bool.and_eq_true] at h
          exact .inr ⟨h7, h.2, fun _ => h.1, fun q => by omega, fun q => absurd q h56⟩
        · rw [if_neg h11] at h
          by_cases h12 : k = 12
          · rw [if_pos h12, Bool.and_eq_true] at h
            exact .inr ⟨h7, h.2, fun q => absurd q h11, fun _ => h.1, fun q => absurd q h56⟩
          · rw [if_neg h12] at h
            exact .inr ⟨h7, h, fun q => absurd q h11, fun q => absurd q h12, fun q => absurd q h56⟩

end Go.Proofs.Ytbjgilehnlpmaaa
end
