/- Walks and plain laws that the claims of this seat lean on. No condition. -/
import Derived.Test.YtjpfgafdjlkblaaGreatJ3
import Derived.Test.YtjpfgafdjlkblaaGreatSimY
import Derived.Lib.ItoaNum
set_option linter.unusedVariables false
set_option linter.unusedSimpArgs false
namespace Go.Proofs.YtjpfgafdjlkblaaGreat
open Go Go.Sim
section
set_option maxRecDepth 100000
attribute [local go_sem ↓] aw_skip aw_ret aw_exit aw_region aw_draw aw_seq aw_block aw_loop aw_cond frz_nil frz_cons sq_normal sq_ret sq_exit exB_normal exB_ret exB_same exB_other retQ_ret retQ_normal ret0_ret ret0_normal ao_nil go1 g_move g_assign g_pick g_build g_load g_binOp g_unOp g_convert g_fieldAddr g_field g_indexAddr g_index g_extract g_lookup g_slice g_nilCheck g_len g_makeFunc h_call h_append h_alloc h_box h_buildSlice h_makeSlice h_store gV i_box i_buildSlice i_move i_assign i_build i_load i_binOp i_unOp i_convert i_fieldAddr i_field i_indexAddr i_index i_extract i_lookup i_makeMap i_mapUpdate i_slice i_nilCheck i_makeFunc i_len i_max i_min i_alloc i_makeSlice i_store i_append i_call i_pick boxI boxA buildSliceI buildSliceA makeSliceA makeMapA allocA storeA p_move p_assign p_pick p_build p_load p_binOp p_unOp p_convert p_fieldAddr p_field p_indexAddr p_index p_extract p_lookup p_makeMap p_mapUpdate p_slice p_nilCheck p_makeFunc p_len p_max p_min p_alloc p_box p_buildSlice p_makeSlice p_store p_append p_call x_nil x_go1 x_g0 x_g1 x_g2 x_g3 x_s0 x_s1 x_s2 x_s3 u_move u_assign u_pick u_build u_load u_binOp u_unOp u_convert u_fieldAddr u_field u_indexAddr u_index u_extract u_lookup u_slice u_nilCheck u_makeFunc u_len u_buildSlice x_s4 x_g4 rq_normal rq_ret rq_exit aw_range
attribute [local go_sem] frzV_sl frzK_some set_none set_other AHeap.set_self set_del set_set cnd_t cnd_f cnd_b retA_one retA_two retA_three retA_four retA_nil gIf_b mrgV_b mrgV_wh mrgV_U gIf_U gIf_wh mrgB_f mrgB_some mrgB_if wh_true wh_false keepA_some keepA_if gD_zero gD_succ gT_some bxA_t bxA_f callA_fn ev_tmp ev_const ev_global ev_func oc_bool oc_int oc_string oc_nil oc_nilptr oc_nilfunc cl_bool cl_int cl_string cl_nil updO_some updO_none upd_same upd_other init_at pickA_b pickA_wh selA_t selA_f selA_and selA_or selA_orn selA_orm selA_bb selA_ii beqt b_add b_sub b_mul b_and b_or b_xor b_eql b_neq b_lss b_leq b_gtr b_geq b_quo b_rem b_shr b_seql b_sneq b_sadd b_beql b_bneq b_aeql b_aneq u_not u_neg isConstOp eqA eqCellV List.getD_cons_zero List.getD_cons_succ List.map_cons List.map_nil List.nil_append List.cons_append List.append_nil if_true if_false Option.map_some Option.map_none ne_eq not_false_eq_true oneA ldv ld1v ld1s wr1s ldRow stRow row_lit row_agg row_vsl row_sl row_ptr row_fn one_I one_B one_S one_vsl one_sl one_ptr one_fn extractA okA rI rS rU rClass rFault rExit rStart rLine Int.toNat_natCast List.length_cons List.length_nil List.length_map List.all_cons List.all_nil Bool.and_true Nat.zero_add List.getElem?_cons_zero List.getElem?_cons_succ List.take_succ_cons List.take_zero List.drop_succ_cons List.drop_zero and_self true_and and_true implies_true decide_eq_true_eq decide_eq_false_iff_not Bool.or_eq_true Bool.or_eq_false_iff Bool.and_eq_true Bool.not_eq_true' Bool.not_eq_false' beq_false decide_true decide_false Int.ofNat_lt Int.ofNat_le Int.natCast_nonneg Bool.or_true Bool.or_false Bool.true_or Bool.false_or beq_self_eq_true List.drop_one Bool.not_true Bool.not_false Bool.not_not Bool.false_eq_true Bool.true_eq_false false_implies true_implies Bool.true_and Bool.false_and Bool.and_false not_true_eq_false Int.natCast_eq_zero Int.natCast_pos Int.natCast_zero false_and and_false or_false false_or or_true true_or Bool.or_self none_le_iff List.replicate_zero Int.toNat_zero List.replicate_succ buildRows List.set_cons_zero List.set_cons_succ List.set_nil List.mapM_nil maxLen_eq Nat.zero_le Nat.mul_one Nat.one_mul bldA fillA spliceA List.take_nil List.drop_nil List.getElem?_nil ld1o wr1o bldSliceA le_same cv_i cvI_t quietT_fn qvd_some ld_o ldO_1 ldO_l wr_o wrO_1 set_2 set_3 set_4 putL_nil putL_cons List.zip_cons_cons List.zip_nil_left List.zip_nil_right List.toList_toArray frzV_set ti1 ti2 tk2 ti3 te3 ts3 tk3 tz3 ti4 tb4 ti5 tk5 tz5 ti9 te9 ts9 tk9 tz9 ti12 tk12 ti13 tp13 tf13_0 tf13_1 ti20 ti21 tk21 tz21 ti22 te22 tz22 ti23 te23 ti24 tp24 tf24_0 ti25 tp25 tf25_0 ti26 te26 ti28 ti29 te29 ti30 te30 ti31 tp31 tf31_0 ti32 tp32 tf32_0 ti33 tp33 tf33_0 tf33_1 tf33_2 tf33_3 ti34 tp34 tf34_0 tf34_1 tf34_2 tf34_3 ti35 ti36 ti37 ti39 ti40 tq40 tp40 tf40_0 tf40_1 tf40_2 tf40_3 ti41 tq41 tp41 tf41_0 tf41_1 tf41_2 tf41_3 ti42 ti43 tq43 tp43 tf43_0 tf43_1 tf43_2 ti44 tq44 tp44 tf44_0 tf44_1 tf44_2 ti45 te45 ti46 tq46 tp46 tf46_0 tf46_1 tf46_2 ti47 tq47 tp47 tf47_0 tf47_1 tf47_2 ti49 ti50 ti51 ti53 ti54 ti55 ti56 te56 ti57 tp57 tf57_0 ti58 tp58 tf58_0 ti59 te59 ti60 ti61 ti62 ti63 ti64 ti65 ti66 ti67 ti68 ti69 ti70 ti71 te71 ti72 tq72 tp72 tf72_0 tf72_1 tf72_2 ti73 ti74 ti75 ti76 ti77 ti78 ti79 ti80 ti81 ti82 ti83 ti84 ti85 ti86 ti87 tq87 tp87 tf87_0 tf87_1 ti88 tq88 tp88 tf88_0 tf88_1 ti89 ti90 ti91 ti92 ti93 ti94 ti95 ti96 ti97 ti98 ti99 ti100 ti101 ti102 tq102 tp102 tf102_0 tf102_1 tf102_2 tf102_3 tf102_4 ti103 tq103 tp103 tf103_0 tf103_1 tf103_2 tf103_3 tf103_4 ti104 ti105 ti106 ti107 ti108 ti109 ti110 ti111 ti112 ti113 tq113 tp113 tf113_0 tf113_1 tf113_2 tf113_3 ti114 ti115 ti116 ti117 ti118 ti119 ti120 tq120 tp120 tf120_0 tf120_1 tf120_2 ti121 ti122 ti123 ti124 ti125 ti126 tp126 tf126_0 tf126_1 ti127 tp127 tf127_0 tf127_1 ti128 tp128 tf128_0 tf128_1 tf128_2 tf128_3 tf128_4 ti129 tp129 tf129_0 tf129_1 tf129_2 tf129_3 tf129_4 ti131 ti132 ti133 ti134 ti135 ti136 ti137 tp137 tf137_0 tf137_1 tf137_2 tf137_3 ti138 tp138 tf138_0 tf138_1 tf138_2 tf138_3 ti139 tq139 tp139 tf139_0 tf139_1 ti140 tq140 tp140 tf140_0 tf140_1 ti141 ti142 ti143 tq143 tp143 tf143_0 tf143_1 ti144 tq144 tp144 tf144_0 tf144_1 ti145 ti146 ti147 ti148 ti149 te149 ti150 ti151 te151 ti152 ti153 ti154 ti155 ti156 ti157 ti158 tp158 tf158_0 tf158_1 tf158_2 ti159 tp159 tf159_0 tf159_1 tf159_2 ti160 ti161 ti162 ti163 ti164 ti165 ti166 ti167 ti168 ti169 tq169 tp169 tf169_0 tf169_1 ti170 ti171 ti172 ti173 ti174 ti175 ti176 ti177 te177 ti178 ti179 ti180 ti181 ti182 ti183 ti184 ti185 ti186 ti187 ti188 ti189 ti190 ti191 ti192 ti193 ti194 ti195 ti196 ti197 ti198 ti199 ti200 ti201 ti202 ti203 ti204 ti205 tk205 tz205 ti206 ti207 ti208 ti209 tk209 ti211 ti212 ti213 ti215 ti216 ti217 tk217 tz217 ti218 ti219 tk219 tz219 ti220 tk220 ti221 ti222 ti223 ti224 ti225 ti226 ti228 ti229 ti235 ti239 ti244 fp13_0 fv13_0 fp13_1 fv13_1 fp24_0 fv24_0 fp25_0 fv25_0 fp31_0 fv31_0 fp32_0 fv32_0 fp33_0 fv33_0 fp33_1 fv33_1 fp33_2 fv33_2 fp33_3 fv33_3 fp34_0 fv34_0 fp34_1 fv34_1 fp34_2 fv34_2 fp34_3 fv34_3 fp40_0 fv40_0 fp40_1 fv40_1 fp40_2 fv40_2 fp40_3 fv40_3 fp41_0 fv41_0 fp41_1 fv41_1 fp41_2 fv41_2 fp41_3 fv41_3 fp43_0 fv43_0 fp43_1 fv43_1 fp43_2 fv43_2 fp44_0 fv44_0 fp44_1 fv44_1 fp44_2 fv44_2 fp46_0 fv46_0 fp46_1 fv46_1 fp46_2 fv46_2 fp47_0 fv47_0 fp47_1 fv47_1 fp47_2 fv47_2 fp57_0 fv57_0 fp58_0 fv58_0 fp72_0 fv72_0 fp72_1 fv72_1 fp72_2 fv72_2 fp87_0 fv87_0 fp87_1 fv87_1 fp88_0 fv88_0 fp88_1 fv88_1 fp102_0 fv102_0 fp102_1 fv102_1 fp102_2 fv102_2 fp102_3 fv102_3 fp102_4 fv102_4 fp103_0 fv103_0 fp103_1 fv103_1 fp103_2 fv103_2 fp103_3 fv103_3 fp103_4 fv103_4 fp113_0 fv113_0 fp113_1 fv113_1 fp113_2 fv113_2 fp113_3 fv113_3 fp120_0 fv120_0 fp120_1 fv120_1 fp120_2 fv120_2 fp126_0 fv126_0 fp126_1 fv126_1 fp127_0 fv127_0 fp127_1 fv127_1 fp128_0 fv128_0 fp128_1 fv128_1 fp128_2 fv128_2 fp128_3 fv128_3 fp128_4 fv128_4 fp129_0 fv129_0 fp129_1 fv129_1 fp129_2 fv129_2 fp129_3 fv129_3 fp129_4 fv129_4 fp137_0 fv137_0 fp137_1 fv137_1 fp137_2 fv137_2 fp137_3 fv137_3 fp138_0 fv138_0 fp138_1 fv138_1 fp138_2 fv138_2 fp138_3 fv138_3 fp139_0 fv139_0 fp139_1 fv139_1 fp140_0 fv140_0 fp140_1 fv140_1 fp143_0 fv143_0 fp143_1 fv143_1 fp144_0 fv144_0 fp144_1 fv144_1 fp158_0 fv158_0 fp158_1 fv158_1 fp158_2 fv158_2 fp159_0 fv159_0 fp159_1 fv159_1 fp159_2 fv159_2 fp169_0 fv169_0 fp169_1 fv169_1 lv22 ll22 is22 ix22 sh22 so22 sb22 sm22 sp22 lv23 ll23 is23 ix23 sh23 so23 sb23 sm23 sp23 lv26 ll26 is26 ix26 sh26 so26 sb26 sm26 sp26 lv29 ll29 is29 ix29 sh29 so29 sb29 sm29 sp29 lv30 ll30 is30 ix30 sh30 so30 sb30 sm30 sp30 lv45 ll45 is45 ix45 sh45 so45 sb45 sm45 sp45 lv56 ll56 is56 sp56 lv59 ll59 is59 sp59 lv71 ll71 is71 sp71 lv149 ll149 is149 sp149 lv151 ll151 is151 sp151 lv177 ll177 is177 ix177 sh177 so177 sb177 sm177 sp177 xs9 ls9 sx9 sy9 sz9
section
open Go Go.Sim
set_option maxRecDepth 100000
set_option maxHeartbeats 4000000

theorem c_toClass (x : Class) (H : AHeap) : ACalls Tryz.prog 125 [.agg (rClass x)] H fun r H' => r = .agg (rClass x) ∧ H' = H := by
  refine acalls_of1 Tryz.func125 rfl (by kernel_rfl) rfl rfl (awp_sound (fz := fun _ => []) (im := fun s => s == 1) mixed _ _ _ _ (by kernel_rfl) ?_)
  simp +contextual -dsimp -implicitDefEqProofs (maxSteps := 5000000) only [go_sem, reduceIte, reduceCtorEq, Nat.reduceEqDiff, Nat.reduceBEq, Nat.reduceAdd, Nat.reduceLeDiff, Nat.reduceMul, Nat.reduceLT, Int.reduceEq, Int.reduceLT, Int.reduceLE]
  intro b2 hb2 b3 hb3
  obtain ⟨n1, n2, hb3⟩ := hb3
  refine retR_less (l := [.agg (rClass x)]) (H' := H) ?_ (le_s1 (le_s1 (AHeap.le_refl _) hb2) hb3) ⟨rfl, rfl⟩
  simp only [resA, go_sem, reduceIte, reduceCtorEq, Nat.reduceEqDiff, Nat.reduceBEq, Nat.reduceAdd, Nat.reduceLeDiff, Nat.reduceMul, Nat.reduceLT, Int.reduceEq, Int.reduceLT, Int.reduceLE, n1, n2]
theorem c_toExit (x : Exi) (H : AHeap) : ACalls Tryz.prog 86 [.agg (rExit x)] H fun r H' => r = .agg (rExit x) ∧ H' = H := by
  refine acalls_of1 Tryz.func86 rfl (by kernel_rfl) rfl rfl (awp_sound (fz := fun _ => []) (im := fun s => s == 1) mixed _ _ _ _ (by kernel_rfl) ?_)
  simp +contextual -dsimp -implicitDefEqProofs (maxSteps := 5000000) only [go_sem, reduceIte, reduceCtorEq, Nat.reduceEqDiff, Nat.reduceBEq, Nat.reduceAdd, Nat.reduceLeDiff, Nat.reduceMul, Nat.reduceLT, Int.reduceEq, Int.reduceLT, Int.reduceLE]
  intro b2 hb2 b3 hb3
  obtain ⟨n1, n2, hb3⟩ := hb3
  refine retR_less (l := [.agg (rExit x)]) (H' := H) ?_ (le_s1 (le_s1 (AHeap.le_refl _) hb2) hb3) ⟨rfl, rfl⟩
  simp only [resA, go_sem, reduceIte, reduceCtorEq, Nat.reduceEqDiff, Nat.reduceBEq, Nat.reduceAdd, Nat.reduceLeDiff, Nat.reduceMul, Nat.reduceLT, Int.reduceEq, Int.reduceLT, Int.reduceLE, n1, n2]
theorem c_toStart (x : Sta) (H : AHeap) : ACalls Tryz.prog 41 [.agg (rStart x)] H fun r H' => r = .agg (rStart x) ∧ H' = H := by
  refine acalls_of1 Tryz.func41 rfl (by kernel_rfl) rfl rfl (awp_sound (fz := fun _ => []) (im := fun s => s == 1) mixed _ _ _ _ (by kernel_rfl) ?_)
  simp +contextual -dsimp -implicitDefEqProofs (maxSteps := 5000000) only [go_sem, reduceIte, reduceCtorEq, Nat.reduceEqDiff, Nat.reduceBEq, Nat.reduceAdd, Nat.reduceLeDiff, Nat.reduceMul, Nat.reduceLT, Int.reduceEq, Int.reduceLT, Int.reduceLE]
  intro b2 hb2 b3 hb3
  obtain ⟨n1, n2, hb3⟩ := hb3
  refine retR_less (l := [.agg (rStart x)]) (H' := H) ?_ (le_s1 (le_s1 (AHeap.le_refl _) hb2) hb3) ⟨rfl, rfl⟩
  simp only [resA, go_sem, reduceIte, reduceCtorEq, Nat.reduceEqDiff, Nat.reduceBEq, Nat.reduceAdd, Nat.reduceLeDiff, Nat.reduceMul, Nat.reduceLT, Int.reduceEq, Int.reduceLT, Int.reduceLE, n1, n2]
theorem wr_row {F : AHeap} {b sz k : Nat} {ty : TypeId} {es : List (List AV)} {row : List AV} (hk : k < es.length) (hr : ∀ r ∈ es, r.length = sz) (hrow : row.length = sz) : wrA (F.set b ⟨sz, ty, es⟩) (.ptr b sz k 0) row = some (F.set b ⟨sz, ty, es.set k row⟩) := by
  have h1 := hr es[k] (List.getElem_mem hk)
  simp only [wrA, AHeap.set_self, if_true, List.getElem?_eq_getElem hk, Nat.zero_add, List.take_zero, List.nil_append, set_set]
  rw [if_pos (by omega), List.drop_eq_nil_of_le (by omega), List.append_nil]
theorem row_step {α : Type} [Inhabited α] {g : α → List AV} {l : List α} {es : List (List AV)} {k : Nat} (hk : k < l.length) (hes : es.length = l.length) (h : es.take k = (l.take k).map g) : (es.set k (g (l.getD k default))).take (k + 1) = (l.take (k + 1)).map g := by
  rw [List.take_succ_eq_append_getElem (by simpa [hes] using hk), List.take_succ_eq_append_getElem hk, List.map_append, List.take_set_of_le (Nat.le_refl _), h, List.getElem_set_self]
  rw [List.getD_eq_getElem?_getD, List.getElem?_eq_getElem hk]
  rfl
theorem rows_set {es : List (List AV)} {k n : Nat} {r : List AV} (h : ∀ x ∈ es, x.length = n) (hr : r.length = n) : ∀ x ∈ es.set k r, x.length = n := by
  intro x hx
  rcases List.mem_or_eq_of_mem_set hx with q | q
  · exact h x q
  · rw [q]; exact hr
theorem c_toClassS (l : List Class) (cl : Bool) (H : AHeap) (hl : l.length ≤ 1048576) : ACalls Tryz.prog 77 [.vsl (l.map rClass) cl] H fun r H' => Grow rClass 2 144 H H' r l := by
  refine acalls_of0 Tryz.func77 rfl (by kernel_rfl) rfl rfl (awp_sound (fz := fun _ => []) (im := fun _ => false) mixed _ _ _ _ (by kernel_rfl) ?_)
  simp +contextual -dsimp -implicitDefEqProofs (maxSteps := 5000000) only [go_sem, reduceIte, reduceCtorEq, Nat.reduceEqDiff, Nat.reduceBEq, Nat.reduceAdd, Nat.reduceLeDiff, Nat.reduceMul, Nat.reduceLT, Int.reduceEq, Int.reduceLT, Int.reduceLE]
  refine ⟨by omega, by omega, by omega, fun b hb => ?_⟩
  refine aloop mixed (fz := fun _ => []) (im := fun _ => false) (by kernel_rfl) (fun m tm H' => ∃ (k : Nat) (es : List (List AV)), m = l.length - k ∧ k ≤ l.length ∧ es.length = l.length ∧ es.take k = (l.take k).map rClass ∧ (∀ r ∈ es, r.length = 2) ∧ H' = H.set b ⟨2, 144, es⟩ ∧ tm 0 = .vsl (l.map rClass) cl ∧ tm 3 = .sl b 2 0 l.length false ∧ tm 4 = I k) l.length ⟨0, _, by omega, by omega, List.length_replicate, rfl, (fun r hr => by rw [List.eq_of_mem_replicate hr]; rfl), rfl, ?_⟩ ?_
  · simp +contextual -dsimp -implicitDefEqProofs (maxSteps := 5000000) only [go_sem, reduceIte, reduceCtorEq, Nat.reduceEqDiff, Nat.reduceBEq, Nat.reduceAdd, Nat.reduceLeDiff, Nat.reduceMul, Nat.reduceLT, Int.reduceEq, Int.reduceLT, Int.reduceLE]
  · rintro m tm H' ⟨k, es, rfl, hk, hes, htk, hrow, rfl, t0, t3, t4⟩
    by_cases hlt : k < l.length
    · have hw := wr_row (F := H) (b := b) (ty := 144) (k := k) (es := es) (row := rClass (l.getD k default)) (by omega) hrow rfl
      rw [wr_o, AHeap.set_self] at hw
      simp only [rClass] at hw
      simp +contextual -dsimp -implicitDefEqProofs (maxSteps := 5000000) only [go_sem, reduceIte, reduceCtorEq, Nat.reduceEqDiff, Nat.reduceBEq, Nat.reduceAdd, Nat.reduceLeDiff, Nat.reduceMul, Nat.reduceLT, Int.reduceEq, Int.reduceLT, Int.reduceLE, ixv te56 ti169 rClass_len (show 0 < 2 by decide), t0, t3, t4, hlt]
      refine (c_toClass _ _).det ?_
      simp +contextual -dsimp -implicitDefEqProofs (maxSteps := 5000000) only [go_sem, reduceIte, reduceCtorEq, Nat.reduceEqDiff, Nat.reduceBEq, Nat.reduceAdd, Nat.reduceLeDiff, Nat.reduceMul, Nat.reduceLT, Int.reduceEq, Int.reduceLT, Int.reduceLE, hw, t0, t3, t4, hlt]
      exact ⟨_, by omega, k + 1, _, rfl, hlt, by rw [List.length_set]; exact hes, row_step hlt hes htk, rows_set hrow rfl, rfl, I_wrap (by omega) (by omega) (by omega)⟩
    · have hke : k = l.length := by omega
      subst hke
      rw [List.take_length, List.take_of_length_le (by omega)] at htk
      subst htk
      simp +contextual -dsimp -implicitDefEqProofs (maxSteps := 5000000) only [go_sem, reduceIte, reduceCtorEq, Nat.reduceEqDiff, Nat.reduceBEq, Nat.reduceAdd, Nat.reduceLeDiff, Nat.reduceMul, Nat.reduceLT, Int.reduceEq, Int.reduceLT, Int.reduceLE, t0, t3, t4, hlt]
      exact .inr ⟨b, false, hb, rfl, rfl⟩
theorem c_toExitS (l : List Exi) (cl : Bool) (H : AHeap) (hl : l.length ≤ 1048576) : ACalls Tryz.prog 40 [.vsl (l.map rExit) cl] H fun r H' => Grow rExit 3 44 H H' r l := by
  refine acalls_of0 Tryz.func40 rfl (by kernel_rfl) rfl rfl (awp_sound (fz := fun _ => []) (im := fun _ => false) mixed _ _ _ _ (by kernel_rfl) ?_)
  simp +contextual -dsimp -implicitDefEqProofs (maxSteps := 5000000) only [go_sem, reduceIte, reduceCtorEq, Nat.reduceEqDiff, Nat.reduceBEq, Nat.reduceAdd, Nat.reduceLeDiff, Nat.reduceMul, Nat.reduceLT, Int.reduceEq, Int.reduceLT, Int.reduceLE]
  refine ⟨by omega, by omega, by omega, fun b hb => ?_⟩
  refine aloop mixed (fz := fun _ => []) (im := fun _ => false) (by kernel_rfl) (fun m tm H' => ∃ (k : Nat) (es : List (List AV)), m = l.length - k ∧ k ≤ l.length ∧ es.length = l.length ∧ es.take k = (l.take k).map rExit ∧ (∀ r ∈ es, r.length = 3) ∧ H' = H.set b ⟨3, 44, es⟩ ∧ tm 0 = .vsl (l.map rExit) cl ∧ tm 3 = .sl b 3 0 l.length false ∧ tm 4 = I k) l.length ⟨0, _, by omega, by omega, List.length_replicate, rfl, (fun r hr => by rw [List.eq_of_mem_replicate hr]; rfl), rfl, ?_⟩ ?_
  · simp +contextual -dsimp -implicitDefEqProofs (maxSteps := 5000000) only [go_sem, reduceIte, reduceCtorEq, Nat.reduceEqDiff, Nat.reduceBEq, Nat.reduceAdd, Nat.reduceLeDiff, Nat.reduceMul, Nat.reduceLT, Int.reduceEq, Int.reduceLT, Int.reduceLE]
  · rintro m tm H' ⟨k, es, rfl, hk, hes, htk, hrow, rfl, t0, t3, t4⟩
    by_cases hlt : k < l.length
    · have hw := wr_row (F := H) (b := b) (ty := 44) (k := k) (es := es) (row := rExit (l.getD k default)) (by omega) hrow rfl
      rw [wr_o, AHeap.set_self] at hw
      simp only [rExit] at hw
      simp +contextual -dsimp -implicitDefEqProofs (maxSteps := 5000000) only [go_sem, reduceIte, reduceCtorEq, Nat.reduceEqDiff, Nat.reduceBEq, Nat.reduceAdd, Nat.reduceLeDiff, Nat.reduceMul, Nat.reduceLT, Int.reduceEq, Int.reduceLT, Int.reduceLE, ixv te71 ti120 rExit_len (show 0 < 3 by decide), t0, t3, t4, hlt]
      refine (c_toExit _ _).det ?_
      simp +contextual -dsimp -implicitDefEqProofs (maxSteps := 5000000) only [go_sem, reduceIte, reduceCtorEq, Nat.reduceEqDiff, Nat.reduceBEq, Nat.reduceAdd, Nat.reduceLeDiff, Nat.reduceMul, Nat.reduceLT, Int.reduceEq, Int.reduceLT, Int.reduceLE, hw, t0, t3, t4, hlt]
      exact ⟨_, by omega, k + 1, _, rfl, hlt, by rw [List.length_set]; exact hes, row_step hlt hes htk, rows_set hrow rfl, rfl, I_wrap (by omega) (by omega) (by omega)⟩
    · have hke : k = l.length := by omega
      subst hke
      rw [List.take_length, List.take_of_length_le (by omega)] at htk
      subst htk
      simp +contextual -dsimp -implicitDefEqProofs (maxSteps := 5000000) only [go_sem, reduceIte, reduceCtorEq, Nat.reduceEqDiff, Nat.reduceBEq, Nat.reduceAdd, Nat.reduceLeDiff, Nat.reduceMul, Nat.reduceLT, Int.reduceEq, Int.reduceLT, Int.reduceLE, t0, t3, t4, hlt]
      exact .inr ⟨b, false, hb, rfl, rfl⟩
theorem c_eqClass (x : Class) (H : AHeap) : ACalls Tryz.prog 126 [.agg (rClass x), .agg (rClass x)] H fun r H' => r = B true ∧ H' = H := by
  refine acalls_of0 Tryz.func126 rfl (by kernel_rfl) rfl rfl (awp_sound (fz := fun _ => []) (im := fun s => s == 2 || s == 3) mixed _ _ _ _ (by kernel_rfl) ?_)
  simp +contextual -dsimp -implicitDefEqProofs (maxSteps := 5000000) only [go_sem, reduceIte, reduceCtorEq, Nat.reduceEqDiff, Nat.reduceBEq, Nat.reduceAdd, Nat.reduceLeDiff, Nat.reduceMul, Nat.reduceLT, Int.reduceEq, Int.reduceLT, Int.reduceLE]
theorem c_eqExit (x : Exi) (H : AHeap) : ACalls Tryz.prog 88 [.agg (rExit x), .agg (rExit x)] H fun r H' => r = B true ∧ H' = H := by
  refine acalls_of0 Tryz.func88 rfl (by kernel_rfl) rfl rfl (awp_sound (fz := fun _ => []) (im := fun s => s == 2 || s == 3) mixed _ _ _ _ (by kernel_rfl) ?_)
  simp +contextual -dsimp -implicitDefEqProofs (maxSteps := 5000000) only [go_sem, reduceIte, reduceCtorEq, Nat.reduceEqDiff, Nat.reduceBEq, Nat.reduceAdd, Nat.reduceLeDiff, Nat.reduceMul, Nat.reduceLT, Int.reduceEq, Int.reduceLT, Int.reduceLE]
theorem c_eqFault (x : Fault) (H : AHeap) : ACalls Tryz.prog 171 [.agg (rFault x), .agg (rFault x)] H fun r H' => r = B true ∧ H' = H := by
  refine acalls_of0 Tryz.func171 rfl (by kernel_rfl) rfl rfl (awp_sound (fz := fun _ => []) (im := fun s => s == 2 || s == 3) mixed _ _ _ _ (by kernel_rfl) ?_)
  simp +contextual -dsimp -implicitDefEqProofs (maxSteps := 5000000) only [go_sem, reduceIte, reduceCtorEq, Nat.reduceEqDiff, Nat.reduceBEq, Nat.reduceAdd, Nat.reduceLeDiff, Nat.reduceMul, Nat.reduceLT, Int.reduceEq, Int.reduceLT, Int.reduceLE]
theorem c_eqIntS (l : List Int) (c1 c2 : Bool) (H : AHeap) : ACalls Tryz.prog 28 [.vsl (l.map rI) c1, .vsl (l.map rI) c2] H fun r H' => r = B true ∧ H' = H := by
  refine acalls_len (by kernel_rfl) (List.mem_cons_self ..) fun hl => ?_
  rw [List.length_map] at hl
  refine acalls_of0 Tryz.func28 rfl (by kernel_rfl) rfl rfl (awp_sound (fz := fun _ => []) (im := fun _ => false) mixed _ _ _ _ (by kernel_rfl) ?_)
  simp +contextual -dsimp -implicitDefEqProofs (maxSteps := 5000000) only [go_sem, reduceIte, reduceCtorEq, Nat.reduceEqDiff, Nat.reduceBEq, Nat.reduceAdd, Nat.reduceLeDiff, Nat.reduceMul, Nat.reduceLT, Int.reduceEq, Int.reduceLT, Int.reduceLE]
  refine aloop mixed (fz := fun _ => []) (im := fun _ => false) (by kernel_rfl) (fun m tm H' => ∃ k : Nat, m = l.length - k ∧ k ≤ l.length ∧ H' = H ∧ tm 0 = .vsl (l.map rI) c1 ∧ tm 1 = .vsl (l.map rI) c2 ∧ tm 5 = I k) l.length ⟨0, by omega, by omega, rfl, ?_⟩ ?_
  · simp +contextual -dsimp -implicitDefEqProofs (maxSteps := 5000000) only [go_sem, reduceIte, reduceCtorEq, Nat.reduceEqDiff, Nat.reduceBEq, Nat.reduceAdd, Nat.reduceLeDiff, Nat.reduceMul, Nat.reduceLT, Int.reduceEq, Int.reduceLT, Int.reduceLE]
  · rintro m tm H ⟨k, rfl, hk, rfl, t0, t1, t5⟩
    by_cases hlt : k < l.length
    · simp +contextual -dsimp -implicitDefEqProofs (maxSteps := 5000000) only [go_sem, reduceIte, reduceCtorEq, Nat.reduceEqDiff, Nat.reduceBEq, Nat.reduceAdd, Nat.reduceLeDiff, Nat.reduceMul, Nat.reduceLT, Int.reduceEq, Int.reduceLT, Int.reduceLE, t0, t1, t5, hlt]
      refine draw_intro [0, 0, 0, 0, 0, 0, 0, 0, 0] AHeap.none (by kernel_rfl) none_le ?_
      simp +contextual -dsimp -implicitDefEqProofs (maxSteps := 5000000) only [go_sem, reduceIte, reduceCtorEq, Nat.reduceEqDiff, Nat.reduceBEq, Nat.reduceAdd, Nat.reduceLeDiff, Nat.reduceMul, Nat.reduceLT, Int.reduceEq, Int.reduceLT, Int.reduceLE, t0, t1, t5, hlt]
      exact ⟨_, by omega, k + 1, rfl, hlt, I_wrap (by omega) (by omega) (by omega)⟩
    · simp +contextual -dsimp -implicitDefEqProofs (maxSteps := 5000000) only [go_sem, reduceIte, reduceCtorEq, Nat.reduceEqDiff, Nat.reduceBEq, Nat.reduceAdd, Nat.reduceLeDiff, Nat.reduceMul, Nat.reduceLT, Int.reduceEq, Int.reduceLT, Int.reduceLE, t0, t1, t5, hlt]
theorem c_eqClassS (l : List Class) (c1 c2 : Bool) (H : AHeap) : ACalls Tryz.prog 79 [.vsl (l.map rClass) c1, .vsl (l.map rClass) c2] H fun r H' => r = B true ∧ H' = H := by
  refine acalls_len (by kernel_rfl) (List.mem_cons_self ..) fun hl => ?_
  rw [List.length_map] at hl
  refine acalls_of0 Tryz.func79 rfl (by kernel_rfl) rfl rfl (awp_sound (fz := fun _ => []) (im := fun _ => false) mixed _ _ _ _ (by kernel_rfl) ?_)
  simp +contextual -dsimp -implicitDefEqProofs (maxSteps := 5000000) only [go_sem, reduceIte, reduceCtorEq, Nat.reduceEqDiff, Nat.reduceBEq, Nat.reduceAdd, Nat.reduceLeDiff, Nat.reduceMul, Nat.reduceLT, Int.reduceEq, Int.reduceLT, Int.reduceLE]
  refine aloop mixed (fz := fun _ => []) (im := fun _ => false) (by kernel_rfl) (fun m tm H' => ∃ k : Nat, m = l.length - k ∧ k ≤ l.length ∧ H' = H ∧ tm 0 = .vsl (l.map rClass) c1 ∧ tm 1 = .vsl (l.map rClass) c2 ∧ tm 5 = I k) l.length ⟨0, by omega, by omega, rfl, ?_⟩ ?_
  · simp +contextual -dsimp -implicitDefEqProofs (maxSteps := 5000000) only [go_sem, reduceIte, reduceCtorEq, Nat.reduceEqDiff, Nat.reduceBEq, Nat.reduceAdd, Nat.reduceLeDiff, Nat.reduceMul, Nat.reduceLT, Int.reduceEq, Int.reduceLT, Int.reduceLE]
  · rintro m tm H ⟨k, rfl, hk, rfl, t0, t1, t5⟩
    by_cases hlt : k < l.length
    · simp +contextual -dsimp -implicitDefEqProofs (maxSteps := 5000000) only [go_sem, reduceIte, reduceCtorEq, Nat.reduceEqDiff, Nat.reduceBEq, Nat.reduceAdd, Nat.reduceLeDiff, Nat.reduceMul, Nat.reduceLT, Int.reduceEq, Int.reduceLT, Int.reduceLE, t0, t1, t5, hlt]
      refine draw_intro [0, 0, 0, 0, 0, 0, 0, 0, 2, 0] AHeap.none (by kernel_rfl) none_le ?_
      simp +contextual -dsimp -implicitDefEqProofs (maxSteps := 5000000) only [go_sem, reduceIte, reduceCtorEq, Nat.reduceEqDiff, Nat.reduceBEq, Nat.reduceAdd, Nat.reduceLeDiff, Nat.reduceMul, Nat.reduceLT, Int.reduceEq, Int.reduceLT, Int.reduceLE, t0, t1, t5, hlt]
      exact (c_eqClass _ _).det (by simp +contextual -dsimp -implicitDefEqProofs (maxSteps := 5000000) only [go_sem, reduceIte, reduceCtorEq, Nat.reduceEqDiff, Nat.reduceBEq, Nat.reduceAdd, Nat.reduceLeDiff, Nat.reduceMul, Nat.reduceLT, Int.reduceEq, Int.reduceLT, Int.reduceLE, t0, t1, t5, hlt]; exact ⟨_, by omega, k + 1, rfl, hlt, I_wrap (by omega) (by omega) (by omega)⟩)
    · simp +contextual -dsimp -implicitDefEqProofs (maxSteps := 5000000) only [go_sem, reduceIte, reduceCtorEq, Nat.reduceEqDiff, Nat.reduceBEq, Nat.reduceAdd, Nat.reduceLeDiff, Nat.reduceMul, Nat.reduceLT, Int.reduceEq, Int.reduceLT, Int.reduceLE, t0, t1, t5, hlt]
theorem c_eqExitS (l : List Exi) (c1 c2 : Bool) (H : AHeap) : ACalls Tryz.prog 43 [.vsl (l.map rExit) c1, .vsl (l.map rExit) c2] H fun r H' => r = B true ∧ H' = H := by
  refine acalls_len (by kernel_rfl) (List.mem_cons_self ..) fun hl => ?_
  rw [List.length_map] at hl
  refine acalls_of0 Tryz.func43 rfl (by kernel_rfl) rfl rfl (awp_sound (fz := fun _ => []) (im := fun _ => false) mixed _ _ _ _ (by kernel_rfl) ?_)
  simp +contextual -dsimp -implicitDefEqProofs (maxSteps := 5000000) only [go_sem, reduceIte, reduceCtorEq, Nat.reduceEqDiff, Nat.reduceBEq, Nat.reduceAdd, Nat.reduceLeDiff, Nat.reduceMul, Nat.reduceLT, Int.reduceEq, Int.reduceLT, Int.reduceLE]
  refine aloop mixed (fz := fun _ => []) (im := fun _ => false) (by kernel_rfl) (fun m tm H' => ∃ k : Nat, m = l.length - k ∧ k ≤ l.length ∧ H' = H ∧ tm 0 = .vsl (l.map rExit) c1 ∧ tm 1 = .vsl (l.map rExit) c2 ∧ tm 5 = I k) l.length ⟨0, by omega, by omega, rfl, ?_⟩ ?_
  · simp +contextual -dsimp -implicitDefEqProofs (maxSteps := 5000000) only [go_sem, reduceIte, reduceCtorEq, Nat.reduceEqDiff, Nat.reduceBEq, Nat.reduceAdd, Nat.reduceLeDiff, Nat.reduceMul, Nat.reduceLT, Int.reduceEq, Int.reduceLT, Int.reduceLE]
  · rintro m tm H ⟨k, rfl, hk, rfl, t0, t1, t5⟩
    by_cases hlt : k < l.length
    · simp +contextual -dsimp -implicitDefEqProofs (maxSteps := 5000000) only [go_sem, reduceIte, reduceCtorEq, Nat.reduceEqDiff, Nat.reduceBEq, Nat.reduceAdd, Nat.reduceLeDiff, Nat.reduceMul, Nat.reduceLT, Int.reduceEq, Int.reduceLT, Int.reduceLE, t0, t1, t5, hlt]
      refine draw_intro [0, 0, 0, 0, 0, 0, 0, 0, 2, 0] AHeap.none (by kernel_rfl) none_le ?_
      simp +contextual -dsimp -implicitDefEqProofs (maxSteps := 5000000) only [go_sem, reduceIte, reduceCtorEq, Nat.reduceEqDiff, Nat.reduceBEq, Nat.reduceAdd, Nat.reduceLeDiff, Nat.reduceMul, Nat.reduceLT, Int.reduceEq, Int.reduceLT, Int.reduceLE, t0, t1, t5, hlt]
      exact (c_eqExit _ _).det (by simp +contextual -dsimp -implicitDefEqProofs (maxSteps := 5000000) only [go_sem, reduceIte, reduceCtorEq, Nat.reduceEqDiff, Nat.reduceBEq, Nat.reduceAdd, Nat.reduceLeDiff, Nat.reduceMul, Nat.reduceLT, Int.reduceEq, Int.reduceLT, Int.reduceLE, t0, t1, t5, hlt]; exact ⟨_, by omega, k + 1, rfl, hlt, I_wrap (by omega) (by omega) (by omega)⟩)
    · simp +contextual -dsimp -implicitDefEqProofs (maxSteps := 5000000) only [go_sem, reduceIte, reduceCtorEq, Nat.reduceEqDiff, Nat.reduceBEq, Nat.reduceAdd, Nat.reduceLeDiff, Nat.reduceMul, Nat.reduceLT, Int.reduceEq, Int.reduceLT, Int.reduceLE, t0, t1, t5, hlt]
theorem c_eqFaultS (l : List Fault) (c1 c2 : Bool) (H : AHeap) : ACalls Tryz.prog 128 [.vsl (l.map rFault) c1, .vsl (l.map rFault) c2] H fun r H' => r = B true ∧ H' = H := by
  refine acalls_len (by kernel_rfl) (List.mem_cons_self ..) fun hl => ?_
  rw [List.length_map] at hl
  refine acalls_of0 Tryz.func128 rfl (by kernel_rfl) rfl rfl (awp_sound (fz := fun _ => []) (im := fun _ => false) mixed _ _ _ _ (by kernel_rfl) ?_)
  simp +contextual -dsimp -implicitDefEqProofs (maxSteps := 5000000) only [go_sem, reduceIte, reduceCtorEq, Nat.reduceEqDiff, Nat.reduceBEq, Nat.reduceAdd, Nat.reduceLeDiff, Nat.reduceMul, Nat.reduceLT, Int.reduceEq, Int.reduceLT, Int.reduceLE]
  refine aloop mixed (fz := fun _ => []) (im := fun _ => false) (by kernel_rfl) (fun m tm H' => ∃ k : Nat, m = l.length - k ∧ k ≤ l.length ∧ H' = H ∧ tm 0 = .vsl (l.map rFault) c1 ∧ tm 1 = .vsl (l.map rFault) c2 ∧ tm 5 = I k) l.length ⟨0, by omega, by omega, rfl, ?_⟩ ?_
  · simp +contextual -dsimp -implicitDefEqProofs (maxSteps := 5000000) only [go_sem, reduceIte, reduceCtorEq, Nat.reduceEqDiff, Nat.reduceBEq, Nat.reduceAdd, Nat.reduceLeDiff, Nat.reduceMul, Nat.reduceLT, Int.reduceEq, Int.reduceLT, Int.reduceLE]
  · rintro m tm H ⟨k, rfl, hk, rfl, t0, t1, t5⟩
    by_cases hlt : k < l.length
    · simp +contextual -dsimp -implicitDefEqProofs (maxSteps := 5000000) only [go_sem, reduceIte, reduceCtorEq, Nat.reduceEqDiff, Nat.reduceBEq, Nat.reduceAdd, Nat.reduceLeDiff, Nat.reduceMul, Nat.reduceLT, Int.reduceEq, Int.reduceLT, Int.reduceLE, t0, t1, t5, hlt]
      refine draw_intro [0, 0, 0, 0, 0, 0, 0, 0, 2, 0] AHeap.none (by kernel_rfl) none_le ?_
      simp +contextual -dsimp -implicitDefEqProofs (maxSteps := 5000000) only [go_sem, reduceIte, reduceCtorEq, Nat.reduceEqDiff, Nat.reduceBEq, Nat.reduceAdd, Nat.reduceLeDiff, Nat.reduceMul, Nat.reduceLT, Int.reduceEq, Int.reduceLT, Int.reduceLE, t0, t1, t5, hlt]
      exact (c_eqFault _ _).det (by simp +contextual -dsimp -implicitDefEqProofs (maxSteps := 5000000) only [go_sem, reduceIte, reduceCtorEq, Nat.reduceEqDiff, Nat.reduceBEq, Nat.reduceAdd, Nat.reduceLeDiff, Nat.reduceMul, Nat.reduceLT, Int.reduceEq, Int.reduceLT, Int.reduceLE, t0, t1, t5, hlt]; exact ⟨_, by omega, k + 1, rfl, hlt, I_wrap (by omega) (by omega) (by omega)⟩)
    · simp +contextual -dsimp -implicitDefEqProofs (maxSteps := 5000000) only [go_sem, reduceIte, reduceCtorEq, Nat.reduceEqDiff, Nat.reduceBEq, Nat.reduceAdd, Nat.reduceLeDiff, Nat.reduceMul, Nat.reduceLT, Int.reduceEq, Int.reduceLT, Int.reduceLE, t0, t1, t5, hlt]
theorem c_eqTree (t : List Class) (c1 c2 : Bool) (H : AHeap) : ACalls Tryz.prog 29 [aTree t c1, aTree t c2] H fun r H' => r = B true ∧ H' = H := by
  refine acalls_of0 Tryz.func29 rfl (by kernel_rfl) rfl rfl (awp_sound (fz := fun _ => []) (im := fun s => s == 2 || s == 3) mixed _ _ _ _ (by kernel_rfl) ?_)
  simp +contextual -dsimp -implicitDefEqProofs (maxSteps := 5000000) only [go_sem, reduceIte, reduceCtorEq, Nat.reduceEqDiff, Nat.reduceBEq, Nat.reduceAdd, Nat.reduceLeDiff, Nat.reduceMul, Nat.reduceLT, Int.reduceEq, Int.reduceLT, Int.reduceLE]
  refine (c_eqClassS _ _ _ _).det ?_
  simp +contextual -dsimp -implicitDefEqProofs (maxSteps := 5000000) only [go_sem, reduceIte, reduceCtorEq, Nat.reduceEqDiff, Nat.reduceBEq, Nat.reduceAdd, Nat.reduceLeDiff, Nat.reduceMul, Nat.reduceLT, Int.reduceEq, Int.reduceLT, Int.reduceLE]
theorem c_eqHeap (h : List Fault) (c1 c2 : Bool) (H : AHeap) : ACalls Tryz.prog 82 [aHeap h c1, aHeap h c2] H fun r H' => r = B true ∧ H' = H := by
  refine acalls_of0 Tryz.func82 rfl (by kernel_rfl) rfl rfl (awp_sound (fz := fun _ => []) (im := fun s => s == 2 || s == 3) mixed _ _ _ _ (by kernel_rfl) ?_)
  simp +contextual -dsimp -implicitDefEqProofs (maxSteps := 5000000) only [go_sem, reduceIte, reduceCtorEq, Nat.reduceEqDiff, Nat.reduceBEq, Nat.reduceAdd, Nat.reduceLeDiff, Nat.reduceMul, Nat.reduceLT, Int.reduceEq, Int.reduceLT, Int.reduceLE]
  refine (c_eqFaultS _ _ _ _).det ?_
  simp +contextual -dsimp -implicitDefEqProofs (maxSteps := 5000000) only [go_sem, reduceIte, reduceCtorEq, Nat.reduceEqDiff, Nat.reduceBEq, Nat.reduceAdd, Nat.reduceLeDiff, Nat.reduceMul, Nat.reduceLT, Int.reduceEq, Int.reduceLT, Int.reduceLE]
theorem c_eqResult (R : Res) (c1 c2 c3 c4 : Bool) (H : AHeap) : ACalls Tryz.prog 35 [aRes R c1 c2, aRes R c3 c4] H fun r H' => r = B true ∧ H' = H := by
  refine acalls_of0 Tryz.func35 rfl (by kernel_rfl) rfl rfl (awp_sound (fz := fun _ => []) (im := fun s => s == 2 || s == 3) mixed _ _ _ _ (by kernel_rfl) ?_)
  simp +contextual -dsimp -implicitDefEqProofs (maxSteps := 5000000) only [go_sem, reduceIte, reduceCtorEq, Nat.reduceEqDiff, Nat.reduceBEq, Nat.reduceAdd, Nat.reduceLeDiff, Nat.reduceMul, Nat.reduceLT, Int.reduceEq, Int.reduceLT, Int.reduceLE]
  refine (c_eqIntS _ _ _ _).det ?_
  simp +contextual -dsimp -implicitDefEqProofs (maxSteps := 5000000) only [go_sem, reduceIte, reduceCtorEq, Nat.reduceEqDiff, Nat.reduceBEq, Nat.reduceAdd, Nat.reduceLeDiff, Nat.reduceMul, Nat.reduceLT, Int.reduceEq, Int.reduceLT, Int.reduceLE]
  refine (c_eqHeap _ _ _ _).det ?_
  simp +contextual -dsimp -implicitDefEqProofs (maxSteps := 5000000) only [go_sem, reduceIte, reduceCtorEq, Nat.reduceEqDiff, Nat.reduceBEq, Nat.reduceAdd, Nat.reduceLeDiff, Nat.reduceMul, Nat.reduceLT, Int.reduceEq, Int.reduceLT, Int.reduceLE]
theorem c_toTree0 (t : List Class) (cl : Bool) (H : AHeap) (hl : t.length ≤ 1048576) : ACalls Tryz.prog 26 [aTree t cl] H fun r H' => ∃ x, r = .agg [x] ∧ Grow rClass 2 144 H H' x t := by
  refine acalls_of1 Tryz.func26 rfl (by kernel_rfl) rfl rfl (awp_sound (fz := fun _ => []) (im := fun s => s == 1) mixed _ _ _ _ (by kernel_rfl) ?_)
  simp +contextual -dsimp -implicitDefEqProofs (maxSteps := 5000000) only [go_sem, reduceIte, reduceCtorEq, Nat.reduceEqDiff, Nat.reduceBEq, Nat.reduceAdd, Nat.reduceLeDiff, Nat.reduceMul, Nat.reduceLT, Int.reduceEq, Int.reduceLT, Int.reduceLE]
  intro b2 hb2 b3 hb3
  obtain ⟨n1, n2, hb3⟩ := hb3
  refine (c_toClassS t cl _ hl).mono ?_
  rintro x H1 hg
  have hb3' : (H.set b2 ⟨1, 25, [[.vsl [] true]]⟩) b3 = none := by rw [set_other n1]; exact hb3
  obtain ⟨G, hg1, rfl, m3⟩ := grow_out hg hb3'
  obtain ⟨G2, hg2, rfl, m2⟩ := grow_out hg1 hb2
  obtain ⟨o1, o2⟩ := one_grow hg2
  have m3' : G2 b3 = none := by rw [set_other n1] at m3; exact m3
  simp +contextual -dsimp -implicitDefEqProofs (maxSteps := 5000000) only [go_sem, reduceIte, reduceCtorEq, Nat.reduceEqDiff, Nat.reduceBEq, Nat.reduceAdd, Nat.reduceLeDiff, Nat.reduceMul, Nat.reduceLT, Int.reduceEq, Int.reduceLT, Int.reduceLE, n1, n2, o1, o2]
  refine retR_less (l := [.agg [x]]) (H' := G2) ?_ (le_s1 (le_s1 (AHeap.le_refl _) m2) m3') ⟨x, rfl, hg2⟩
  simp only [resA, go_sem, reduceIte, reduceCtorEq, Nat.reduceEqDiff, Nat.reduceBEq, Nat.reduceAdd, Nat.reduceLeDiff, Nat.reduceMul, Nat.reduceLT, Int.reduceEq, Int.reduceLT, Int.reduceLE, n1, n2, o1, o2]
end
section
open Go Go.Sim
set_option maxRecDepth 100000
set_option maxHeartbeats 4000000

theorem wr_set {α : Type} [Inhabited α] {g : α → List AV} {F : AHeap} {b sz q j : Nat} {ty : TypeId} {L : List α} {v : AV} {y y' : α} (hj : j < L.length) (hy : stRow (g y) q [v] = some (g y')) :
    wrA (F.set b ⟨sz, ty, (L.set j y).map g⟩) (.ptr b sz j q) [v] = some (F.set b ⟨sz, ty, (L.set j y').map g⟩) := by
  rw [wrP (AHeap.set_self ..) (y := y') (by simpa using hj) (by rw [List.getD_eq_getElem?_getD, List.getElem?_set_self hj]; exact hy), set_set, List.set_set]
/-- What has been marked so far, and what has not. -/
def markP {α : Type} (g : Nat → α) (l : List α) (j : Nat) : List α := (List.range j).map g ++ l.drop j
theorem markP_len {α : Type} (g : Nat → α) (l : List α) {j : Nat} (h : j ≤ l.length) : (markP g l j).length = l.length := by
  unfold markP; simp; omega
theorem markP_set {α : Type} (g : Nat → α) (l : List α) {j : Nat} (h : j < l.length) : (markP g l j).set j (g j) = markP g l (j + 1) := by
  unfold markP
  rw [List.set_append_right _ _ (by simp), List.length_map, List.length_range, Nat.sub_self, List.drop_eq_getElem_cons h, List.set_cons_zero, List.range_succ, List.map_append, List.append_assoc]
  rfl
theorem markP_all {α : Type} (g : Nat → α) (l : List α) : markP g l l.length = (List.range l.length).map g := by
  unfold markP; rw [List.drop_length, List.append_nil]
theorem set_same {α : Type} [Inhabited α] {L : List α} {j : Nat} (h : j < L.length) : L.set j (L.getD j default) = L := by
  rw [List.getD_eq_getElem?_getD, List.getElem?_eq_getElem h]
  exact List.set_getElem_self h
def markI (k : Int) (i : Nat) : Int := k + i
def markF (k : Int) (i : Nat) : Fault := ⟨k + 5 * i, k + 5 * i + 1, k + 5 * i + 2, k + 5 * i + 3, decide ((k + 5 * i + 4).tmod 3 = 0)⟩

theorem c_markIntS0 (k : Int) (H : AHeap) : ACalls Tryz.prog 33 [.vsl [] true, I k] H fun r H' => r = I k ∧ H' = H := by
  refine acalls_of0 Tryz.func33 rfl (by kernel_rfl) rfl rfl (awp_sound (fz := fun _ => []) (im := fun _ => false) mixed _ _ _ _ (by kernel_rfl) ?_)
  simp +contextual -dsimp -implicitDefEqProofs (maxSteps := 5000000) only [go_sem, reduceIte, reduceCtorEq, Nat.reduceEqDiff, Nat.reduceBEq, Nat.reduceAdd, Nat.reduceLeDiff, Nat.reduceMul, Nat.reduceLT, Int.reduceEq, Int.reduceLT, Int.reduceLE]
  refine aloop mixed (fz := fun _ => []) (im := fun _ => false) (by kernel_rfl) (fun m tm H' => m = 0 ∧ H' = H ∧ tm 0 = .vsl [] true ∧ tm 1 = I k ∧ tm 5 = I 0) 0 ⟨rfl, rfl, ?_⟩ ?_
  · simp +contextual -dsimp -implicitDefEqProofs (maxSteps := 5000000) only [go_sem, reduceIte, reduceCtorEq, Nat.reduceEqDiff, Nat.reduceBEq, Nat.reduceAdd, Nat.reduceLeDiff, Nat.reduceMul, Nat.reduceLT, Int.reduceEq, Int.reduceLT, Int.reduceLE]
  · rintro m tm H ⟨rfl, rfl, t0, t1, t5⟩
    simp +contextual -dsimp -implicitDefEqProofs (maxSteps := 5000000) only [go_sem, reduceIte, reduceCtorEq, Nat.reduceEqDiff, Nat.reduceBEq, Nat.reduceAdd, Nat.reduceLeDiff, Nat.reduceMul, Nat.reduceLT, Int.reduceEq, Int.reduceLT, Int.reduceLE, t0, t1, t5]
theorem c_markFaultS0 (k : Int) (H : AHeap) : ACalls Tryz.prog 129 [.vsl [] true, I k] H fun r H' => r = I k ∧ H' = H := by
  refine acalls_of0 Tryz.func129 rfl (by kernel_rfl) rfl rfl (awp_sound (fz := fun _ => []) (im := fun _ => false) mixed _ _ _ _ (by kernel_rfl) ?_)
  simp +contextual -dsimp -implicitDefEqProofs (maxSteps := 5000000) only [go_sem, reduceIte, reduceCtorEq, Nat.reduceEqDiff, Nat.reduceBEq, Nat.reduceAdd, Nat.reduceLeDiff, Nat.reduceMul, Nat.reduceLT, Int.reduceEq, Int.reduceLT, Int.reduceLE]
  refine aloop mixed (fz := fun _ => []) (im := fun _ => false) (by kernel_rfl) (fun m tm H' => m = 0 ∧ H' = H ∧ tm 0 = .vsl [] true ∧ tm 1 = I k ∧ tm 5 = I 0) 0 ⟨rfl, rfl, ?_⟩ ?_
  · simp +contextual -dsimp -implicitDefEqProofs (maxSteps := 5000000) only [go_sem, reduceIte, reduceCtorEq, Nat.reduceEqDiff, Nat.reduceBEq, Nat.reduceAdd, Nat.reduceLeDiff, Nat.reduceMul, Nat.reduceLT, Int.reduceEq, Int.reduceLT, Int.reduceLE]
  · rintro m tm H ⟨rfl, rfl, t0, t1, t5⟩
    simp +contextual -dsimp -implicitDefEqProofs (maxSteps := 5000000) only [go_sem, reduceIte, reduceCtorEq, Nat.reduceEqDiff, Nat.reduceBEq, Nat.reduceAdd, Nat.reduceLeDiff, Nat.reduceMul, Nat.reduceLT, Int.reduceEq, Int.reduceLT, Int.reduceLE, t0, t1, t5]
theorem c_markClassS0 (k : Int) (H : AHeap) : ACalls Tryz.prog 81 [.vsl [] true, I k] H fun r H' => r = I k ∧ H' = H := by
  refine acalls_of0 Tryz.func81 rfl (by kernel_rfl) rfl rfl (awp_sound (fz := fun _ => []) (im := fun _ => false) mixed _ _ _ _ (by kernel_rfl) ?_)
  simp +contextual -dsimp -implicitDefEqProofs (maxSteps := 5000000) only [go_sem, reduceIte, reduceCtorEq, Nat.reduceEqDiff, Nat.reduceBEq, Nat.reduceAdd, Nat.reduceLeDiff, Nat.reduceMul, Nat.reduceLT, Int.reduceEq, Int.reduceLT, Int.reduceLE]
  refine aloop mixed (fz := fun _ => []) (im := fun _ => false) (by kernel_rfl) (fun m tm H' => m = 0 ∧ H' = H ∧ tm 0 = .vsl [] true ∧ tm 1 = I k ∧ tm 5 = I 0) 0 ⟨rfl, rfl, ?_⟩ ?_
  · simp +contextual -dsimp -implicitDefEqProofs (maxSteps := 5000000) only [go_sem, reduceIte, reduceCtorEq, Nat.reduceEqDiff, Nat.reduceBEq, Nat.reduceAdd, Nat.reduceLeDiff, Nat.reduceMul, Nat.reduceLT, Int.reduceEq, Int.reduceLT, Int.reduceLE]
  · rintro m tm H ⟨rfl, rfl, t0, t1, t5⟩
    simp +contextual -dsimp -implicitDefEqProofs (maxSteps := 5000000) only [go_sem, reduceIte, reduceCtorEq, Nat.reduceEqDiff, Nat.reduceBEq, Nat.reduceAdd, Nat.reduceLeDiff, Nat.reduceMul, Nat.reduceLT, Int.reduceEq, Int.reduceLT, Int.reduceLE, t0, t1, t5]
theorem c_markExitS0 (k : Int) (H : AHeap) : ACalls Tryz.prog 44 [.vsl [] true, I k] H fun r H' => r = I k ∧ H' = H := by
  refine acalls_of0 Tryz.func44 rfl (by kernel_rfl) rfl rfl (awp_sound (fz := fun _ => []) (im := fun _ => false) mixed _ _ _ _ (by kernel_rfl) ?_)
  simp +contextual -dsimp -implicitDefEqProofs (maxSteps := 5000000) only [go_sem, reduceIte, reduceCtorEq, Nat.reduceEqDiff, Nat.reduceBEq, Nat.reduceAdd, Nat.reduceLeDiff, Nat.reduceMul, Nat.reduceLT, Int.reduceEq, Int.reduceLT, Int.reduceLE]
  refine aloop mixed (fz := fun _ => []) (im := fun _ => false) (by kernel_rfl) (fun m tm H' => m = 0 ∧ H' = H ∧ tm 0 = .vsl [] true ∧ tm 1 = I k ∧ tm 5 = I 0) 0 ⟨rfl, rfl, ?_⟩ ?_
  · simp +contextual -dsimp -implicitDefEqProofs (maxSteps := 5000000) only [go_sem, reduceIte, reduceCtorEq, Nat.reduceEqDiff, Nat.reduceBEq, Nat.reduceAdd, Nat.reduceLeDiff, Nat.reduceMul, Nat.reduceLT, Int.reduceEq, Int.reduceLT, Int.reduceLE]
  · rintro m tm H ⟨rfl, rfl, t0, t1, t5⟩
    simp +contextual -dsimp -implicitDefEqProofs (maxSteps := 5000000) only [go_sem, reduceIte, reduceCtorEq, Nat.reduceEqDiff, Nat.reduceBEq, Nat.reduceAdd, Nat.reduceLeDiff, Nat.reduceMul, Nat.reduceLT, Int.reduceEq, Int.reduceLT, Int.reduceLE, t0, t1, t5]
theorem c_markIntS (F H : AHeap) (x : AV) (l : List Int) (k : Int) (hg : Grow rI 1 3 F H x l) (hl : l.length ≤ 1000000000) (h0 : 0 ≤ k) (hk : k ≤ 100000000000) : ACalls Tryz.prog 33 [x, I k] H fun r H' => r = I (k + (l.length : Nat)) ∧ Grow rI 1 3 F H' x ((List.range l.length).map (markI k)) := by
  rcases hg with ⟨rfl, rfl, rfl⟩ | ⟨b, cl, hb, rfl, rfl⟩
  · refine (c_markIntS0 k H).mono ?_
    rintro _ _ ⟨rfl, rfl⟩
    exact ⟨by simp, .inl ⟨rfl, rfl, rfl⟩⟩
  · refine acalls_of0 Tryz.func33 rfl (by kernel_rfl) rfl rfl (awp_sound (fz := fun _ => []) (im := fun _ => false) mixed _ _ _ _ (by kernel_rfl) ?_)
    simp +contextual -dsimp -implicitDefEqProofs (maxSteps := 5000000) only [go_sem, reduceIte, reduceCtorEq, Nat.reduceEqDiff, Nat.reduceBEq, Nat.reduceAdd, Nat.reduceLeDiff, Nat.reduceMul, Nat.reduceLT, Int.reduceEq, Int.reduceLT, Int.reduceLE]
    refine aloop mixed (fz := fun _ => []) (im := fun _ => false) (by kernel_rfl) (fun m tm H' => ∃ j : Nat, m = l.length - j ∧ j ≤ l.length ∧ H' = F.set b ⟨1, 3, (markP (markI k) l j).map rI⟩ ∧ tm 0 = .sl b 1 0 l.length cl ∧ tm 1 = I (k + (j : Nat)) ∧ tm 5 = I j) l.length ⟨0, by omega, by omega, rfl, ?_⟩ ?_
    · simp +contextual -dsimp -implicitDefEqProofs (maxSteps := 5000000) only [go_sem, reduceIte, reduceCtorEq, Nat.reduceEqDiff, Nat.reduceBEq, Nat.reduceAdd, Nat.reduceLeDiff, Nat.reduceMul, Nat.reduceLT, Int.reduceEq, Int.reduceLT, Int.reduceLE]
      simp
    · rintro m tm _ ⟨j, rfl, hj, rfl, t0, t1, t5⟩
      by_cases hlt : j < l.length
      · have hln := markP_len (markI k) l hj
        have hw : wrA (F.set b ⟨1, 3, (markP (markI k) l j).map rI⟩) (.ptr b 1 j 0) [I (k + (j : Nat))] = some (F.set b ⟨1, 3, (markP (markI k) l (j + 1)).map rI⟩) := by
          rw [wrP (AHeap.set_self ..) (y := k + (j : Nat)) (by omega) rfl, set_set]
          show some (F.set b ⟨1, _, ((markP (markI k) l j).set j (markI k j)).map rI⟩) = _
          rw [markP_set _ _ hlt]
        rw [wr_o, AHeap.set_self] at hw
        simp +contextual -dsimp -implicitDefEqProofs (maxSteps := 5000000) only [go_sem, reduceIte, reduceCtorEq, Nat.reduceEqDiff, Nat.reduceBEq, Nat.reduceAdd, Nat.reduceLeDiff, Nat.reduceMul, Nat.reduceLT, Int.reduceEq, Int.reduceLT, Int.reduceLE, t0, t1, t5, hlt, hw]
        exact ⟨_, by omega, j + 1, rfl, hlt, rfl, I_wrap (by omega) (by omega) (by omega), I_wrap (by omega) (by omega) (by omega)⟩
      · have hje : j = l.length := by omega
        subst hje
        rw [markP_all]
        simp +contextual -dsimp -implicitDefEqProofs (maxSteps := 5000000) only [go_sem, reduceIte, reduceCtorEq, Nat.reduceEqDiff, Nat.reduceBEq, Nat.reduceAdd, Nat.reduceLeDiff, Nat.reduceMul, Nat.reduceLT, Int.reduceEq, Int.reduceLT, Int.reduceLE, t0, t1, t5, hlt]
        exact .inr ⟨b, cl, hb, by simp, rfl⟩
theorem c_heldIntS (n : Nat) (cl : Bool) (k : Int) (H : AHeap) (hn : n ≤ 1000000000) (h0 : 0 ≤ k) (hk : k ≤ 100000000000) : ACalls Tryz.prog 34 [.vsl (((List.range n).map (markI k)).map rI) cl, I k] H fun r H' => r = I (k + (n : Nat)) ∧ H' = H := by
  obtain ⟨l, hl⟩ : ∃ l, (List.range n).map (markI k) = l := ⟨_, rfl⟩
  have hln : l.length = n := by rw [← hl]; simp
  have hat : ∀ j, j < n → l.getD j default = k + (j : Nat) := fun j hj => by rw [← hl]; simp [List.getD_eq_getElem?_getD, hj, markI]
  rw [hl]
  refine acalls_of0 Tryz.func34 rfl (by kernel_rfl) rfl rfl (awp_sound (fz := fun _ => []) (im := fun _ => false) mixed _ _ _ _ (by kernel_rfl) ?_)
  simp +contextual -dsimp -implicitDefEqProofs (maxSteps := 5000000) only [go_sem, reduceIte, reduceCtorEq, Nat.reduceEqDiff, Nat.reduceBEq, Nat.reduceAdd, Nat.reduceLeDiff, Nat.reduceMul, Nat.reduceLT, Int.reduceEq, Int.reduceLT, Int.reduceLE]
  refine aloop mixed (fz := fun _ => []) (im := fun _ => false) (by kernel_rfl) (fun m tm H' => ∃ j : Nat, m = n - j ∧ j ≤ n ∧ H' = H ∧ tm 0 = .vsl (l.map rI) cl ∧ tm 1 = I (k + (j : Nat)) ∧ tm 5 = I j) n ⟨0, by omega, by omega, rfl, ?_⟩ ?_
  · simp +contextual -dsimp -implicitDefEqProofs (maxSteps := 5000000) only [go_sem, reduceIte, reduceCtorEq, Nat.reduceEqDiff, Nat.reduceBEq, Nat.reduceAdd, Nat.reduceLeDiff, Nat.reduceMul, Nat.reduceLT, Int.reduceEq, Int.reduceLT, Int.reduceLE]
    simp
  · rintro m tm H ⟨j, rfl, hj, rfl, t0, t1, t5⟩
    by_cases hlt : j < n
    · have hat' := hat j hlt
      simp +contextual -dsimp -implicitDefEqProofs (maxSteps := 5000000) only [go_sem, reduceIte, reduceCtorEq, Nat.reduceEqDiff, Nat.reduceBEq, Nat.reduceAdd, Nat.reduceLeDiff, Nat.reduceMul, Nat.reduceLT, Int.reduceEq, Int.reduceLT, Int.reduceLE, t0, t1, t5, hln, hlt, hat']
      exact ⟨_, by omega, j + 1, rfl, hlt, I_wrap (by omega) (by omega) (by omega), I_wrap (by omega) (by omega) (by omega)⟩
    · have hje : j = n := by omega
      subst hje
      simp +contextual -dsimp -implicitDefEqProofs (maxSteps := 5000000) only [go_sem, reduceIte, reduceCtorEq, Nat.reduceEqDiff, Nat.reduceBEq, Nat.reduceAdd, Nat.reduceLeDiff, Nat.reduceMul, Nat.reduceLT, Int.reduceEq, Int.reduceLT, Int.reduceLE, t0, t1, t5, hln, hlt]
theorem cv_u8 (cl : Bool) (n : Int) : convA Tryz.prog 22 9 (.vsl [[.lit (.int .u8 (IntKind.u8.wrap n))]] cl) = some (S [UInt8.ofNat (IntKind.u8.wrap n).toNat]) := by
  have h : 0 ≤ IntKind.u8.wrap n ∧ IntKind.u8.wrap n < 256 := by
    simp only [IntKind.wrap, IntKind.signed, IntKind.bits]
    simp
    omega
  have e1 : telem Tryz.prog 22 = some 5 := te22
  have e2 : tint Tryz.prog 5 = some .u8 := by kernel_rfl
  have e3 : tstr Tryz.prog 9 = true := by kernel_rfl
  simp only [convA, e1, e2, e3, and_self, if_true, bytesRows, byteRow, if_pos h, Option.map_some]
theorem c_markText (k : Int) (H : AHeap) (h0 : 0 ≤ k) (hk : k ≤ 1000000000000) : ACalls Tryz.prog 127 [I k] H fun r H' => (∃ s, r = S s) ∧ H' = H := by
  refine acalls_of0 Tryz.func127 rfl (by kernel_rfl) rfl rfl (awp_sound (fz := fun _ => []) (im := fun s => s == 12) mixed _ _ _ _ (by kernel_rfl) ?_)
  by_cases hz : k ≤ 0
  · simp +contextual -dsimp -implicitDefEqProofs (maxSteps := 5000000) only [go_sem, reduceIte, reduceCtorEq, Nat.reduceEqDiff, Nat.reduceBEq, Nat.reduceAdd, Nat.reduceLeDiff, Nat.reduceMul, Nat.reduceLT, Int.reduceEq, Int.reduceLT, Int.reduceLE, hz]
    exact ⟨_, rfl⟩
  · simp +contextual -dsimp -implicitDefEqProofs (maxSteps := 5000000) only [go_sem, reduceIte, reduceCtorEq, Nat.reduceEqDiff, Nat.reduceBEq, Nat.reduceAdd, Nat.reduceLeDiff, Nat.reduceMul, Nat.reduceLT, Int.reduceEq, Int.reduceLT, Int.reduceLE, hz]
    refine aloop mixed (fz := fun _ => []) (im := fun s => s == 12) (by kernel_rfl) (fun m tm H' => ∃ (q : Int) (s : Str), m = q.toNat ∧ 0 ≤ q ∧ q ≤ k ∧ s.length + q ≤ k ∧ H' = H ∧ tm 0 = I q ∧ tm 3 = S s) k.toNat ⟨k, [], rfl, by omega, by omega, by simp, rfl, ?_⟩ ?_
    · simp +contextual -dsimp -implicitDefEqProofs (maxSteps := 5000000) only [go_sem, reduceIte, reduceCtorEq, Nat.reduceEqDiff, Nat.reduceBEq, Nat.reduceAdd, Nat.reduceLeDiff, Nat.reduceMul, Nat.reduceLT, Int.reduceEq, Int.reduceLT, Int.reduceLE]
    · rintro m tm H ⟨q, s, rfl, hq0, hqk, hs, rfl, t0, t3⟩
      by_cases hlt : 0 < q
      · have e : q.tdiv 10 = q / 10 := Int.tdiv_eq_ediv_of_nonneg hq0
        have w : IntKind.i64.wrap (q.tdiv 10) = q / 10 := by rw [e, w64 (by omega) (by omega)]
        simp +contextual -dsimp -implicitDefEqProofs (maxSteps := 5000000) only [go_sem, reduceIte, reduceCtorEq, Nat.reduceEqDiff, Nat.reduceBEq, Nat.reduceAdd, Nat.reduceLeDiff, Nat.reduceMul, Nat.reduceLT, Int.reduceEq, Int.reduceLT, Int.reduceLE, t0, t3, hlt, cv_u8, w]
        exact ⟨by omega, _, by omega, q / 10, _, rfl, by omega, by omega, by simp only [List.length_cons]; omega, rfl, rfl⟩
      · simp +contextual -dsimp -implicitDefEqProofs (maxSteps := 5000000) only [go_sem, reduceIte, reduceCtorEq, Nat.reduceEqDiff, Nat.reduceBEq, Nat.reduceAdd, Nat.reduceLeDiff, Nat.reduceMul, Nat.reduceLT, Int.reduceEq, Int.reduceLT, Int.reduceLE, t0, t3, hlt]
        exact ⟨by omega, _, rfl⟩
theorem c_markExitS (F H : AHeap) (x : AV) (l : List Exi) (k : Int) (hg : Grow rExit 3 44 F H x l) (hl : l.length ≤ 1000000000) (h0 : 0 ≤ k) (hk : k ≤ 100000000000) : ACalls Tryz.prog 44 [x, I k] H fun r H' => r = I (k + 3 * (l.length : Nat)) ∧ ∃ l' : List Exi, Grow rExit 3 44 F H' x l' := by
  rcases hg with ⟨rfl, rfl, rfl⟩ | ⟨b, cl, hb, rfl, rfl⟩
  · refine (c_markExitS0 k H).mono ?_
    rintro _ _ ⟨rfl, rfl⟩
    exact ⟨by simp, [], .inl ⟨rfl, rfl, rfl⟩⟩
  · refine acalls_of0 Tryz.func44 rfl (by kernel_rfl) rfl rfl (awp_sound (fz := fun _ => []) (im := fun _ => false) mixed _ _ _ _ (by kernel_rfl) ?_)
    simp +contextual -dsimp -implicitDefEqProofs (maxSteps := 5000000) only [go_sem, reduceIte, reduceCtorEq, Nat.reduceEqDiff, Nat.reduceBEq, Nat.reduceAdd, Nat.reduceLeDiff, Nat.reduceMul, Nat.reduceLT, Int.reduceEq, Int.reduceLT, Int.reduceLE]
    refine aloop mixed (fz := fun _ => []) (im := fun _ => false) (by kernel_rfl) (fun m tm H' => ∃ (j : Nat) (L : List Exi), m = l.length - j ∧ j ≤ l.length ∧ L.length = l.length ∧ H' = F.set b ⟨3, 44, L.map rExit⟩ ∧ tm 0 = .sl b 3 0 l.length cl ∧ tm 1 = I (k + 3 * (j : Nat)) ∧ tm 5 = I j) l.length ⟨0, l, by omega, by omega, rfl, rfl, ?_⟩ ?_
    · simp +contextual -dsimp -implicitDefEqProofs (maxSteps := 5000000) only [go_sem, reduceIte, reduceCtorEq, Nat.reduceEqDiff, Nat.reduceBEq, Nat.reduceAdd, Nat.reduceLeDiff, Nat.reduceMul, Nat.reduceLT, Int.reduceEq, Int.reduceLT, Int.reduceLE]
      simp
    · rintro m tm _ ⟨j, L, rfl, hj, hL, rfl, t0, t1, t5⟩
      by_cases hlt : j < l.length
      · have hjL : j < L.length := by omega
        obtain ⟨⟨c, d, e⟩, hy⟩ : ∃ y : Exi, L.map rExit = (L.set j y).map rExit := ⟨L.getD j default, by rw [set_same hjL]⟩
        rw [hy]
        have w0 := fun c d e v => wr_set (F := F) (b := b) (g := rExit) (sz := 3) (ty := 44) (L := L) (j := j) (q := 0) (v := I v) (y := ⟨c, d, e⟩) (y' := ⟨v, d, e⟩) hjL rfl
        have w1 := fun c d e v => wr_set (F := F) (b := b) (g := rExit) (sz := 3) (ty := 44) (L := L) (j := j) (q := 1) (v := I v) (y := ⟨c, d, e⟩) (y' := ⟨c, v, e⟩) hjL rfl
        have w2 := fun c d e v => wr_set (F := F) (b := b) (g := rExit) (sz := 3) (ty := 44) (L := L) (j := j) (q := 2) (v := I v) (y := ⟨c, d, e⟩) (y' := ⟨c, d, v⟩) hjL rfl
        simp only [wr_o, AHeap.set_self] at w0 w1 w2
        obtain ⟨K0, hK0⟩ : ∃ K0, K0 = k + 3 * ((j : Nat) : Int) := ⟨_, rfl⟩
        obtain ⟨K1, hK1⟩ : ∃ K, K = K0 + 1 := ⟨_, rfl⟩
        have e1 : IntKind.i64.wrap (K0 + 1) = K1 := by rw [w64 (by omega) (by omega)]; omega
        obtain ⟨K2, hK2⟩ : ∃ K, K = K1 + 1 := ⟨_, rfl⟩
        have e2 : IntKind.i64.wrap (K1 + 1) = K2 := by rw [w64 (by omega) (by omega)]; omega
        obtain ⟨K3, hK3⟩ : ∃ K, K = K2 + 1 := ⟨_, rfl⟩
        have e3 : IntKind.i64.wrap (K2 + 1) = K3 := by rw [w64 (by omega) (by omega)]; omega
        rw [← hK0] at t1
        simp +contextual -dsimp -implicitDefEqProofs (maxSteps := 5000000) only [go_sem, reduceIte, reduceCtorEq, Nat.reduceEqDiff, Nat.reduceBEq, Nat.reduceAdd, Nat.reduceLeDiff, Nat.reduceMul, Nat.reduceLT, Int.reduceEq, Int.reduceLT, Int.reduceLE, t0, t1, t5, hlt, w0, w1, w2, e1, e2, e3]
        exact ⟨_, by omega, j + 1, _, rfl, hlt, by rw [List.length_set]; exact hL, rfl, by rw [show K3 = k + 3 * ((j + 1 : Nat) : Int) by omega], I_wrap (by omega) (by omega) (by omega)⟩
      · have hje : j = l.length := by omega
        subst hje
        simp +contextual -dsimp -implicitDefEqProofs (maxSteps := 5000000) only [go_sem, reduceIte, reduceCtorEq, Nat.reduceEqDiff, Nat.reduceBEq, Nat.reduceAdd, Nat.reduceLeDiff, Nat.reduceMul, Nat.reduceLT, Int.reduceEq, Int.reduceLT, Int.reduceLE, t0, t1, t5, hlt]
        exact ⟨L, .inr ⟨b, cl, hb, by rw [hL], rfl⟩⟩
theorem c_markClassS (F H : AHeap) (x : AV) (l : List Class) (k : Int) (hg : Grow rClass 2 144 F H x l) (hl : l.length ≤ 1000000000) (h0 : 0 ≤ k) (hk : k ≤ 100000000000) : ACalls Tryz.prog 81 [x, I k] H fun r H' => r = I (k + 2 * (l.length : Nat)) ∧ ∃ l' : List Class, Grow rClass 2 144 F H' x l' := by
  rcases hg with ⟨rfl, rfl, rfl⟩ | ⟨b, cl, hb, rfl, rfl⟩
  · refine (c_markClassS0 k H).mono ?_
    rintro _ _ ⟨rfl, rfl⟩
    exact ⟨by simp, [], .inl ⟨rfl, rfl, rfl⟩⟩
  · refine acalls_of0 Tryz.func81 rfl (by kernel_rfl) rfl rfl (awp_sound (fz := fun _ => []) (im := fun _ => false) mixed _ _ _ _ (by kernel_rfl) ?_)
    simp +contextual -dsimp -implicitDefEqProofs (maxSteps := 5000000) only [go_sem, reduceIte, reduceCtorEq, Nat.reduceEqDiff, Nat.reduceBEq, Nat.reduceAdd, Nat.reduceLeDiff, Nat.reduceMul, Nat.reduceLT, Int.reduceEq, Int.reduceLT, Int.reduceLE]
    refine aloop mixed (fz := fun _ => []) (im := fun _ => false) (by kernel_rfl) (fun m tm H' => ∃ (j : Nat) (L : List Class), m = l.length - j ∧ j ≤ l.length ∧ L.length = l.length ∧ H' = F.set b ⟨2, 144, L.map rClass⟩ ∧ tm 0 = .sl b 2 0 l.length cl ∧ tm 1 = I (k + 2 * (j : Nat)) ∧ tm 5 = I j) l.length ⟨0, l, by omega, by omega, rfl, rfl, ?_⟩ ?_
    · simp +contextual -dsimp -implicitDefEqProofs (maxSteps := 5000000) only [go_sem, reduceIte, reduceCtorEq, Nat.reduceEqDiff, Nat.reduceBEq, Nat.reduceAdd, Nat.reduceLeDiff, Nat.reduceMul, Nat.reduceLT, Int.reduceEq, Int.reduceLT, Int.reduceLE]
      simp
    · rintro m tm _ ⟨j, L, rfl, hj, hL, rfl, t0, t1, t5⟩
      by_cases hlt : j < l.length
      · have hjL : j < L.length := by omega
        obtain ⟨⟨c, d⟩, hy⟩ : ∃ y : Class, L.map rClass = (L.set j y).map rClass := ⟨L.getD j default, by rw [set_same hjL]⟩
        rw [hy]
        have w0 := fun c d v => wr_set (F := F) (b := b) (g := rClass) (sz := 2) (ty := 144) (L := L) (j := j) (q := 0) (v := S v) (y := ⟨c, d⟩) (y' := ⟨v, d⟩) hjL rfl
        have w1 := fun c d v => wr_set (F := F) (b := b) (g := rClass) (sz := 2) (ty := 144) (L := L) (j := j) (q := 1) (v := I v) (y := ⟨c, d⟩) (y' := ⟨c, v⟩) hjL rfl
        simp only [wr_o, AHeap.set_self] at w0 w1
        obtain ⟨K0, hK0⟩ : ∃ K0, K0 = k + 2 * ((j : Nat) : Int) := ⟨_, rfl⟩
        obtain ⟨K1, hK1⟩ : ∃ K, K = K0 + 1 := ⟨_, rfl⟩
        have e1 : IntKind.i64.wrap (K0 + 1) = K1 := by rw [w64 (by omega) (by omega)]; omega
        obtain ⟨K2, hK2⟩ : ∃ K, K = K1 + 1 := ⟨_, rfl⟩
        have e2 : IntKind.i64.wrap (K1 + 1) = K2 := by rw [w64 (by omega) (by omega)]; omega
        rw [← hK0] at t1
        simp +contextual -dsimp -implicitDefEqProofs (maxSteps := 5000000) only [go_sem, reduceIte, reduceCtorEq, Nat.reduceEqDiff, Nat.reduceBEq, Nat.reduceAdd, Nat.reduceLeDiff, Nat.reduceMul, Nat.reduceLT, Int.reduceEq, Int.reduceLT, Int.reduceLE, t0, t1, t5, hlt, w0, w1, e1, e2]
        refine (c_markText K0 _ (by omega) (by omega)).mono ?_
        rintro _ _ ⟨⟨s, rfl⟩, rfl⟩
        simp +contextual -dsimp -implicitDefEqProofs (maxSteps := 5000000) only [go_sem, reduceIte, reduceCtorEq, Nat.reduceEqDiff, Nat.reduceBEq, Nat.reduceAdd, Nat.reduceLeDiff, Nat.reduceMul, Nat.reduceLT, Int.reduceEq, Int.reduceLT, Int.reduceLE, t0, t1, t5, hlt, w0, w1, e1, e2]
        exact ⟨_, by omega, j + 1, _, rfl, hlt, by rw [List.length_set]; exact hL, rfl, by rw [show K2 = k + 2 * ((j + 1 : Nat) : Int) by omega], I_wrap (by omega) (by omega) (by omega)⟩
      · have hje : j = l.length := by omega
        subst hje
        simp +contextual -dsimp -implicitDefEqProofs (maxSteps := 5000000) only [go_sem, reduceIte, reduceCtorEq, Nat.reduceEqDiff, Nat.reduceBEq, Nat.reduceAdd, Nat.reduceLeDiff, Nat.reduceMul, Nat.reduceLT, Int.reduceEq, Int.reduceLT, Int.reduceLE, t0, t1, t5, hlt]
        exact ⟨L, .inr ⟨b, cl, hb, by rw [hL], rfl⟩⟩
end
section
open Go Go.Sim
set_option maxRecDepth 100000
set_option maxHeartbeats 4000000

theorem c_markFaultS (F H : AHeap) (x : AV) (l : List Fault) (k : Int) (hg : Grow rFault 5 103 F H x l) (hl : l.length ≤ 1000000000) (h0 : 0 ≤ k) (hk : k ≤ 100000000000) : ACalls Tryz.prog 129 [x, I k] H fun r H' => r = I (k + 5 * (l.length : Nat)) ∧ Grow rFault 5 103 F H' x ((List.range l.length).map (markF k)) := by
  rcases hg with ⟨rfl, rfl, rfl⟩ | ⟨b, cl, hb, rfl, rfl⟩
  · refine (c_markFaultS0 k H).mono ?_
    rintro _ _ ⟨rfl, rfl⟩
    exact ⟨by simp, .inl ⟨rfl, rfl, rfl⟩⟩
  · refine acalls_of0 Tryz.func129 rfl (by kernel_rfl) rfl rfl (awp_sound (fz := fun _ => []) (im := fun _ => false) mixed _ _ _ _ (by kernel_rfl) ?_)
    simp +contextual -dsimp -implicitDefEqProofs (maxSteps := 5000000) only [go_sem, reduceIte, reduceCtorEq, Nat.reduceEqDiff, Nat.reduceBEq, Nat.reduceAdd, Nat.reduceLeDiff, Nat.reduceMul, Nat.reduceLT, Int.reduceEq, Int.reduceLT, Int.reduceLE]
    refine aloop mixed (fz := fun _ => []) (im := fun _ => false) (by kernel_rfl) (fun m tm H' => ∃ (j : Nat) (L : List Fault), m = l.length - j ∧ j ≤ l.length ∧ L = markP (markF k) l j ∧ H' = F.set b ⟨5, 103, L.map rFault⟩ ∧ tm 0 = .sl b 5 0 l.length cl ∧ tm 1 = I (k + 5 * (j : Nat)) ∧ tm 5 = I j) l.length ⟨0, l, by omega, by omega, rfl, rfl, ?_⟩ ?_
    · simp +contextual -dsimp -implicitDefEqProofs (maxSteps := 5000000) only [go_sem, reduceIte, reduceCtorEq, Nat.reduceEqDiff, Nat.reduceBEq, Nat.reduceAdd, Nat.reduceLeDiff, Nat.reduceMul, Nat.reduceLT, Int.reduceEq, Int.reduceLT, Int.reduceLE]
      simp
    · rintro m tm _ ⟨j, L, rfl, hj, hL, rfl, t0, t1, t5⟩
      by_cases hlt : j < l.length
      · have hjL : j < L.length := by rw [hL, markP_len _ _ hj]; exact hlt
        obtain ⟨⟨c, d, e, f, g⟩, hy⟩ : ∃ y : Fault, L.map rFault = (L.set j y).map rFault := ⟨L.getD j default, by rw [set_same hjL]⟩
        rw [hy]
        have w0 := fun (c d e f : Int) (g : Bool) (v : Int) => wr_set (F := F) (b := b) (g := rFault) (sz := 5) (ty := 103) (L := L) (j := j) (q := 0) (v := I v) (y := ⟨c, d, e, f, g⟩) (y' := ⟨v, d, e, f, g⟩) hjL rfl
        have w1 := fun (c d e f : Int) (g : Bool) (v : Int) => wr_set (F := F) (b := b) (g := rFault) (sz := 5) (ty := 103) (L := L) (j := j) (q := 1) (v := I v) (y := ⟨c, d, e, f, g⟩) (y' := ⟨c, v, e, f, g⟩) hjL rfl
        have w2 := fun (c d e f : Int) (g : Bool) (v : Int) => wr_set (F := F) (b := b) (g := rFault) (sz := 5) (ty := 103) (L := L) (j := j) (q := 2) (v := I v) (y := ⟨c, d, e, f, g⟩) (y' := ⟨c, d, v, f, g⟩) hjL rfl
        have w3 := fun (c d e f : Int) (g : Bool) (v : Int) => wr_set (F := F) (b := b) (g := rFault) (sz := 5) (ty := 103) (L := L) (j := j) (q := 3) (v := I v) (y := ⟨c, d, e, f, g⟩) (y' := ⟨c, d, e, v, g⟩) hjL rfl
        have w4 := fun (c d e f : Int) (g : Bool) (v : Bool) => wr_set (F := F) (b := b) (g := rFault) (sz := 5) (ty := 103) (L := L) (j := j) (q := 4) (v := B v) (y := ⟨c, d, e, f, g⟩) (y' := ⟨c, d, e, f, v⟩) hjL rfl
        simp only [wr_o, AHeap.set_self] at w0 w1 w2 w3 w4
        obtain ⟨K0, hK0⟩ : ∃ K0, K0 = k + 5 * ((j : Nat) : Int) := ⟨_, rfl⟩
        obtain ⟨K1, hK1⟩ : ∃ K, K = K0 + 1 := ⟨_, rfl⟩
        have e1 : IntKind.i64.wrap (K0 + 1) = K1 := by rw [w64 (by omega) (by omega)]; omega
        obtain ⟨K2, hK2⟩ : ∃ K, K = K1 + 1 := ⟨_, rfl⟩
        have e2 : IntKind.i64.wrap (K1 + 1) = K2 := by rw [w64 (by omega) (by omega)]; omega
        obtain ⟨K3, hK3⟩ : ∃ K, K = K2 + 1 := ⟨_, rfl⟩
        have e3 : IntKind.i64.wrap (K2 + 1) = K3 := by rw [w64 (by omega) (by omega)]; omega
        obtain ⟨K4, hK4⟩ : ∃ K, K = K3 + 1 := ⟨_, rfl⟩
        have e4 : IntKind.i64.wrap (K3 + 1) = K4 := by rw [w64 (by omega) (by omega)]; omega
        obtain ⟨K5, hK5⟩ : ∃ K, K = K4 + 1 := ⟨_, rfl⟩
        have e5 : IntKind.i64.wrap (K4 + 1) = K5 := by rw [w64 (by omega) (by omega)]; omega
        rw [← hK0] at t1
        have hnew : L.set j ⟨K0, K1, K2, K3, decide (K4.tmod 3 = 0)⟩ = markP (markF k) l (j + 1) := by
          rw [← markP_set _ _ hlt, hL]
          unfold markF
          rw [show k + 5 * ((j : Nat) : Int) = K0 by omega, show K0 + 1 = K1 by omega, show K0 + 2 = K2 by omega, show K0 + 3 = K3 by omega, show K0 + 4 = K4 by omega]
        simp +contextual -dsimp -implicitDefEqProofs (maxSteps := 5000000) only [go_sem, reduceIte, reduceCtorEq, Nat.reduceEqDiff, Nat.reduceBEq, Nat.reduceAdd, Nat.reduceLeDiff, Nat.reduceMul, Nat.reduceLT, Int.reduceEq, Int.reduceLT, Int.reduceLE, t0, t1, t5, hlt, w0, w1, w2, w3, w4, e1, e2, e3, e4, e5]
        exact ⟨_, by omega, j + 1, _, rfl, hlt, hnew, rfl, by rw [show K5 = k + 5 * ((j + 1 : Nat) : Int) by omega], I_wrap (by omega) (by omega) (by omega)⟩
      · have hje : j = l.length := by omega
        subst hje
        rw [markP_all] at hL
        subst hL
        simp +contextual -dsimp -implicitDefEqProofs (maxSteps := 5000000) only [go_sem, reduceIte, reduceCtorEq, Nat.reduceEqDiff, Nat.reduceBEq, Nat.reduceAdd, Nat.reduceLeDiff, Nat.reduceMul, Nat.reduceLT, Int.reduceEq, Int.reduceLT, Int.reduceLE, t0, t1, t5, hlt]
        exact .inr ⟨b, cl, hb, by simp, rfl⟩
theorem c_heldFaultS (n : Nat) (cl : Bool) (k : Int) (H : AHeap) (hn : n ≤ 1000000000) (h0 : 0 ≤ k) (hk : k ≤ 100000000000) : ACalls Tryz.prog 130 [.vsl (((List.range n).map (markF k)).map rFault) cl, I k] H fun r H' => r = I (k + 5 * (n : Nat)) ∧ H' = H := by
  obtain ⟨l, hl⟩ : ∃ l, (List.range n).map (markF k) = l := ⟨_, rfl⟩
  have hln : l.length = n := by rw [← hl]; simp
  have hat : ∀ j, j < n → l.getD j default = markF k j := fun j hj => by rw [← hl]; simp [List.getD_eq_getElem?_getD, hj]
  rw [hl]
  refine acalls_of0 Tryz.func130 rfl (by kernel_rfl) rfl rfl (awp_sound (fz := fun _ => []) (im := fun _ => false) mixed _ _ _ _ (by kernel_rfl) ?_)
  simp +contextual -dsimp -implicitDefEqProofs (maxSteps := 5000000) only [go_sem, reduceIte, reduceCtorEq, Nat.reduceEqDiff, Nat.reduceBEq, Nat.reduceAdd, Nat.reduceLeDiff, Nat.reduceMul, Nat.reduceLT, Int.reduceEq, Int.reduceLT, Int.reduceLE]
  refine aloop mixed (fz := fun _ => []) (im := fun _ => false) (by kernel_rfl) (fun m tm H' => ∃ j : Nat, m = n - j ∧ j ≤ n ∧ H' = H ∧ tm 0 = .vsl (l.map rFault) cl ∧ tm 1 = I (k + 5 * (j : Nat)) ∧ tm 5 = I j) n ⟨0, by omega, by omega, rfl, ?_⟩ ?_
  · simp +contextual -dsimp -implicitDefEqProofs (maxSteps := 5000000) only [go_sem, reduceIte, reduceCtorEq, Nat.reduceEqDiff, Nat.reduceBEq, Nat.reduceAdd, Nat.reduceLeDiff, Nat.reduceMul, Nat.reduceLT, Int.reduceEq, Int.reduceLT, Int.reduceLE]
    simp
  · rintro m tm H ⟨j, rfl, hj, rfl, t0, t1, t5⟩
    by_cases hlt : j < n
    · have hat' := hat j hlt
      obtain ⟨K0, hK0⟩ : ∃ K0, K0 = k + 5 * ((j : Nat) : Int) := ⟨_, rfl⟩
      obtain ⟨K1, hK1⟩ : ∃ K, K = K0 + 1 := ⟨_, rfl⟩
      have e1 : IntKind.i64.wrap (K0 + 1) = K1 := by rw [w64 (by omega) (by omega)]; omega
      obtain ⟨K2, hK2⟩ : ∃ K, K = K1 + 1 := ⟨_, rfl⟩
      have e2 : IntKind.i64.wrap (K1 + 1) = K2 := by rw [w64 (by omega) (by omega)]; omega
      obtain ⟨K3, hK3⟩ : ∃ K, K = K2 + 1 := ⟨_, rfl⟩
      have e3 : IntKind.i64.wrap (K2 + 1) = K3 := by rw [w64 (by omega) (by omega)]; omega
      obtain ⟨K4, hK4⟩ : ∃ K, K = K3 + 1 := ⟨_, rfl⟩
      have e4 : IntKind.i64.wrap (K3 + 1) = K4 := by rw [w64 (by omega) (by omega)]; omega
      obtain ⟨K5, hK5⟩ : ∃ K, K = K4 + 1 := ⟨_, rfl⟩
      have e5 : IntKind.i64.wrap (K4 + 1) = K5 := by rw [w64 (by omega) (by omega)]; omega
      unfold markF at hat'
      rw [show k + 5 * ((j : Nat) : Int) = K0 by omega, show K0 + 1 = K1 by omega, show K0 + 2 = K2 by omega, show K0 + 3 = K3 by omega, show K0 + 4 = K4 by omega] at hat'
      rw [← hK0] at t1
      simp +contextual -dsimp -implicitDefEqProofs (maxSteps := 5000000) only [go_sem, reduceIte, reduceCtorEq, Nat.reduceEqDiff, Nat.reduceBEq, Nat.reduceAdd, Nat.reduceLeDiff, Nat.reduceMul, Nat.reduceLT, Int.reduceEq, Int.reduceLT, Int.reduceLE, t0, t1, t5, hln, hlt, hat', e1, e2, e3, e4, e5]
      exact ⟨_, by omega, j + 1, rfl, hlt, by rw [show K5 = k + 5 * ((j + 1 : Nat) : Int) by omega], I_wrap (by omega) (by omega) (by omega)⟩
    · have hje : j = n := by omega
      subst hje
      simp +contextual -dsimp -implicitDefEqProofs (maxSteps := 5000000) only [go_sem, reduceIte, reduceCtorEq, Nat.reduceEqDiff, Nat.reduceBEq, Nat.reduceAdd, Nat.reduceLeDiff, Nat.reduceMul, Nat.reduceLT, Int.reduceEq, Int.reduceLT, Int.reduceLE, t0, t1, t5, hln, hlt]
theorem c_markHeap (F H : AHeap) (x : AV) (l : List Fault) (k : Int) (hg : Grow rFault 5 103 F H x l) (hl : l.length ≤ 1000000000) (h0 : 0 ≤ k) (hk : k ≤ 100000000000) : ACalls Tryz.prog 83 [.agg [x], I k] H fun r H' => r = I (k + 5 * (l.length : Nat)) ∧ Grow rFault 5 103 F H' x ((List.range l.length).map (markF k)) := by
  obtain ⟨o1, o2⟩ := one_grow hg
  refine acalls_of0 Tryz.func83 rfl (by kernel_rfl) rfl rfl (awp_sound (fz := fun _ => []) (im := fun s => s == 2) mixed _ _ _ _ (by kernel_rfl) ?_)
  simp +contextual -dsimp -implicitDefEqProofs (maxSteps := 5000000) only [go_sem, reduceIte, reduceCtorEq, Nat.reduceEqDiff, Nat.reduceBEq, Nat.reduceAdd, Nat.reduceLeDiff, Nat.reduceMul, Nat.reduceLT, Int.reduceEq, Int.reduceLT, Int.reduceLE, o1, o2]
  refine (c_markFaultS F _ x l k hg hl h0 hk).mono ?_
  rintro _ H1 ⟨rfl, k3⟩
  simp +contextual -dsimp -implicitDefEqProofs (maxSteps := 5000000) only [go_sem, reduceIte, reduceCtorEq, Nat.reduceEqDiff, Nat.reduceBEq, Nat.reduceAdd, Nat.reduceLeDiff, Nat.reduceMul, Nat.reduceLT, Int.reduceEq, Int.reduceLT, Int.reduceLE, o1, o2]
  exact k3
theorem c_heldHeap (n : Nat) (cl : Bool) (k : Int) (H : AHeap) (hn : n ≤ 1000000000) (h0 : 0 ≤ k) (hk : k ≤ 100000000000) : ACalls Tryz.prog 84 [aHeap ((List.range n).map (markF k)) cl, I k] H fun r H' => r = I (k + 5 * (n : Nat)) ∧ H' = H := by
  have n1 : ¬ k + 5 * (n : Nat) < 0 := by omega
  refine acalls_of0 Tryz.func84 rfl (by kernel_rfl) rfl rfl (awp_sound (fz := fun _ => []) (im := fun s => s == 2) mixed _ _ _ _ (by kernel_rfl) ?_)
  simp +contextual -dsimp -implicitDefEqProofs (maxSteps := 5000000) only [go_sem, reduceIte, reduceCtorEq, Nat.reduceEqDiff, Nat.reduceBEq, Nat.reduceAdd, Nat.reduceLeDiff, Nat.reduceMul, Nat.reduceLT, Int.reduceEq, Int.reduceLT, Int.reduceLE]
  refine (c_heldFaultS n cl k _ hn h0 hk).det ?_
  simp +contextual -dsimp -implicitDefEqProofs (maxSteps := 5000000) only [go_sem, reduceIte, reduceCtorEq, Nat.reduceEqDiff, Nat.reduceBEq, Nat.reduceAdd, Nat.reduceLeDiff, Nat.reduceMul, Nat.reduceLT, Int.reduceEq, Int.reduceLT, Int.reduceLE, n1]
theorem c_markTree (F H : AHeap) (x : AV) (l : List Class) (k : Int) (hg : Grow rClass 2 144 F H x l) (hl : l.length ≤ 1000000000) (h0 : 0 ≤ k) (hk : k ≤ 100000000000) : ACalls Tryz.prog 31 [.agg [x], I k] H fun r H' => r = I (k + 2 * (l.length : Nat)) ∧ ∃ l' : List Class, Grow rClass 2 144 F H' x l' := by
  obtain ⟨o1, o2⟩ := one_grow hg
  refine acalls_of0 Tryz.func31 rfl (by kernel_rfl) rfl rfl (awp_sound (fz := fun _ => []) (im := fun s => s == 2) mixed _ _ _ _ (by kernel_rfl) ?_)
  simp +contextual -dsimp -implicitDefEqProofs (maxSteps := 5000000) only [go_sem, reduceIte, reduceCtorEq, Nat.reduceEqDiff, Nat.reduceBEq, Nat.reduceAdd, Nat.reduceLeDiff, Nat.reduceMul, Nat.reduceLT, Int.reduceEq, Int.reduceLT, Int.reduceLE, o1, o2]
  refine (c_markClassS F _ x l k hg hl h0 hk).mono ?_
  rintro _ H1 ⟨rfl, k3⟩
  simp +contextual -dsimp -implicitDefEqProofs (maxSteps := 5000000) only [go_sem, reduceIte, reduceCtorEq, Nat.reduceEqDiff, Nat.reduceBEq, Nat.reduceAdd, Nat.reduceLeDiff, Nat.reduceMul, Nat.reduceLT, Int.reduceEq, Int.reduceLT, Int.reduceLE, o1, o2]
  exact k3
/-- A result, marked. -/
def markR (R : Res) (k : Int) : Res := ⟨(List.range R.log.length).map (markI k), R.ed, R.val, (List.range R.heap.length).map (markF (k + (R.log.length : Nat)))⟩
theorem c_markResult (F H : AHeap) (r : AV) (R : Res) (k : Int) (hr : OwnRes F H r R) (hl : R.log.length ≤ 1000000000) (hh : R.heap.length ≤ 1000000000) (h0 : 0 ≤ k) (hk : k ≤ 1000000000) : ACalls Tryz.prog 36 [r, I k] H fun v H' => v = I (k + (R.log.length : Nat) + 5 * (R.heap.length : Nat)) ∧ OwnRes F H' r (markR R k) := by
  obtain ⟨xl, xh, G1, rfl, h2, h3⟩ := hr
  obtain ⟨G2, k1, k2⟩ := grow_swap h2 h3
  obtain ⟨o1, o2⟩ := one_grow h2
  obtain ⟨o3, o4⟩ := one_grow h3
  refine acalls_of0 Tryz.func36 rfl (by kernel_rfl) rfl rfl (awp_sound (fz := fun _ => []) (im := fun s => s == 2) mixed _ _ _ _ (by kernel_rfl) ?_)
  simp +contextual -dsimp -implicitDefEqProofs (maxSteps := 5000000) only [go_sem, reduceIte, reduceCtorEq, Nat.reduceEqDiff, Nat.reduceBEq, Nat.reduceAdd, Nat.reduceLeDiff, Nat.reduceMul, Nat.reduceLT, Int.reduceEq, Int.reduceLT, Int.reduceLE, o1, o2, o3, o4]
  refine (c_markIntS _ _ _ _ k k2 hl h0 (by omega)).mono ?_
  rintro _ H1 ⟨rfl, k3⟩
  obtain ⟨G3, k4, k5⟩ := grow_swap k1 k3
  simp +contextual -dsimp -implicitDefEqProofs (maxSteps := 5000000) only [go_sem, reduceIte, reduceCtorEq, Nat.reduceEqDiff, Nat.reduceBEq, Nat.reduceAdd, Nat.reduceLeDiff, Nat.reduceMul, Nat.reduceLT, Int.reduceEq, Int.reduceLT, Int.reduceLE, o1, o2, o3, o4]
  refine (ACalls.mono (c_markHeap _ _ _ _ _ k5 hh (by omega) (by omega)) ?_)
  rintro _ H2 ⟨rfl, k6⟩
  simp +contextual -dsimp -implicitDefEqProofs (maxSteps := 5000000) only [go_sem, reduceIte, reduceCtorEq, Nat.reduceEqDiff, Nat.reduceBEq, Nat.reduceAdd, Nat.reduceLeDiff, Nat.reduceMul, Nat.reduceLT, Int.reduceEq, Int.reduceLT, Int.reduceLE, o1, o2, o3, o4]
  exact ⟨xl, xh, G3, rfl, k4, k6⟩
theorem c_heldResult (R : Res) (c1 c2 : Bool) (k : Int) (H : AHeap) (hl : R.log.length ≤ 1000000000) (hh : R.heap.length ≤ 1000000000) (h0 : 0 ≤ k) (hk : k ≤ 1000000000) : ACalls Tryz.prog 37 [aRes (markR R k) c1 c2, I k] H fun v H' => v = I (k + (R.log.length : Nat) + 5 * (R.heap.length : Nat)) ∧ H' = H := by
  refine acalls_of0 Tryz.func37 rfl (by kernel_rfl) rfl rfl (awp_sound (fz := fun _ => []) (im := fun s => s == 2) mixed _ _ _ _ (by kernel_rfl) ?_)
  simp +contextual -dsimp -implicitDefEqProofs (maxSteps := 5000000) only [go_sem, reduceIte, reduceCtorEq, Nat.reduceEqDiff, Nat.reduceBEq, Nat.reduceAdd, Nat.reduceLeDiff, Nat.reduceMul, Nat.reduceLT, Int.reduceEq, Int.reduceLT, Int.reduceLE]
  refine (c_heldIntS R.log.length c1 k _ hl h0 (by omega)).det ?_
  have n1 : ¬ k + (R.log.length : Nat) < 0 := by omega
  have n2 : ¬ k + (R.log.length : Nat) + 5 * (R.heap.length : Nat) < 0 := by omega
  simp +contextual -dsimp -implicitDefEqProofs (maxSteps := 5000000) only [go_sem, reduceIte, reduceCtorEq, Nat.reduceEqDiff, Nat.reduceBEq, Nat.reduceAdd, Nat.reduceLeDiff, Nat.reduceMul, Nat.reduceLT, Int.reduceEq, Int.reduceLT, Int.reduceLE, n1]
  refine (c_heldHeap R.heap.length c2 (k + (R.log.length : Nat)) _ hh (by omega) (by omega)).det ?_
  simp +contextual -dsimp -implicitDefEqProofs (maxSteps := 5000000) only [go_sem, reduceIte, reduceCtorEq, Nat.reduceEqDiff, Nat.reduceBEq, Nat.reduceAdd, Nat.reduceLeDiff, Nat.reduceMul, Nat.reduceLT, Int.reduceEq, Int.reduceLT, Int.reduceLE, n2]
end
section
open Go Go.Sim
set_option maxRecDepth 100000
set_option maxHeartbeats 4000000

theorem c_szClass (c : Class) (left : Int) (H : AHeap) (hn : c.name.length ≤ 4700000000000000000) (h0 : 0 ≤ left) (h1 : left ≤ 1048576) : ACalls Tryz.prog 124 [.agg (rClass c), I left] H fun r H' => (∃ v : Int, r = I v ∧ v ≤ left) ∧ H' = H := by
  refine acalls_of0 Tryz.func124 rfl (by kernel_rfl) rfl rfl (awp_sound (fz := fun _ => []) (im := fun s => s == 2) mixed _ _ _ _ (by kernel_rfl) ?_)
  have hw : IntKind.i64.wrap (left - (c.name.length : Nat)) = left - (c.name.length : Nat) := w64 (by omega) (by omega)
  by_cases h : left - (c.name.length : Nat) < 0
  · simp +contextual -dsimp -implicitDefEqProofs (maxSteps := 5000000) only [go_sem, reduceIte, reduceCtorEq, Nat.reduceEqDiff, Nat.reduceBEq, Nat.reduceAdd, Nat.reduceLeDiff, Nat.reduceMul, Nat.reduceLT, Int.reduceEq, Int.reduceLT, Int.reduceLE, hw, h]
    exact ⟨_, rfl, by omega⟩
  · simp +contextual -dsimp -implicitDefEqProofs (maxSteps := 5000000) only [go_sem, reduceIte, reduceCtorEq, Nat.reduceEqDiff, Nat.reduceBEq, Nat.reduceAdd, Nat.reduceLeDiff, Nat.reduceMul, Nat.reduceLT, Int.reduceEq, Int.reduceLT, Int.reduceLE, hw, h]
    exact ⟨_, rfl, by omega⟩
theorem c_szClassS (t : List Class) (cl : Bool) (left : Int) (H : AHeap) (hn : ∀ c ∈ t, c.name.length ≤ 4700000000000000000) (h0 : 0 ≤ left) (h1 : left ≤ 1048576) : ACalls Tryz.prog 76 [.vsl (t.map rClass) cl, I left] H fun r H' => (∃ v : Int, r = I v ∧ v ≤ left ∧ (0 ≤ v → t.length ≤ 1048576)) ∧ H' = H := by
  refine acalls_len (by kernel_rfl) (List.mem_cons_self ..) fun hl => ?_
  rw [List.length_map] at hl
  have hw : IntKind.i64.wrap (left - (t.length : Nat)) = left - (t.length : Nat) := w64 (by omega) (by omega)
  refine acalls_of0 Tryz.func76 rfl (by kernel_rfl) rfl rfl (awp_sound (fz := fun _ => []) (im := fun _ => false) mixed _ _ _ _ (by kernel_rfl) ?_)
  by_cases h : left - (t.length : Nat) < 0
  · simp +contextual -dsimp -implicitDefEqProofs (maxSteps := 5000000) only [go_sem, reduceIte, reduceCtorEq, Nat.reduceEqDiff, Nat.reduceBEq, Nat.reduceAdd, Nat.reduceLeDiff, Nat.reduceMul, Nat.reduceLT, Int.reduceEq, Int.reduceLT, Int.reduceLE, hw, h]
    exact ⟨_, rfl, by omega, by omega⟩
  · simp +contextual -dsimp -implicitDefEqProofs (maxSteps := 5000000) only [go_sem, reduceIte, reduceCtorEq, Nat.reduceEqDiff, Nat.reduceBEq, Nat.reduceAdd, Nat.reduceLeDiff, Nat.reduceMul, Nat.reduceLT, Int.reduceEq, Int.reduceLT, Int.reduceLE, hw, h]
    refine aloop mixed (fz := fun _ => []) (im := fun _ => false) (by kernel_rfl) (fun m tm H' => ∃ (k : Nat) (v : Int), m = t.length - k ∧ k ≤ t.length ∧ H' = H ∧ 0 ≤ v ∧ v ≤ left ∧ tm 0 = .vsl (t.map rClass) cl ∧ tm 1 = I v ∧ tm 5 = I k) t.length ⟨0, left - (t.length : Nat), by omega, by omega, rfl, by omega, by omega, ?_⟩ ?_
    · simp +contextual -dsimp -implicitDefEqProofs (maxSteps := 5000000) only [go_sem, reduceIte, reduceCtorEq, Nat.reduceEqDiff, Nat.reduceBEq, Nat.reduceAdd, Nat.reduceLeDiff, Nat.reduceMul, Nat.reduceLT, Int.reduceEq, Int.reduceLT, Int.reduceLE]
    · rintro m tm H ⟨k, v, rfl, hk, rfl, hv0, hv1, t0, t1, t5⟩
      by_cases hlt : k < t.length
      · have hm : t.getD k default ∈ t := by rw [List.getD_eq_getElem?_getD, List.getElem?_eq_getElem hlt]; exact List.getElem_mem hlt
        simp +contextual -dsimp -implicitDefEqProofs (maxSteps := 5000000) only [go_sem, reduceIte, reduceCtorEq, Nat.reduceEqDiff, Nat.reduceBEq, Nat.reduceAdd, Nat.reduceLeDiff, Nat.reduceMul, Nat.reduceLT, Int.reduceEq, Int.reduceLT, Int.reduceLE, ixv te56 ti169 rClass_len (show 0 < 2 by decide), t0, t1, t5, hlt]
        refine (c_szClass (t.getD k default) v _ (hn _ hm) hv0 (by omega)).mono ?_
        rintro _ _ ⟨⟨u, rfl, hu⟩, rfl⟩
        by_cases hu0 : u < 0
        · simp +contextual -dsimp -implicitDefEqProofs (maxSteps := 5000000) only [go_sem, reduceIte, reduceCtorEq, Nat.reduceEqDiff, Nat.reduceBEq, Nat.reduceAdd, Nat.reduceLeDiff, Nat.reduceMul, Nat.reduceLT, Int.reduceEq, Int.reduceLT, Int.reduceLE, t0, t1, t5, hlt, hu0]
          exact ⟨_, rfl, by omega, by omega⟩
        · simp +contextual -dsimp -implicitDefEqProofs (maxSteps := 5000000) only [go_sem, reduceIte, reduceCtorEq, Nat.reduceEqDiff, Nat.reduceBEq, Nat.reduceAdd, Nat.reduceLeDiff, Nat.reduceMul, Nat.reduceLT, Int.reduceEq, Int.reduceLT, Int.reduceLE, t0, t1, t5, hlt, hu0]
          exact ⟨_, by omega, k + 1, u, rfl, hlt, by omega, by omega, rfl, I_wrap (by omega) (by omega) (by omega)⟩
      · simp +contextual -dsimp -implicitDefEqProofs (maxSteps := 5000000) only [go_sem, reduceIte, reduceCtorEq, Nat.reduceEqDiff, Nat.reduceBEq, Nat.reduceAdd, Nat.reduceLeDiff, Nat.reduceMul, Nat.reduceLT, Int.reduceEq, Int.reduceLT, Int.reduceLE, t0, t1, t5, hlt]
        exact ⟨_, rfl, by omega, by omega⟩
theorem c_szTree (t : List Class) (cl : Bool) (left : Int) (H : AHeap) (hn : namesOk t) (h0 : 0 ≤ left) (h1 : left ≤ 1048576) : ACalls Tryz.prog 23 [aTree t cl, I left] H fun r H' => (∃ v : Int, r = I v ∧ v ≤ left ∧ (0 ≤ v → t.length ≤ 1048576)) ∧ H' = H := by
  have hn' : ∀ c ∈ t, c.name.length ≤ 4700000000000000000 := fun c hc => by have := hn c hc; omega
  refine acalls_of0 Tryz.func23 rfl (by kernel_rfl) rfl rfl (awp_sound (fz := fun _ => []) (im := fun s => s == 2) mixed _ _ _ _ (by kernel_rfl) ?_)
  simp +contextual -dsimp -implicitDefEqProofs (maxSteps := 5000000) only [go_sem, reduceIte, reduceCtorEq, Nat.reduceEqDiff, Nat.reduceBEq, Nat.reduceAdd, Nat.reduceLeDiff, Nat.reduceMul, Nat.reduceLT, Int.reduceEq, Int.reduceLT, Int.reduceLE]
  refine (c_szClassS t cl left _ hn' h0 h1).mono ?_
  rintro _ _ ⟨⟨v, rfl, hv, hvt⟩, rfl⟩
  by_cases h : v < 0
  · simp +contextual -dsimp -implicitDefEqProofs (maxSteps := 5000000) only [go_sem, reduceIte, reduceCtorEq, Nat.reduceEqDiff, Nat.reduceBEq, Nat.reduceAdd, Nat.reduceLeDiff, Nat.reduceMul, Nat.reduceLT, Int.reduceEq, Int.reduceLT, Int.reduceLE, h]
    exact ⟨_, rfl, by omega, by omega⟩
  · simp +contextual -dsimp -implicitDefEqProofs (maxSteps := 5000000) only [go_sem, reduceIte, reduceCtorEq, Nat.reduceEqDiff, Nat.reduceBEq, Nat.reduceAdd, Nat.reduceLeDiff, Nat.reduceMul, Nat.reduceLT, Int.reduceEq, Int.reduceLT, Int.reduceLE, h]
    exact ⟨_, rfl, hv, hvt⟩
theorem c_szExitS (l : List Exi) (cl : Bool) (left : Int) (H : AHeap) (h0 : 0 ≤ left) (h1 : left ≤ 1048576) : ACalls Tryz.prog 38 [.vsl (l.map rExit) cl, I left] H fun r H' => (∃ v : Int, r = I v ∧ v ≤ left ∧ (0 ≤ v → l.length ≤ 1048576)) ∧ H' = H := by
  refine acalls_len (by kernel_rfl) (List.mem_cons_self ..) fun hl => ?_
  rw [List.length_map] at hl
  have hw : IntKind.i64.wrap (left - (l.length : Nat)) = left - (l.length : Nat) := w64 (by omega) (by omega)
  refine acalls_of0 Tryz.func38 rfl (by kernel_rfl) rfl rfl (awp_sound (fz := fun _ => []) (im := fun _ => false) mixed _ _ _ _ (by kernel_rfl) ?_)
  by_cases h : left - (l.length : Nat) < 0
  · simp +contextual -dsimp -implicitDefEqProofs (maxSteps := 5000000) only [go_sem, reduceIte, reduceCtorEq, Nat.reduceEqDiff, Nat.reduceBEq, Nat.reduceAdd, Nat.reduceLeDiff, Nat.reduceMul, Nat.reduceLT, Int.reduceEq, Int.reduceLT, Int.reduceLE, hw, h]
    exact ⟨_, rfl, by omega, by omega⟩
  · simp +contextual -dsimp -implicitDefEqProofs (maxSteps := 5000000) only [go_sem, reduceIte, reduceCtorEq, Nat.reduceEqDiff, Nat.reduceBEq, Nat.reduceAdd, Nat.reduceLeDiff, Nat.reduceMul, Nat.reduceLT, Int.reduceEq, Int.reduceLT, Int.reduceLE, hw, h]
    exact ⟨_, rfl, by omega, by omega⟩
end
section
open Go Go.Sim
set_option maxRecDepth 100000

theorem bfsG_dch {h : List Fault} (ho : heapOk h) : ∀ (n : Nat) (pre : List Int) (f : Int), 0 ≤ f → f < h.length → f < n → (∀ a ∈ pre, f < a) → bfsG h n pre.length (pre ++ [f]) = pre ++ dchF h f
  | 0, pre, f, h0, h1, h2, _ => by omega
  | n + 1, pre, f, h0, h1, h2, h3 => by
    obtain ⟨o1, o2, o3⟩ := ho f.toNat (by omega)
    have e : (pre ++ [f]).getD pre.length default = f := by simp [List.getD_eq_getElem?_getD]
    have e1 : causeOf h f = -1 := o1
    have e2 : -1 ≤ ctxOf h f := o2
    have e3 : ctxOf h f < f := by have : ctxOf h f < f.toNat := o3
                                  omega
    simp only [bfsG]
    rw [if_pos (by simp), e, e1, dchF_step ho h0 h1]
    have a1 : addF (pre ++ [f]) (-1) = pre ++ [f] := by unfold addF; rw [if_neg (by omega)]
    rw [a1]
    by_cases hg : ctxOf h f < 0
    · have a2 : addF (pre ++ [f]) (ctxOf h f) = pre ++ [f] := by unfold addF; rw [if_neg (by omega)]
      rw [a2, dchF_neg hg]
      cases n with
      | zero => rfl
      | succ n => simp only [bfsG]; rw [if_neg (by simp)]
    · have a2 : addF (pre ++ [f]) (ctxOf h f) = (pre ++ [f]) ++ [ctxOf h f] := by
        have hany : ((pre ++ [f]).any fun x => decide (ctxOf h f = x)) = false := by
          rw [List.any_eq_false]
          intro a ha
          rcases List.mem_append.1 ha with q | q
          · have := h3 a q
            have : ¬ ctxOf h f = a := by omega
            simp [this]
          · simp at q
            have : ¬ ctxOf h f = a := by omega
            simp [this]
        unfold addF
        rw [if_pos ⟨by omega, hany⟩]
      rw [a2]
      have := bfsG_dch ho n (pre ++ [f]) (ctxOf h f) (by omega) (by omega) (by omega) (fun a ha => by
        rcases List.mem_append.1 ha with q | q
        · have := h3 a q; omega
        · simp at q; subst q; exact e3)
      rw [List.length_append] at this
      simpa using this
theorem bfsF_dch {h : List Fault} (ho : heapOk h) {f : Int} (h0 : 0 ≤ f) (h1 : f < h.length) : bfsF h f = dchF h f :=
  bfsG_dch ho (h.length + 1) [] f h0 h1 (by omega) (fun a ha => by cases ha)
theorem dchG_dec {h : List Fault} (ho : heapOk h) : ∀ (n : Nat) (f : Int), f < h.length → (dchG h n f).Pairwise (fun a b => b < a) ∧ ∀ a ∈ dchG h n f, a ≤ f
  | 0, f, _ => ⟨.nil, fun a ha => by cases ha⟩
  | n + 1, f, h1 => by
    simp only [dchG]
    split
    · rename_i h0
      obtain ⟨o1, o2, o3⟩ := ho f.toNat (by omega)
      have e3 : ctxOf h f < f := by have : ctxOf h f < f.toNat := o3
                                    omega
      obtain ⟨q1, q2⟩ := dchG_dec ho n (ctxOf h f) (by omega)
      refine ⟨.cons (fun a ha => by have := q2 a ha; omega) q1, fun a ha => ?_⟩
      rcases List.mem_cons.1 ha with q | q
      · omega
      · have := q2 a q; omega
    · exact ⟨.nil, fun a ha => by cases ha⟩
theorem fold_insF : ∀ (d out : List Int), d.Pairwise (fun a b => b < a) → (∀ a ∈ d, ∀ b ∈ out, a < b) → d.foldl insF out = d.reverse ++ out
  | [], out, _, _ => rfl
  | v :: d, out, hp, hm => by
    rw [List.foldl_cons]
    have hi : insF out v = v :: out := by
      have hk : insK out v = 0 := by
        cases out with
        | nil => rfl
        | cons b out => have := hm v (List.mem_cons_self ..) b (List.mem_cons_self ..)
                        have : ¬ b < v := by omega
                        simp [insK, this]
      unfold insF
      rw [hk, if_pos]
      · simp
      · cases out with
        | nil => exact .inl rfl
        | cons b out => have := hm v (List.mem_cons_self ..) b (List.mem_cons_self ..)
                        right; simp; omega
    obtain ⟨p1, p2⟩ := List.pairwise_cons.1 hp
    rw [hi, fold_insF d (v :: out) p2 (fun a ha b hb => ?_)]
    · simp
    · rcases List.mem_cons.1 hb with q | q
      · subst q; exact p1 a ha
      · exact hm a (List.mem_cons_of_mem _ ha) b q
theorem sortI_dec {d : List Int} (hp : d.Pairwise (fun a b => b < a)) : sortI d = d.reverse := by
  have s1 : (sortI d).Pairwise (fun a b => a ≤ b) := by
    have := List.pairwise_mergeSort (le := fun x y : Int => decide (x ≤ y)) (fun a b c h1 h2 => by simp at *; omega) (fun a b => by simp; omega) d
    exact this.imp (fun h => by simpa using h)
  have s2 : d.reverse.Pairwise (fun a b => a ≤ b) := by
    rw [List.pairwise_reverse]
    exact hp.imp (fun h => by omega)
  have pm : (sortI d).Perm d.reverse := (List.mergeSort_perm d _).trans (List.reverse_perm d).symm
  exact pm.eq_of_pairwise (fun a b _ _ h1 h2 => by omega) s1 s2
theorem sort_same {h : List Fault} (ho : heapOk h) {f : Int} (h0 : 0 ≤ f) (h1 : f < h.length) : sortI (bfsF h f) = sortedF (dchF h f) := by
  have hd := (dchG_dec ho (f + 1).toNat f h1).1
  rw [bfsF_dch ho h0 h1]
  unfold sortedF
  have := fold_insF (dchF h f) [] hd (fun a _ b hb => by cases hb)
  rw [this, List.append_nil]
  exact sortI_dec hd
theorem res_same {t : List Class} {s : Clo} {k : Nat} (hc : CloOk t s k) : resM s = resX s := by
  unfold resM resX
  by_cases h0 : 0 ≤ s.cur
  · rw [if_pos h0, if_pos h0]
    rw [sort_same hc.ho h0 hc.cur]
  · rw [if_neg h0, if_neg h0]
end
section
open Go Go.Sim
set_option maxRecDepth 100000

/-- Lines with their blocks: the first line, its block, and the lines behind it. -/
inductive Fo where
  | nil
  | node (k a b : Int) (kids rest : Fo)
  deriving Inhabited
def Fo.size : Fo → Nat
  | .nil => 0
  | .node _ _ _ kids rest => 1 + kids.size + rest.size
def Fo.flat : Fo → Int → List Line
  | .nil, _ => []
  | .node k a b kids rest, d => ⟨d, k, a, b⟩ :: (kids.flat (d + 1) ++ rest.flat d)
theorem flat_len : ∀ (f : Fo) (d : Int), (f.flat d).length = f.size
  | .nil, _ => rfl
  | .node k a b kids rest, d => by simp only [Fo.flat, Fo.size, List.length_cons, List.length_append, flat_len kids, flat_len rest]; omega
theorem flat_deep : ∀ (f : Fo) (d : Int), ∀ x ∈ f.flat d, d ≤ x.depth
  | .nil, _, x, h => by simp [Fo.flat] at h
  | .node k a b kids rest, d, x, h => by
    simp only [Fo.flat, List.mem_cons, List.mem_append] at h
    rcases h with rfl | h | h
    · exact Int.le_refl _
    · have := flat_deep kids (d + 1) x h; omega
    · exact flat_deep rest d x h
/-- What comes behind a block is less deep. -/
def Low (d : Int) (post : List Line) : Prop := ∀ l r, post = l :: r → l.depth < d
theorem low_flat {f : Fo} {d : Int} {post : List Line} (h : Low d post) : Low (d + 1) (f.flat d ++ post) := by
  intro l r e
  cases f with
  | nil => have := h l r e; omega
  | node k a b kids rest =>
    simp only [Fo.flat, List.cons_append] at e
    injection e with e1 e2
    rw [← e1]
    show d < d + 1
    omega
/-- Where a line's block ends. -/
def endP (p : List Line) (i : Nat) : Nat := i + 1 + ((p.drop (i + 1)).takeWhile fun x => decide ((p.getD i default).depth < x.depth)).length
theorem endP_is {p : List Line} {i k : Nat} (h0 : i < k) (h1 : k ≤ p.length) (h2 : ∀ j, i < j → j < k → (p.getD i default).depth < (p.getD j default).depth) (h3 : k < p.length → ¬ (p.getD i default).depth < (p.getD k default).depth) : endP p i = k := by
  unfold endP
  generalize hd : (p.getD i default).depth = d at h2 h3
  have e : p.drop (i + 1) = (p.take k).drop (i + 1) ++ p.drop k := by
    rw [List.drop_take]
    have : p.drop k = (p.drop (i + 1)).drop (k - (i + 1)) := by rw [List.drop_drop]; congr 1; omega
    rw [this, List.take_append_drop]
  have l1 : ((p.take k).drop (i + 1)).length = k - (i + 1) := by simp; omega
  have a1 : ∀ x ∈ (p.take k).drop (i + 1), decide (d < x.depth) = true := by
    intro x hx
    obtain ⟨j, hj, rfl⟩ := List.mem_iff_getElem.1 hx
    have hj' : i + 1 + j < k := by omega
    have := h2 (i + 1 + j) (by omega) hj'
    rw [List.getD_eq_getElem?_getD, List.getElem?_eq_getElem (by omega)] at this
    simpa using this
  rw [e, List.takeWhile_append_of_pos a1, List.length_append, l1]
  have : (p.drop k).takeWhile (fun x => decide (d < x.depth)) = [] := by
    rcases Nat.lt_or_ge k p.length with q | q
    · rw [List.drop_eq_getElem_cons q]
      have := h3 q
      rw [List.getD_eq_getElem?_getD, List.getElem?_eq_getElem q] at this
      simp only [Option.getD_some] at this
      rw [List.takeWhile_cons_of_neg (by simpa using this)]
    · rw [List.drop_eq_nil_of_le q]; rfl
  rw [this]
  simp
  omega

/-- At a place of a program stand lines of a depth, with their blocks, and no others of their block behind. -/
def At (p : List Line) (i : Nat) (d : Int) (f : Fo) : Prop := ∃ pre post, p = pre ++ (f.flat d ++ post) ∧ pre.length = i ∧ Low d post
section
variable {p : List Line} {i : Nat} {d k a b : Int} {f ks re : Fo}
theorem At.len (h : At p i d f) : i + f.size ≤ p.length := by
  obtain ⟨pre, post, rfl, rfl, _⟩ := h
  simp [flat_len]
theorem At.head (h : At p i d (.node k a b ks re)) : i < p.length ∧ p.getD i default = ⟨d, k, a, b⟩ := by
  have hl := h.len
  refine ⟨by simp only [Fo.size] at hl; omega, ?_⟩
  obtain ⟨pre, post, rfl, rfl, _⟩ := h
  simp [Fo.flat]
theorem At.kids (h : At p i d (.node k a b ks re)) : At p (i + 1) (d + 1) ks := by
  obtain ⟨pre, post, rfl, rfl, hp⟩ := h
  exact ⟨pre ++ [⟨d, k, a, b⟩], re.flat d ++ post, by simp [Fo.flat], by simp, low_flat hp⟩
theorem At.rest (h : At p i d (.node k a b ks re)) : At p (i + 1 + ks.size) d re := by
  obtain ⟨pre, post, rfl, rfl, hp⟩ := h
  exact ⟨pre ++ ⟨d, k, a, b⟩ :: ks.flat (d + 1), post, by simp [Fo.flat], by simp [flat_len]; omega, hp⟩
theorem At.stop (h : At p i d .nil) (hi : i < p.length) : (p.getD i default).depth < d := by
  obtain ⟨pre, post, rfl, rfl, hp⟩ := h
  cases post with
  | nil => simp [Fo.flat] at hi
  | cons l r => have := hp l r rfl; simpa [Fo.flat] using this
theorem At.deep (h : At p i d f) {j : Nat} (h0 : i ≤ j) (h1 : j < i + f.size) : d ≤ (p.getD j default).depth := by
  have hl := h.len
  obtain ⟨pre, post, rfl, rfl, hp⟩ := h
  have e : (pre ++ (f.flat d ++ post)).getD j default = (f.flat d).getD (j - pre.length) default := by
    simp only [List.getD_eq_getElem?_getD]
    rw [List.getElem?_append_right h0, List.getElem?_append_left (by rw [flat_len]; omega)]
  rw [e, List.getD_eq_getElem?_getD, List.getElem?_eq_getElem (by rw [flat_len]; omega)]
  exact flat_deep f d _ (List.getElem_mem _)
theorem At.low (h : At p i d f) (hi : i + f.size < p.length) : (p.getD (i + f.size) default).depth < d := by
  obtain ⟨pre, post, rfl, rfl, hp⟩ := h
  cases post with
  | nil => simp [flat_len] at hi
  | cons l r =>
    have := hp l r rfl
    simp only [List.getD_eq_getElem?_getD]
    rw [List.getElem?_append_right (by omega), List.getElem?_append_right (by rw [flat_len]; omega), flat_len]
    simpa using this
theorem At.top (h : At p i d f) {j : Nat} (hj : i ≤ j) (h2 : j < p.length) (h3 : j ≤ i + f.size) (hf : ∀ k a b kids rest, f = .node k a b kids rest → j = i → (p.getD j default).depth ≤ d) : j = i → (p.getD j default).depth ≤ d := by
  intro e
  subst e
  cases f with
  | nil => have := h.stop h2; omega
  | node k a b kids rest => exact hf _ _ _ _ _ rfl rfl
theorem At.first (h : At p i d f) (hi : i < p.length) : (p.getD i default).depth ≤ d := by
  cases f with
  | nil => have := h.stop hi; omega
  | node k a b kids rest => rw [h.head.2]; exact Int.le_refl _
theorem At.endP (h : At p i d (.node k a b ks re)) : endP p i = i + 1 + ks.size := by
  have hk := h.kids
  have hl := hk.len
  have hd : (p.getD i default).depth = d := by rw [h.head.2]
  refine endP_is (by omega) hl (fun j h1 h2 => ?_) (fun h1 => ?_)
  · have := hk.deep (j := j) (by omega) (by omega)
    omega
  · have := h.rest.first h1
    omega
end
def opensK (k : Int) : Bool := inR k 7 12
def followsK (k : Int) : Bool := inR k 8 10
def jumpsK (k : Int) : Bool := inR k 2 6
/-- The places of the first lines that go on with a try. -/
def chainN : Fo → Nat → List Nat
  | .nil, _ => []
  | .node k _ _ kids rest, i => if followsK k = true then i :: chainN rest (i + 1 + kids.size) else []
def skipF : Fo → Fo
  | .nil => .nil
  | .node k a b kids rest => if followsK k = true then skipF rest else .node k a b kids rest
def skipN : Fo → Nat → Nat
  | .nil, i => i
  | .node k _ _ kids rest, i => if followsK k = true then skipN rest (i + 1 + kids.size) else i
def headsK : Fo → List Int
  | .nil => []
  | .node k _ _ _ rest => if followsK k = true then k :: headsK rest else []
def tailP (p : List Line) (d : Int) : Nat → Nat → List Nat
  | 0, _ => []
  | n + 1, k => if k < p.length ∧ (p.getD k default).depth = d ∧ followsK (p.getD k default).kind = true then k :: tailP p d n (endP p k) else []
def chainP (p : List Line) (i : Nat) : List Nat := i :: tailP p (p.getD i default).depth p.length (endP p i)
theorem tailP_at {p : List Line} : ∀ (f : Fo) (n i : Nat) (d : Int), At p i d f → p.length ≤ n + i → tailP p d n i = chainN f i
  | .nil, n, i, d, h, hn => by
    cases n with
    | zero => rfl
    | succ n =>
      simp only [tailP, chainN]
      rw [if_neg]
      rintro ⟨h1, h2, _⟩
      have := h.stop h1
      omega
  | .node k a b kids rest, n, i, d, h, hn => by
    have hh := h.head
    cases n with
    | zero => omega
    | succ n =>
      simp only [tailP, chainN]
      rw [hh.2]
      by_cases hk : followsK k = true
      · rw [if_pos ⟨hh.1, rfl, hk⟩, if_pos hk, h.endP]
        rw [tailP_at rest n _ d h.rest (by omega)]
      · rw [if_neg (fun q => hk q.2.2), if_neg hk]
theorem chainP_at {p : List Line} {i : Nat} {d k a b : Int} {kids rest : Fo} (h : At p i d (.node k a b kids rest)) : chainP p i = i :: chainN rest (i + 1 + kids.size) := by
  have hd : (p.getD i default).depth = d := by rw [h.head.2]
  unfold chainP
  rw [hd, h.endP, tailP_at rest _ _ d h.rest (by omega)]
section
variable {p : List Line} {i : Nat} {d : Int}
theorem At.skip : ∀ {f : Fo} {i : Nat}, At p i d f → At p (skipN f i) d (skipF f)
  | .nil, i, h => h
  | .node k a b kids rest, i, h => by
    simp only [skipN, skipF]
    split
    · exact At.skip h.rest
    · exact h
end
end
section
open Go Go.Sim
set_option maxRecDepth 100000

def numOk (t : List Class) (k a b : Int) : Bool :=
  if k = 1 ∨ k = 4 then inR a 0 99 && decide (b = 0)
  else if k = 2 then hasF t a && inR b 0 99
  else if k = 8 then hasF t a && decide (b = 0)
  else if k = 11 then inR a 0 9 && inR b 0 1
  else if k = 12 then inR a 0 3 && decide (b = 0)
  else inR k 0 12 && (decide (a = 0) && decide (b = 0))
def Fo.isNil : Fo → Bool
  | .nil => true
  | _ => false
/-- Each line has the numbers that it may have, none is too deep, and those that open a block have one, and only those. -/
def numsF (t : List Class) : Fo → Int → Bool
  | .nil, _ => true
  | .node k a b kids rest, d => numOk t k a b && (inR d 0 5 && ((opensK k == !kids.isNil) && (numsF t kids (d + 1) && numsF t rest d)))
def tryG : Int → List Int → Bool
  | _, [] => true
  | last, k :: ks => ((decide (k = 8) && decide (last ≤ 8)) || ((decide (k = 9) && decide (last = 8)) || (decide (k = 10) && decide (last < 10)))) && tryG k ks
def tryOkF (ks : List Int) : Bool := tryG 7 ks && (decide (1 ≤ ks.length) && decide ((ks.filter fun k => decide (k = 8)).length ≤ 6))
/-- The lines of a block stand as they may; 'm': they may go on with a try. -/
def okF : Fo → Bool → Bool → Bool
  | .nil, _, _ => true
  | .node k _ _ kids rest, lp, m =>
    if followsK k = true then m && (okF kids lp false && okF rest lp true)
    else if k = 5 ∨ k = 6 then lp && okF rest lp false
    else if k = 7 then tryOkF (headsK rest) && (okF kids lp false && okF rest lp true)
    else if k = 11 then okF kids lp false && okF rest lp false
    else if k = 12 then okF kids true false && okF rest lp false
    else okF rest lp false
structure En where
  ed : Int
  val : Int
  deriving Inhabited, DecidableEq
structure RS where
  log : List Int
  fs : List Fault
  first : Int
  deriving Inhabited
def En.next : En := ⟨0, 0⟩
def RS.raise (s : RS) (c d h : Int) : RS := { s with fs := raiseF s.fs c d h }
def RS.jump (s : RS) (k : Int) (i : Nat) : RS := if jumpsK k = true ∧ s.first < 0 then { s with first := i } else s
def clsOf (s : RS) (v : Int) : Int := (s.fs.getD v.toNat default).cls
/-- A heap of faults of a run. -/
structure FsOk (t : List Class) (fs : List Fault) : Prop where
  ho : heapOk fs
  cls : ∀ k, k < fs.length → hasF t (fs.getD k default).cls = true ∧ inR (fs.getD k default).code 0 99 = true
theorem fsOk_nil (t : List Class) : FsOk t [] := ⟨heapOk_nil, fun k h => by simp at h⟩
theorem FsOk.raise {t : List Class} {fs : List Fault} (h : FsOk t fs) {c d g : Int} (hc : hasF t c = true) (hd : inR d 0 99 = true) (hg : g < fs.length) : FsOk t (raiseF fs c d g) := by
  refine ⟨raiseF_ok h.ho hg, fun k hk => ?_⟩
  rw [raiseF_len] at hk
  rcases Nat.lt_or_ge k fs.length with q | q
  · have e : (raiseF fs c d g).getD k default = fs.getD k default := by
      simp only [raiseF, List.getD_eq_getElem?_getD]; rw [List.getElem?_append_left q]
    rw [e]; exact h.cls k q
  · have e : (raiseF fs c d g).getD k default = ⟨c, d, -1, if 0 ≤ g then g else -1, false⟩ := by
      have : k = fs.length := by omega
      subst this
      simp [raiseF, List.getD_eq_getElem?_getD]
    rw [e]; exact ⟨hc, hd⟩
/-- A run goes on: what was told and raised stays. -/
structure Goes (t : List Class) (n : Nat) (s : RS) (e : En) (s' : RS) : Prop where
  log : ∃ l, s'.log = s.log ++ l ∧ l.length ≤ n
  fs : ∃ l, s'.fs = s.fs ++ l ∧ l.length ≤ n
  ok : FsOk t s'.fs
  val : e.ed = 2 → 0 ≤ e.val ∧ e.val < s'.fs.length
  first : -1 ≤ s.first → -1 ≤ s'.first
theorem Goes.len {t : List Class} {n : Nat} {s : RS} {e : En} {s' : RS} (h : Goes t n s e s') : s.fs.length ≤ s'.fs.length ∧ s'.fs.length ≤ s.fs.length + n ∧ s'.log.length ≤ s.log.length + n := by
  obtain ⟨l, h1, h2⟩ := h.fs
  obtain ⟨m, h3, h4⟩ := h.log
  rw [h1, h3]; simp; omega
theorem Goes.trans {t : List Class} {n m k : Nat} {s : RS} {e : En} {s' : RS} {e' : En} {s'' : RS} (h : Goes t n s e s') (g : Goes t m s' e' s'') (hk : n + m ≤ k) : Goes t k s e' s'' := by
  obtain ⟨l, h1, h2⟩ := h.fs
  obtain ⟨l', h3, h4⟩ := h.log
  obtain ⟨m1, g1, g2⟩ := g.fs
  obtain ⟨m2, g3, g4⟩ := g.log
  exact ⟨⟨l' ++ m2, by rw [g3, h3, List.append_assoc], by simp; omega⟩, ⟨l ++ m1, by rw [g1, h1, List.append_assoc], by simp; omega⟩, g.ok, g.val, fun q => g.first (h.first q)⟩
theorem Goes.end {t : List Class} {n : Nat} {s : RS} {e e' : En} {s' : RS} (h : Goes t n s e s') (he : e'.ed = 2 → 0 ≤ e'.val ∧ e'.val < s'.fs.length) : Goes t n s e' s' := ⟨h.log, h.fs, h.ok, he, h.first⟩
theorem Goes.le {t : List Class} {n m : Nat} {s : RS} {e : En} {s' : RS} (h : Goes t n s e s') (hm : n ≤ m) : Goes t m s e s' := by
  obtain ⟨l, h1, h2⟩ := h.fs
  obtain ⟨l', h3, h4⟩ := h.log
  exact ⟨⟨l', h3, by omega⟩, ⟨l, h1, by omega⟩, h.ok, h.val, h.first⟩
/-- What lines tell and raise, at most. -/
def cost : Fo → Nat
  | .nil => 0
  | .node k a _ kids rest => 2 + (if k = 12 then a.toNat * cost kids else cost kids) + cost rest
theorem numsF_node {t : List Class} {k a b d : Int} {kids rest : Fo} (h : numsF t (.node k a b kids rest) d = true) : numOk t k a b = true ∧ inR d 0 5 = true ∧ (opensK k = !kids.isNil) ∧ numsF t kids (d + 1) = true ∧ numsF t rest d = true := by
  simp only [numsF, Bool.and_eq_true, beq_iff_eq] at h
  exact ⟨h.1, h.2.1, h.2.2.1, h.2.2.2.1, h.2.2.2.2⟩
end
section
open Go Go.Sim
set_option maxRecDepth 100000
set_option maxHeartbeats 4000000

/-- A line with its block. -/
structure BlkAt (p : List Line) (d : Int) (n : Nat) (q : Nat × Fo) : Prop where
  lt : q.1 < p.length
  en : endP p q.1 = q.1 + 1 + q.2.size
  kids : At p (q.1 + 1) (d + 1) q.2
  small : q.2.size < n
theorem drop_nil {l : List Nat} {n : Nat} (h : l.drop n = []) : ¬ n < l.length := by
  intro q
  rw [List.drop_eq_getElem_cons q] at h
  cases h
end
section
open Go Go.Sim
set_option maxRecDepth 100000
set_option maxHeartbeats 4000000

/-- The lines of a program, with their blocks. -/
noncomputable def forestP (p : List Line) : Fo := @dite _ (∃ f : Fo, p = f.flat 0) (Classical.propDecidable _) (fun h => h.choose) (fun _ => .nil)
def rs0 : RS := ⟨[], [], -1⟩
/-- The result of a run, as the program tells it. -/
def resOf (r : En × RS) : Res :=
  if r.1.ed = 2 then ⟨r.2.log, 2, idxF (fun x => decide (r.1.val = x)) (sortI (bfsF r.2.fs r.1.val)), isoL r.2.fs (sortI (bfsF r.2.fs r.1.val))⟩ else ⟨r.2.log, r.1.ed, r.1.val, []⟩
end
section
open Go Go.Sim
set_option maxRecDepth 100000

/-- The lines of a block that is right. -/
theorem okF_node {k a b : Int} {kids rest : Fo} {lp m : Bool} (h : okF (.node k a b kids rest) lp m = true) :
    (followsK k = true ∧ m = true ∧ okF kids lp false = true ∧ okF rest lp true = true) ∨
    (followsK k = false ∧ ((k = 7 ∧ tryOkF (headsK rest) = true ∧ okF kids lp false = true ∧ okF rest lp true = true) ∨
      (k ≠ 7 ∧ okF rest lp false = true ∧ (k = 11 → okF kids lp false = true) ∧ (k = 12 → okF kids true false = true) ∧ (k = 5 ∨ k = 6 → lp = true)))) := by
  simp only [okF] at h
  by_cases hf : followsK k = true
  · rw [if_pos hf] at h
    simp only [Bool.and_eq_true] at h
    exact .inl ⟨hf, h.1, h.2.1, h.2.2⟩
  · right
    refine ⟨by simpa using hf, ?_⟩
    rw [if_neg hf] at h
    by_cases h56 : k = 5 ∨ k = 6
    · rw [if_pos h56, Bool.and_eq_true] at h
      exact .inr ⟨by omega, h.2, fun q => by omega, fun q => by omega, fun _ => h.1⟩
    · rw [if_neg h56] at h
      by_cases h7 : k = 7
      · rw [if_pos h7] at h
        simp only [Bool.and_eq_true] at h
        exact .inl ⟨h7, h.1, h.2.1, h.2.2⟩
      · rw [if_neg h7] at h
        by_cases h11 : k = 11
        · rw [if_pos h11, Bool.and_eq_true] at h
          exact .inr ⟨h7, h.2, fun _ => h.1, fun q => by omega, fun q => absurd q h56⟩
        · rw [if_neg h11] at h
          by_cases h12 : k = 12
          · rw [if_pos h12, Bool.and_eq_true] at h
            exact .inr ⟨h7, h.2, fun q => absurd q h11, fun _ => h.1, fun q => absurd q h56⟩
          · rw [if_neg h12] at h
            exact .inr ⟨h7, h, fun q => absurd q h11, fun q => absurd q h12, fun q => absurd q h56⟩
end
section
open Go Go.Sim
set_option maxRecDepth 100000

/-- A number of a fault, further on. -/
def shv (n : Nat) (v : Int) : Int := if 0 ≤ v then v + n else v
def shf (n : Nat) (x : Fault) : Fault := { x with cause := shv n x.cause, ctx := shv n x.ctx }
/-- How two runs are alike: logs as 'LR' says, faults behind 'F'; 'wk': but for what was handled. -/
structure SimP where
  LR : List Int → List Int → Prop
  F : List Fault
  wk : Bool
structure SR (P : SimP) (s s' : RS) : Prop where
  log : P.LR s.log s'.log
  fs : ∃ X, s'.fs = P.F ++ X ∧ (P.wk = true → X.map (·.cls) = s.fs.map (·.cls)) ∧ (P.wk = false → X = s.fs.map (shf P.F.length))
def HR (P : SimP) (h h' : Int) : Prop := (0 ≤ h ∧ h' = h + P.F.length) ∨ (h < 0 ∧ (P.wk = true ∨ h' < 0))
section
variable {P : SimP}
theorem SR.len {s s' : RS} (h : SR P s s') : s'.fs.length = P.F.length + s.fs.length := by
  obtain ⟨X, e, h1, h2⟩ := h.fs
  have : X.length = s.fs.length := by
    cases hw : P.wk
    · rw [h2 hw, List.length_map]
    · have := congrArg List.length (h1 hw)
      simpa using this
  rw [e, List.length_append, this]
theorem SR.cls {s s' : RS} (h : SR P s s') {v : Int} (hv : 0 ≤ v) : clsOf s' (v + P.F.length) = clsOf s v := by
  obtain ⟨X, e, h1, h2⟩ := h.fs
  have hc : X.map (·.cls) = s.fs.map (·.cls) := by
    cases hw : P.wk
    · rw [h2 hw, List.map_map]; rfl
    · exact h1 hw
  have hg : ∀ (l : List Fault) (k : Nat), (l.getD k default).cls = (l.map (·.cls)).getD k (default : Fault).cls := fun l k => by
    simp only [List.getD_eq_getElem?_getD, List.getElem?_map]
    cases l[k]? <;> rfl
  unfold clsOf
  have e2 : (v + (P.F.length : Int)).toNat = P.F.length + v.toNat := by omega
  rw [e, e2]
  have e3 : (P.F ++ X).getD (P.F.length + v.toNat) default = X.getD v.toNat default := by
    simp only [List.getD_eq_getElem?_getD]
    rw [List.getElem?_append_right (by omega), Nat.add_sub_cancel_left]
  rw [e3, hg, hg, hc]
theorem SR.jump {s s' : RS} (h : SR P s s') (k : Int) (i i' : Nat) : SR P (s.jump k i) (s'.jump k i') := by
  unfold RS.jump
  constructor
  · split <;> split <;> exact h.log
  · split <;> split <;> exact h.fs
theorem SR.raise {s s' : RS} (h : SR P s s') (c d : Int) {g g' : Int} (hg : HR P g g') : SR P (s.raise c d g) (s'.raise c d g') := by
  refine ⟨h.log, ?_⟩
  obtain ⟨X, e, h1, h2⟩ := h.fs
  refine ⟨X ++ [⟨c, d, -1, if 0 ≤ g' then g' else -1, false⟩], ?_, fun q => ?_, fun q => ?_⟩
  · show raiseF s'.fs c d g' = _
    unfold raiseF
    rw [e, List.append_assoc]
  · show _ = (raiseF s.fs c d g).map (·.cls)
    unfold raiseF
    rw [List.map_append, List.map_append, h1 q]; rfl
  · show _ = (raiseF s.fs c d g).map (shf P.F.length)
    unfold raiseF
    rw [List.map_append, ← h2 q]
    congr 1
    rcases hg with ⟨g0, rfl⟩ | ⟨g0, g1⟩
    · have h3 : 0 ≤ g + (P.F.length : Int) := by omega
      simp [shf, shv, g0, h3]
    · have g2 : g' < 0 := by
        rcases g1 with g1 | g1
        · rw [q] at g1; cases g1
        · exact g1
      have n1 : ¬ 0 ≤ g := by omega
      have n2 : ¬ 0 ≤ g' := by omega
      simp [shf, shv, n1, n2]
end
end
section
open Go Go.Sim
set_option maxRecDepth 100000

/-- How lines may end, in a loop or not. -/
def EdOk (lp : Bool) (e : En) : Prop := (e.ed = 0 → e.val = 0) ∧ (e.ed = 0 ∨ e.ed = 1 ∨ e.ed = 2 ∨ (lp = true ∧ (e.ed = 3 ∨ e.ed = 4)))
theorem EdOk.up {e : En} {lp : Bool} (h : EdOk false e) : EdOk lp e := ⟨h.1, by have := h.2; simp at this; omega⟩
/-- Runs that are the same but for where the first jump is. -/
def REq (r r' : En × RS) : Prop := r'.1 = r.1 ∧ r'.2.log = r.2.log ∧ r'.2.fs = r.2.fs
theorem REq.refl (r : En × RS) : REq r r := ⟨rfl, rfl, rfl⟩
theorem REq.symm {r r' : En × RS} (h : REq r r') : REq r' r := ⟨h.1.symm, h.2.1.symm, h.2.2.symm⟩
theorem REq.trans {r r' r'' : En × RS} (h : REq r r') (g : REq r' r'') : REq r r'' := ⟨g.1.trans h.1, g.2.1.trans h.2.1, g.2.2.trans h.2.2⟩
theorem REq.res {r r' : En × RS} (h : REq r r') : resOf r' = resOf r := by
  unfold resOf
  rw [h.1, h.2.1, h.2.2]
/-- Logs and faults go on behind others. -/
abbrev behind (L : List Int) (F : List Fault) (wk : Bool) : SimP := ⟨fun l l' => l' = L ++ l, F, wk⟩
end
section
open Go Go.Sim
set_option maxRecDepth 100000
/-- A fault isolated: its number, and the faults. -/
def isoR (fs : List Fault) (v : Int) : Int × List Fault := (idxF (fun x => decide (v = x)) (sortI (bfsF fs v)), isoL fs (sortI (bfsF fs v)))
theorem sort_dch {h : List Fault} (ho : heapOk h) {f : Int} (h0 : 0 ≤ f) (h1 : f < h.length) : sortI (bfsF h f) = (dchF h f).reverse := by
  rw [bfsF_dch ho h0 h1]
  exact sortI_dec (dchG_dec ho (f + 1).toNat f h1).1
section
variable {F h : List Fault}
theorem dch_pre {X : List Fault} (ho : heapOk F) : ∀ (m : Nat) (v : Int), v < F.length → dchG (F ++ X) m v = dchG F m v
  | 0, v, _ => rfl
  | m + 1, v, hv => by
    simp only [dchG]
    split
    · rename_i h0
      obtain ⟨o1, o2, o3⟩ := ho v.toNat (by omega)
      have e : ctxOf (F ++ X) v = ctxOf F v := by
        unfold ctxOf
        simp only [List.getD_eq_getElem?_getD]
        rw [List.getElem?_append_left (by omega)]
      have e3 : ctxOf F v < F.length := by
        have : ctxOf F v < v.toNat := o3
        omega
      rw [e, dch_pre ho m _ e3]
    · rfl
end
theorem res_two {r : En × RS} (h : r.1.ed = 2) : resOf r = ⟨r.2.log, 2, (isoR r.2.fs r.1.val).1, (isoR r.2.fs r.1.val).2⟩ := by unfold resOf isoR; rw [if_pos h]
theorem res_else {r : En × RS} (h : r.1.ed ≠ 2) : resOf r = ⟨r.2.log, r.1.ed, r.1.val, []⟩ := by unfold resOf; rw [if_neg h]
end
section
open Go Go.Sim
set_option maxRecDepth 100000

def enC (c : Clo) : En := if 0 ≤ c.cur then ⟨2, c.cur⟩ else .next
/-- What lines have done is what exits have done. -/
structure RelC (c : Clo) (r : En × RS) : Prop where
  en : r.1 = enC c
  log : r.2.log = c.log
  fs : r.2.fs = c.fs
end
section
open Go Go.Sim
set_option maxRecDepth 100000

/-- How many faults a fault has behind it, itself counted. -/
def dep (fs : List Fault) (v : Int) : Nat := (dchF fs v).length
theorem dep_neg {fs : List Fault} {v : Int} (h : v < 0) : dep fs v = 0 := by unfold dep; rw [dchF_neg h]; rfl
theorem dep_pre {F X : List Fault} (ho : heapOk F) {v : Int} (h : v < F.length) : dep (F ++ X) v = dep F v := by
  unfold dep dchF
  rw [dch_pre ho _ v h]
theorem dep_new {fs : List Fault} (ho : heapOk fs) {c d g : Int} (hg : g < fs.length) : dep (raiseF fs c d g) fs.length = dep fs g + 1 := by
  have ho' := raiseF_ok (cls := c) (code := d) ho hg
  have hl : (raiseF fs c d g).length = fs.length + 1 := raiseF_len
  have e : ctxOf (raiseF fs c d g) fs.length = if 0 ≤ g then g else -1 := by
    unfold ctxOf raiseF
    simp [List.getD_eq_getElem?_getD]
  unfold dep
  rw [dchF_step ho' (by omega) (by omega), e, List.length_cons]
  by_cases q : 0 ≤ g
  · rw [if_pos q]
    have := dep_pre (X := [⟨c, d, -1, if 0 ≤ g then g else -1, false⟩]) ho hg
    unfold dep at this
    show (dchF (fs ++ _) g).length + 1 = _
    rw [this]
  · rw [if_neg q, dchF_neg (by omega), dchF_neg (by omega)]
def DepOk (fs : List Fault) (N : Nat) (e : En) : Prop := e.ed = 2 → dep fs e.val ≤ N
theorem DepOk.up {fs : List Fault} {N M : Nat} {e : En} (h : DepOk fs N e) (hm : N ≤ M) : DepOk fs M e := fun q => Nat.le_trans (h q) hm
theorem Goes.dep {t : List Class} {n : Nat} {s : RS} {e : En} {s' : RS} (h : Goes t n s e s') (ho : heapOk s.fs) {v : Int} (hv : v < s.fs.length) : dep s'.fs v = dep s.fs v := by
  obtain ⟨l, e1, _⟩ := h.fs
  rw [e1]; exact dep_pre ho hv
end
section
open Go Go.Sim
set_option maxRecDepth 100000
def linkF (n : Nat) (f to : Int) : Bool := decide (to = -1) || (inR to 0 (n - 1) && !decide (to = f))
theorem chainF_in {h : List Fault} (hc : ∀ k, k < h.length → (h.getD k default).ctx < h.length) {f : Int} (hf : f < h.length) {a : Int} (ha : a ∈ chainF h f) : 0 ≤ a ∧ a < h.length := by
  have := walkG_mem (nx := ctxOf h) (p := fun a => a < h.length) (fun a a0 a1 => hc a.toNat (by omega)) (h.length + 1) [] f hf a ha
  simpa using this
def lastI (l : List Int) : Int := l.getD (l.length - 1) default
theorem lastI_in {h : List Fault} (hc : ∀ k, k < h.length → (h.getD k default).ctx < h.length) {f : Int} (h0 : 0 ≤ f) (hf : f < h.length) : 0 ≤ lastI (chainF h f) ∧ lastI (chainF h f) < h.length := by
  have hne := List.length_pos_iff.2 (chainF_ne (h := h) h0)
  apply chainF_in hc hf
  have : (chainF h f).length - 1 < (chainF h f).length := by omega
  unfold lastI
  rw [List.getD_eq_getElem?_getD, List.getElem?_eq_getElem this]
  exact List.getElem_mem this
def faultOk (t : List Class) (h : List Fault) (k : Nat) : Bool := hasF t (h.getD k default).cls && inR (h.getD k default).code 0 99 && linkF h.length k (h.getD k default).cause && linkF h.length k (h.getD k default).ctx
def lastOk (h : List Fault) (k : Nat) : Bool := decide (ctxOf h (lastI (chainF h k)) = -1)
def validH (t : List Class) (h : List Fault) : Bool := (List.range h.length).all (faultOk t h) && ((List.range h.length).all (lastOk h) && (validT t && decide (h.length ≤ 24)))
end
section
open Go Go.Sim
set_option maxRecDepth 100000

theorem getD_app {α : Type} {a b : List α} {d : α} {i : Nat} (h : i < a.length) : (a ++ b).getD i d = a.getD i d := by
  rw [List.getD_eq_getElem?_getD, List.getD_eq_getElem?_getD, List.getElem?_append_left h]
theorem walkG_step {nx : Int → Int} : ∀ (n : Nat) (out : List Int) (f : Int), (∀ i, i + 1 < out.length → out.getD (i + 1) default = nx (out.getD i default)) → (∀ i, i + 1 = out.length → nx (out.getD i default) = f) →
    ∀ i, i + 1 < (walkG nx n out f).length → (walkG nx n out f).getD (i + 1) default = nx ((walkG nx n out f).getD i default)
  | 0, out, f, h, _, i, hi => h i hi
  | n + 1, out, f, h, h2, i, hi => by
    simp only [walkG] at hi ⊢
    by_cases c : 0 ≤ f ∧ (out.any fun x => decide (f = x)) = false
    · rw [if_pos c] at hi ⊢
      refine walkG_step n (out ++ [f]) (nx f) ?_ ?_ i hi
      · intro j hj
        rw [List.length_append, List.length_singleton] at hj
        rcases Nat.lt_or_ge (j + 1) out.length with q | q
        · rw [getD_app q, getD_app (show j < out.length by omega)]
          exact h j q
        · have e : j + 1 = out.length := by omega
          rw [getD_app (show j < out.length by omega), h2 j e, e]
          simp [List.getD_eq_getElem?_getD]
      · intro j hj
        rw [List.length_append, List.length_singleton] at hj
        have e : j = out.length := by omega
        subst e
        simp [List.getD_eq_getElem?_getD]
    · rw [if_neg c] at hi ⊢
      exact h i hi
theorem walkG_pre {nx : Int → Int} : ∀ (n : Nat) (out : List Int) (f : Int) (i : Nat), i < out.length → (walkG nx n out f).getD i default = out.getD i default
  | 0, out, f, i, hi => rfl
  | n + 1, out, f, i, hi => by
    simp only [walkG]
    split
    · rw [walkG_pre n (out ++ [f]) (nx f) i (by simp; omega), getD_app hi]
    · rfl
theorem chain_step {h : List Fault} {g : Int} {i : Nat} (hi : i + 1 < (chainF h g).length) : (chainF h g).getD (i + 1) default = ctxOf h ((chainF h g).getD i default) :=
  walkG_step (h.length + 1) [] g (fun i q => by simp at q) (fun i q => by simp at q) i hi
theorem chain_head {h : List Fault} {g : Int} (h0 : 0 ≤ g) : (chainF h g).getD 0 default = g := by
  unfold chainF walkF
  simp only [walkG]
  rw [if_pos ⟨h0, rfl⟩, walkG_pre _ _ _ 0 (by simp)]
  rfl
/-- Contexts of faults that come to an end. -/
structure Calm (h : List Fault) : Prop where
  ctx : ∀ k, k < h.length → -1 ≤ (h.getD k default).ctx ∧ (h.getD k default).ctx < h.length
  last : ∀ k, k < h.length → lastOk h k = true
theorem Calm.at {h : List Fault} (hc : Calm h) {g : Int} (h0 : 0 ≤ g) (hg : g < h.length) {i : Nat} (hi : i < (chainF h g).length) : (i + 1 < (chainF h g).length ∧ 0 ≤ ctxOf h ((chainF h g).getD i default)) ∨ (i + 1 = (chainF h g).length ∧ ctxOf h ((chainF h g).getD i default) = -1) := by
  rcases Nat.lt_or_ge (i + 1) (chainF h g).length with q | q
  · left
    refine ⟨q, ?_⟩
    rw [← chain_step q, List.getD_eq_getElem?_getD, List.getElem?_eq_getElem q]
    exact (chainF_in (fun k hk => (hc.ctx k hk).2) hg (List.getElem_mem q)).1
  · right
    have e : i + 1 = (chainF h g).length := by omega
    refine ⟨e, ?_⟩
    have := hc.last g.toNat (by omega)
    rw [lastOk, decide_eq_true_eq, lastI, Int.toNat_of_nonneg h0, ← e] at this
    simpa using this
end
section
open Go Go.Sim
set_option maxRecDepth 100000

/-- In so many steps there is nothing more. -/
def EndsAt (nx : Int → Int) : Nat → Int → Prop
  | 0, a => a < 0
  | m + 1, a => 0 ≤ a ∧ EndsAt nx m (nx a)
theorem EndsAt.uniq {nx : Int → Int} : ∀ {m m' : Nat} {a : Int}, EndsAt nx m a → EndsAt nx m' a → m = m'
  | 0, 0, _, _, _ => rfl
  | 0, m' + 1, a, h, h' => by have := h'.1; simp only [EndsAt] at h; omega
  | m + 1, 0, a, h, h' => by have := h.1; simp only [EndsAt] at h'; omega
  | m + 1, m' + 1, a, h, h' => by rw [EndsAt.uniq h.2 h'.2]
def Ends (nx : Int → Int) (a : Int) : Prop := ∃ m, EndsAt nx m a
theorem Ends.neg {nx : Int → Int} {a : Int} (h : a < 0) : Ends nx a := ⟨0, h⟩
theorem Ends.step {nx : Int → Int} {a : Int} (h : Ends nx (nx a)) : Ends nx a := by
  obtain ⟨m, hm⟩ := h
  by_cases c : a < 0
  · exact .neg c
  · exact ⟨m + 1, by omega, hm⟩
theorem Ends.ind {nx : Int → Int} {p : Int → Prop} (h0 : ∀ a, a < 0 → p a) (h1 : ∀ a, 0 ≤ a → p (nx a) → p a) {a : Int} (h : Ends nx a) : p a := by
  obtain ⟨m, hm⟩ := h
  induction m generalizing a with
  | zero => exact h0 a hm
  | succ m ih => exact h1 a hm.1 (ih hm.2)
theorem walkG_end {nx : Int → Int} {n : Nat} (hnx : ∀ a : Int, 0 ≤ a → a < n → nx a < n) : ∀ (m fuel : Nat) (out : List Int) (f : Int), EndsAt nx m f → f < n → (∀ a ∈ out, ∃ m', m < m' ∧ EndsAt nx m' a) → freeN n out < fuel → (out ≠ [] → nx (lastI out) = f) → walkG nx fuel out f ≠ [] → nx (lastI (walkG nx fuel out f)) < 0
  | m, 0, out, f, _, _, _, hfr, _, _ => by omega
  | 0, fuel + 1, out, f, he, hf, ho, hfr, hl, hne => by
    have hf0 : f < 0 := he
    simp only [walkG] at hne ⊢
    rw [if_neg (by omega)] at hne ⊢
    rw [hl hne]; exact hf0
  | m + 1, fuel + 1, out, f, he, hf, ho, hfr, hl, hne => by
    have hany : (out.any fun x => decide (f = x)) = false := by
      rw [List.any_eq_false]
      intro a ha
      obtain ⟨m', h1, h2⟩ := ho a ha
      have : ¬ f = a := by
        rintro rfl
        have := he.uniq h2
        omega
      simpa using this
    simp only [walkG] at hne ⊢
    rw [if_pos ⟨he.1, hany⟩] at hne ⊢
    have := freeN_lt he.1 hf hany
    refine walkG_end hnx m fuel (out ++ [f]) (nx f) he.2 (hnx f he.1 hf) ?_ (by omega) ?_ hne
    · intro a ha
      rcases List.mem_append.1 ha with q | q
      · obtain ⟨m', h1, h2⟩ := ho a q
        exact ⟨m', by omega, h2⟩
      · simp at q; subst q
        exact ⟨m + 1, by omega, he⟩
    · intro _
      congr 1
      simp [lastI, List.getD_eq_getElem?_getD]
theorem Calm.of_ends {h : List Fault} (hc : ∀ k, k < h.length → -1 ≤ (h.getD k default).ctx ∧ (h.getD k default).ctx < h.length) (he : ∀ k : Nat, k < h.length → Ends (ctxOf h) k) : Calm h := by
  refine ⟨hc, fun k hk => ?_⟩
  obtain ⟨m, hm⟩ := he k hk
  have hne := chainF_ne (h := h) (g := k) (by omega)
  have hnx : ∀ a : Int, 0 ≤ a → a < h.length → ctxOf h a < h.length := fun a a0 a1 => (hc a.toNat (by omega)).2
  have := walkG_end hnx m (h.length + 1) [] k hm (by omega) (fun a ha => by cases ha) (by have := freeN_nil h.length; omega) (fun q => absurd rfl q) hne
  have hin := lastI_in (fun k hk => (hc k hk).2) (f := k) (by omega) (by omega)
  have h1 := hc (lastI (chainF h k)).toNat (by omega)
  rw [lastOk, decide_eq_true_eq]
  unfold ctxOf at this ⊢
  unfold chainF walkF at h1 ⊢
  unfold ctxOf at h1 ⊢
  omega
theorem Calm.ends {h : List Fault} (hc : Calm h) {k : Int} (h0 : 0 ≤ k) (hk : k < h.length) : Ends (ctxOf h) k := by
  have hne := List.length_pos_iff.2 (chainF_ne (h := h) h0)
  have key : ∀ j, j < (chainF h k).length → Ends (ctxOf h) ((chainF h k).getD ((chainF h k).length - 1 - j) default) := by
    intro j
    induction j with
    | zero =>
      intro hj
      rcases hc.at h0 hk (i := (chainF h k).length - 1 - 0) (by omega) with ⟨q, _⟩ | ⟨_, q⟩
      · omega
      · exact .step (.neg (by omega))
    | succ j ih =>
      intro hj
      have e : (chainF h k).length - 1 - j = ((chainF h k).length - 1 - (j + 1)) + 1 := by omega
      have := ih (by omega)
      rw [e, chain_step (by omega)] at this
      exact .step this
  have := key ((chainF h k).length - 1) (by omega)
  rw [Nat.sub_self, chain_head h0] at this
  exact this
end
section
open Go Go.Sim
set_option maxRecDepth 100000
theorem Calm.nil : Calm [] := ⟨fun k hk => by simp at hk, fun k hk => by simp at hk⟩
theorem Calm.same {h h' : List Fault} (hc : Calm h) (hl : h'.length = h.length) (hx : ∀ k, k < h.length → (h'.getD k default).ctx = (h.getD k default).ctx) : Calm h' := by
  have e : ∀ a : Int, 0 ≤ a → a < h.length → ctxOf h' a = ctxOf h a := fun a a0 a1 => hx a.toNat (by omega)
  refine .of_ends (fun k hk => ?_) (fun k hk => ?_)
  · rw [hl] at hk ⊢; rw [hx k hk]; exact hc.ctx k hk
  · rw [hl] at hk
    have := hc.ends (k := k) (by omega) (by omega)
    refine Ends.ind (p := fun a => a < h.length → Ends (ctxOf h') a) (fun a q _ => .neg q) (fun a a0 q q1 => .step ?_) this (by omega)
    rw [e a a0 q1]
    exact q (hc.ctx a.toNat (by omega)).2
theorem Calm.add {h : List Fault} (hc : Calm h) {x : Fault} (hx : x.ctx = -1) : Calm (h ++ [x]) := by
  have e1 : ∀ a : Int, 0 ≤ a → a < h.length → ctxOf (h ++ [x]) a = ctxOf h a := fun a a0 a1 => by unfold ctxOf; rw [getD_app (by omega)]
  have e2 : ctxOf (h ++ [x]) h.length = -1 := by unfold ctxOf; simp [List.getD_eq_getElem?_getD, hx]
  refine .of_ends (fun k hk => ?_) (fun k hk => ?_)
  · rw [List.length_append, List.length_singleton] at hk ⊢
    show -1 ≤ ctxOf (h ++ [x]) (k : Int) ∧ ctxOf (h ++ [x]) (k : Int) < ((h.length + 1 : Nat) : Int)
    rcases Nat.lt_or_ge k h.length with q | q
    · rw [e1 k (by omega) (by omega)]
      have := hc.ctx k q
      unfold ctxOf
      simp only [Int.toNat_natCast]
      omega
    · have : k = h.length := by omega
      subst this
      rw [e2]; omega
  · rw [List.length_append, List.length_singleton] at hk
    rcases Nat.lt_or_ge k h.length with q | q
    · have := hc.ends (k := k) (by omega) (by omega)
      refine Ends.ind (p := fun a => a < h.length → Ends (ctxOf (h ++ [x])) a) (fun a q _ => .neg q) (fun a a0 q q1 => .step ?_) this (by omega)
      rw [e1 a a0 q1]
      exact q (hc.ctx a.toNat (by omega)).2
    · have : k = h.length := by omega
      subst this
      exact .step (by rw [e2]; exact .neg (by omega))
end
section
open Go Go.Sim
set_option maxRecDepth 100000

def Links (h : List Fault) : Prop := ∀ k, k < h.length → (h.getD k default).cause < h.length ∧ (h.getD k default).ctx < h.length
end
end
section
set_option maxRecDepth 100000
attribute [local go_sem ↓] aw_skip aw_ret aw_exit aw_region aw_draw aw_seq aw_block aw_loop aw_cond frz_nil frz_cons sq_normal sq_ret sq_exit exB_normal exB_ret exB_same exB_other retQ_ret retQ_normal ret0_ret ret0_normal ao_nil go1 g_move g_assign g_pick g_build g_load g_binOp g_unOp g_convert g_fieldAddr g_field g_indexAddr g_index g_extract g_lookup g_slice g_nilCheck g_len g_makeFunc h_call h_append h_alloc h_box h_buildSlice h_makeSlice h_store gV i_box i_buildSlice i_move i_assign i_build i_load i_binOp i_unOp i_convert i_fieldAddr i_field i_indexAddr i_index i_extract i_lookup i_makeMap i_mapUpdate i_slice i_nilCheck i_makeFunc i_len i_max i_min i_alloc i_makeSlice i_store i_append i_call i_pick boxI boxA buildSliceI buildSliceA makeSliceA makeMapA allocA storeA p_move p_assign p_pick p_build p_load p_binOp p_unOp p_convert p_fieldAddr p_field p_indexAddr p_index p_extract p_lookup p_makeMap p_mapUpdate p_slice p_nilCheck p_makeFunc p_len p_max p_min p_alloc p_box p_buildSlice p_makeSlice p_store p_append p_call x_nil x_go1 x_g0 x_g1 x_g2 x_g3 x_s0 x_s1 x_s2 x_s3 u_move u_assign u_pick u_build u_load u_binOp u_unOp u_convert u_fieldAddr u_field u_indexAddr u_index u_extract u_lookup u_slice u_nilCheck u_makeFunc u_len u_buildSlice
attribute [local go_sem] frzV_ptr frzV_sl frzK_some set_none set_other AHeap.set_self set_del set_set cnd_t cnd_f cnd_b retA_one retA_two retA_three retA_four retA_nil gIf_b mrgV_b mrgV_wh mrgV_U gIf_U gIf_wh mrgB_f mrgB_some mrgB_if wh_true wh_false keepA_some keepA_if gD_zero gD_succ gT_some bxA_t bxA_f callA_fn ev_tmp ev_const ev_global ev_func oc_bool oc_int oc_string oc_nil oc_nilptr oc_nilfunc cl_bool cl_int cl_string cl_nil updO_some updO_none upd_same upd_other init_at pickA_b pickA_wh selA_t selA_f selA_and selA_or selA_orn selA_orm selA_bb selA_ii beqt b_add b_sub b_mul b_and b_or b_xor b_eql b_neq b_lss b_leq b_gtr b_geq b_quo b_rem b_shr b_seql b_sneq b_sadd b_beql b_bneq b_aeql b_aneq u_not u_neg isConstOp eqA eqCellV List.getD_cons_zero List.getD_cons_succ List.map_cons List.map_nil List.nil_append List.cons_append List.append_nil if_true if_false Option.map_some Option.map_none ne_eq not_false_eq_true oneA ldv ld1v ld1s wr1s ldRow stRow row_lit row_agg row_vsl row_sl row_ptr row_fn one_I one_B one_S one_vsl one_sl one_ptr one_fn extractA okA rI rS rU rClass rFault rExit rStart rLine Int.toNat_natCast List.length_cons List.length_nil List.length_map List.all_cons List.all_nil Bool.and_true Nat.zero_add List.getElem?_cons_zero List.getElem?_cons_succ List.take_succ_cons List.take_zero List.drop_succ_cons List.drop_zero and_self true_and and_true implies_true decide_eq_true_eq decide_eq_false_iff_not Bool.or_eq_true Bool.or_eq_false_iff Bool.and_eq_true Bool.not_eq_true' Bool.not_eq_false' beq_false decide_true decide_false Int.ofNat_lt Int.ofNat_le Int.natCast_nonneg Bool.or_true Bool.or_false Bool.true_or Bool.false_or beq_self_eq_true List.drop_one Bool.not_true Bool.not_false Bool.not_not Bool.false_eq_true Bool.true_eq_false false_implies true_implies Bool.true_and Bool.false_and Bool.and_false not_true_eq_false Int.natCast_eq_zero Int.natCast_pos Int.natCast_zero false_and and_false or_false false_or or_true true_or Bool.or_self none_le_iff List.replicate_zero Int.toNat_zero List.replicate_succ buildRows List.set_cons_zero List.set_cons_succ List.set_nil List.mapM_nil maxLen_eq Nat.zero_le Nat.mul_one Nat.one_mul bldA fillA spliceA List.take_nil List.drop_nil List.getElem?_nil ld1o wr1o bldSliceA le_same ti1 ti2 tk2 ti3 te3 ts3 tk3 tz3 ti4 tb4 ti5 tk5 tz5 ti9 te9 ts9 tk9 tz9 ti12 tk12 ti13 tp13 tf13_0 tf13_1 ti20 ti21 tk21 tz21 ti22 te22 tz22 ti23 te23 ti24 tp24 tf24_0 ti25 tp25 tf25_0 ti26 te26 ti28 ti29 te29 ti30 te30 ti31 tp31 tf31_0 ti32 tp32 tf32_0 ti33 tp33 tf33_0 tf33_1 tf33_2 tf33_3 ti34 tp34 tf34_0 tf34_1 tf34_2 tf34_3 ti35 ti36 ti37 ti39 ti40 tq40 tp40 tf40_0 tf40_1 tf40_2 tf40_3 ti41 tq41 tp41 tf41_0 tf41_1 tf41_2 tf41_3 ti42 ti43 tq43 tp43 tf43_0 tf43_1 tf43_2 ti44 tq44 tp44 tf44_0 tf44_1 tf44_2 ti45 te45 ti46 tq46 tp46 tf46_0 tf46_1 tf46_2 ti47 tq47 tp47 tf47_0 tf47_1 tf47_2 ti49 ti50 ti51 ti53 ti54 ti55 ti56 te56 ti57 tp57 tf57_0 ti58 tp58 tf58_0 ti59 te59 ti60 ti61 ti62 ti63 ti64 ti65 ti66 ti67 ti68 ti69 ti70 ti71 te71 ti72 tq72 tp72 tf72_0 tf72_1 tf72_2 ti73 ti74 ti75 ti76 ti77 ti78 ti79 ti80 ti81 ti82 ti83 ti84 ti85 ti86 ti87 tq87 tp87 tf87_0 tf87_1 ti88 tq88 tp88 tf88_0 tf88_1 ti89 ti90 ti91 ti92 ti93 ti94 ti95 ti96 ti97 ti98 ti99 ti100 ti101 ti102 tq102 tp102 tf102_0 tf102_1 tf102_2 tf102_3 tf102_4 ti103 tq103 tp103 tf103_0 tf103_1 tf103_2 tf103_3 tf103_4 ti104 ti105 ti106 ti107 ti108 ti109 ti110 ti111 ti112 ti113 tq113 tp113 tf113_0 tf113_1 tf113_2 tf113_3 ti114 ti115 ti116 ti117 ti118 ti119 ti120 tq120 tp120 tf120_0 tf120_1 tf120_2 ti121 ti122 ti123 ti124 ti125 ti126 tp126 tf126_0 tf126_1 ti127 tp127 tf127_0 tf127_1 ti128 tp128 tf128_0 tf128_1 tf128_2 tf128_3 tf128_4 ti129 tp129 tf129_0 tf129_1 tf129_2 tf129_3 tf129_4 ti131 ti132 ti133 ti134 ti135 ti136 ti137 tp137 tf137_0 tf137_1 tf137_2 tf137_3 ti138 tp138 tf138_0 tf138_1 tf138_2 tf138_3 ti139 tq139 tp139 tf139_0 tf139_1 ti140 tq140 tp140 tf140_0 tf140_1 ti141 ti142 ti143 tq143 tp143 tf143_0 tf143_1 ti144 tq144 tp144 tf144_0 tf144_1 ti145 ti146 ti147 ti148 ti149 te149 ti150 ti151 te151 ti152 ti153 ti154 ti155 ti156 ti157 ti158 tp158 tf158_0 tf158_1 tf158_2 ti159 tp159 tf159_0 tf159_1 tf159_2 ti160 ti161 ti162 ti163 ti164 ti165 ti166 ti167 ti168 ti169 tq169 tp169 tf169_0 tf169_1 ti170 ti171 ti172 ti173 ti174 ti175 ti176 ti177 te177 ti178 ti179 ti180 ti181 ti182 ti183 ti184 ti185 ti186 ti187 ti188 ti189 ti190 ti191 ti192 ti193 ti194 ti195 ti196 ti197 ti198 ti199 ti200 ti201 ti202 ti203 ti204 ti205 tk205 tz205 ti206 ti207 ti208 ti209 tk209 ti211 ti212 ti213 ti215 ti216 ti217 tk217 tz217 ti218 ti219 tk219 tz219 ti220 tk220 ti221 ti222 ti223 ti224 ti225 ti226 ti228 ti229 ti235 ti239 ti244 fp13_0 fv13_0 fp13_1 fv13_1 fp24_0 fv24_0 fp25_0 fv25_0 fp31_0 fv31_0 fp32_0 fv32_0 fp33_0 fv33_0 fp33_1 fv33_1 fp33_2 fv33_2 fp33_3 fv33_3 fp34_0 fv34_0 fp34_1 fv34_1 fp34_2 fv34_2 fp34_3 fv34_3 fp40_0 fv40_0 fp40_1 fv40_1 fp40_2 fv40_2 fp40_3 fv40_3 fp41_0 fv41_0 fp41_1 fv41_1 fp41_2 fv41_2 fp41_3 fv41_3 fp43_0 fv43_0 fp43_1 fv43_1 fp43_2 fv43_2 fp44_0 fv44_0 fp44_1 fv44_1 fp44_2 fv44_2 fp46_0 fv46_0 fp46_1 fv46_1 fp46_2 fv46_2 fp47_0 fv47_0 fp47_1 fv47_1 fp47_2 fv47_2 fp57_0 fv57_0 fp58_0 fv58_0 fp72_0 fv72_0 fp72_1 fv72_1 fp72_2 fv72_2 fp87_0 fv87_0 fp87_1 fv87_1 fp88_0 fv88_0 fp88_1 fv88_1 fp102_0 fv102_0 fp102_1 fv102_1 fp102_2 fv102_2 fp102_3 fv102_3 fp102_4 fv102_4 fp103_0 fv103_0 fp103_1 fv103_1 fp103_2 fv103_2 fp103_3 fv103_3 fp103_4 fv103_4 fp113_0 fv113_0 fp113_1 fv113_1 fp113_2 fv113_2 fp113_3 fv113_3 fp120_0 fv120_0 fp120_1 fv120_1 fp120_2 fv120_2 fp126_0 fv126_0 fp126_1 fv126_1 fp127_0 fv127_0 fp127_1 fv127_1 fp128_0 fv128_0 fp128_1 fv128_1 fp128_2 fv128_2 fp128_3 fv128_3 fp128_4 fv128_4 fp129_0 fv129_0 fp129_1 fv129_1 fp129_2 fv129_2 fp129_3 fv129_3 fp129_4 fv129_4 fp137_0 fv137_0 fp137_1 fv137_1 fp137_2 fv137_2 fp137_3 fv137_3 fp138_0 fv138_0 fp138_1 fv138_1 fp138_2 fv138_2 fp138_3 fv138_3 fp139_0 fv139_0 fp139_1 fv139_1 fp140_0 fv140_0 fp140_1 fv140_1 fp143_0 fv143_0 fp143_1 fv143_1 fp144_0 fv144_0 fp144_1 fv144_1 fp158_0 fv158_0 fp158_1 fv158_1 fp158_2 fv158_2 fp159_0 fv159_0 fp159_1 fv159_1 fp159_2 fv159_2 fp169_0 fv169_0 fp169_1 fv169_1 lv22 ll22 is22 ix22 sh22 so22 sb22 sm22 sp22 lv23 ll23 is23 ix23 sh23 so23 sb23 sm23 sp23 lv26 ll26 is26 ix26 sh26 so26 sb26 sm26 sp26 lv29 ll29 is29 ix29 sh29 so29 sb29 sm29 sp29 lv30 ll30 is30 ix30 sh30 so30 sb30 sm30 sp30 lv45 ll45 is45 ix45 sh45 so45 sb45 sm45 sp45 lv56 ll56 is56 sp56 lv59 ll59 is59 sp59 lv71 ll71 is71 sp71 lv149 ll149 is149 sp149 lv151 ll151 is151 sp151 lv177 ll177 is177 ix177 sh177 so177 sb177 sm177 sp177 xs9 ls9 sx9 sy9 sz9
section
open Go Go.Sim
set_option maxRecDepth 100000
theorem Nums.nil (n : Nat) : Nums n [] where
  mem a ha := absurd ha (List.not_mem_nil)
  free := by have := freeN_nil n; simpa using this
end
section
open Go Go.Sim
set_option maxRecDepth 100000

def insR : List Int → Int → List Int
  | [], v => [v]
  | b :: out, v => if b < v then b :: insR out v else if b = v then b :: out else v :: b :: out
theorem insF_eq : ∀ (out : List Int) (v : Int), insF out v = insR out v
  | [], v => by simp [insF, insR, insK]
  | b :: out, v => by
    have ih := insF_eq out v
    unfold insR
    by_cases c : b < v
    · rw [if_pos c, ← ih]
      have hk : insK (b :: out) v = insK out v + 1 := by simp [insK, List.takeWhile_cons, c]
      unfold insF
      rw [hk]
      simp only [List.length_cons, List.getD_cons_succ, List.take_succ_cons, List.drop_succ_cons, Nat.add_right_cancel_iff]
      split <;> simp
    · rw [if_neg c]
      have hk : insK (b :: out) v = 0 := by simp [insK, List.takeWhile_cons, c]
      unfold insF
      rw [hk]
      by_cases e : b = v
      · rw [if_pos e, if_neg (by simp [e])]
      · rw [if_neg e, if_pos (by right; simpa using e)]
        simp
theorem insR_mem : ∀ {out : List Int} {v a : Int}, a ∈ insR out v ↔ a = v ∨ a ∈ out
  | [], v, a => by simp [insR]
  | b :: out, v, a => by
    unfold insR
    split
    · rw [List.mem_cons, insR_mem, List.mem_cons]
      constructor
      · rintro (q | q | q) <;> simp [q]
      · rintro (q | q | q) <;> simp [q]
    · split
      · rename_i e; subst e; simp
      · simp
theorem insR_asc : ∀ {out : List Int} {v : Int}, out.Pairwise (· < ·) → (insR out v).Pairwise (· < ·)
  | [], v, _ => by simp [insR]
  | b :: out, v, h => by
    obtain ⟨h1, h2⟩ := List.pairwise_cons.1 h
    unfold insR
    split
    · rename_i c
      refine .cons (fun a ha => ?_) (insR_asc h2)
      rcases insR_mem.1 ha with q | q
      · omega
      · exact h1 a q
    · split
      · exact h
      · rename_i c e
        refine .cons (fun a ha => ?_) h
        rcases List.mem_cons.1 ha with q | q
        · omega
        · have := h1 a q; omega
theorem fold_asc : ∀ (l out : List Int), out.Pairwise (· < ·) → (l.foldl insF out).Pairwise (· < ·) ∧ ∀ a, a ∈ l.foldl insF out ↔ a ∈ out ∨ a ∈ l
  | [], out, h => ⟨h, fun a => by simp⟩
  | v :: l, out, h => by
    rw [List.foldl_cons, insF_eq]
    obtain ⟨h1, h2⟩ := fold_asc l (insR out v) (insR_asc h)
    refine ⟨h1, fun a => ?_⟩
    rw [h2, insR_mem, List.mem_cons]
    constructor
    · rintro ((q | q) | q) <;> simp [q]
    · rintro (q | q | q) <;> simp [q]
theorem sortedF_asc (l : List Int) : (sortedF l).Pairwise (· < ·) := (fold_asc l [] .nil).1
theorem sortedF_iff {l : List Int} {a : Int} : a ∈ sortedF l ↔ a ∈ l := by
  have := (fold_asc l [] .nil).2 a
  simpa [sortedF] using this
/-- Numbers sorted, each once: told by what is in them. -/
theorem sort_ext {l m : List Int} (hl : l.Nodup) (h : ∀ a, a ∈ l ↔ a ∈ m) : sortI l = sortedF m := by
  have s1 : (sortI l).Pairwise (fun a b => a ≤ b) := by
    have := List.pairwise_mergeSort (le := fun x y : Int => decide (x ≤ y)) (fun a b c h1 h2 => by simp at *; omega) (fun a b => by simp; omega) l
    exact this.imp (fun h => by simpa using h)
  have a2 := sortedF_asc m
  have s2 : (sortedF m).Pairwise (fun a b => a ≤ b) := a2.imp (fun h => by omega)
  have n2 : (sortedF m).Nodup := a2.imp (fun h => by omega)
  have n1 : (sortI l).Nodup := (List.mergeSort_perm l _).nodup_iff.2 hl
  have pm : (sortI l).Perm (sortedF m) := (List.perm_ext_iff_of_nodup n1 n2).2 fun a => by rw [sortI_mem, sortedF_iff, h]
  exact pm.eq_of_pairwise (fun a b _ _ h1 h2 => by omega) s1 s2
/-- What a fault reaches. -/
inductive Rch (h : List Fault) (f : Int) : Int → Prop where
  | refl : Rch h f f
  | cause {a : Int} : Rch h f a → 0 ≤ causeOf h a → Rch h f (causeOf h a)
  | ctx {a : Int} : Rch h f a → 0 ≤ ctxOf h a → Rch h f (ctxOf h a)
theorem addF_mem {out : List Int} {g a : Int} : a ∈ addF out g ↔ a ∈ out ∨ (a = g ∧ 0 ≤ g) := by
  unfold addF
  by_cases c : 0 ≤ g ∧ (out.any fun x => decide (g = x)) = false
  · rw [if_pos c, List.mem_append, List.mem_singleton]
    constructor
    · rintro (q | q)
      · exact .inl q
      · exact .inr ⟨q, c.1⟩
    · rintro (q | q)
      · exact .inl q
      · exact .inr q.1
  · rw [if_neg c]
    refine ⟨.inl, ?_⟩
    rintro (q | ⟨rfl, q⟩)
    · exact q
    · have : ¬ (out.any fun x => decide (a = x)) = false := fun e => c ⟨q, e⟩
      simpa using this
theorem addF_nodup {out : List Int} {g : Int} (h : out.Nodup) : (addF out g).Nodup := by
  unfold addF
  split
  · rename_i c
    rw [List.nodup_append]
    refine ⟨h, by simp, fun a ha b hb => ?_⟩
    simp at hb; subst hb
    rintro rfl
    have := c.2
    rw [List.any_eq_false] at this
    exact this a ha (by simp)
  · exact h
theorem bfsG_clos {h : List Fault} (hlk : Links h) (f : Int) : ∀ (n i : Nat) (out : List Int), Nums h.length out → out.Nodup → h.length ≤ i + n → (∀ a ∈ out, Rch h f a) →
    (∀ j, j < i → j < out.length → (0 ≤ causeOf h (out.getD j default) → causeOf h (out.getD j default) ∈ out) ∧ (0 ≤ ctxOf h (out.getD j default) → ctxOf h (out.getD j default) ∈ out)) →
    (∀ a ∈ out, a ∈ bfsG h n i out) ∧ (bfsG h n i out).Nodup ∧ (∀ a ∈ bfsG h n i out, Rch h f a) ∧ (∀ a ∈ bfsG h n i out, (0 ≤ causeOf h a → causeOf h a ∈ bfsG h n i out) ∧ (0 ≤ ctxOf h a → ctxOf h a ∈ bfsG h n i out)) := by
  have stop : ∀ (i : Nat) (out : List Int), out.length ≤ i → (∀ j, j < i → j < out.length → (0 ≤ causeOf h (out.getD j default) → causeOf h (out.getD j default) ∈ out) ∧ (0 ≤ ctxOf h (out.getD j default) → ctxOf h (out.getD j default) ∈ out)) →
      ∀ a ∈ out, (0 ≤ causeOf h a → causeOf h a ∈ out) ∧ (0 ≤ ctxOf h a → ctxOf h a ∈ out) := by
    intro i out hi hj a ha
    obtain ⟨j, hj1, rfl⟩ := List.mem_iff_getElem.1 ha
    have := hj j (by omega) hj1
    simpa [List.getD_eq_getElem?_getD, hj1] using this
  intro n
  induction n with
  | zero =>
    intro i out hn hd hl hr hj
    have := hn.free
    exact ⟨fun a ha => ha, hd, hr, stop i out (by omega) hj⟩
  | succ n ih =>
    intro i out hn hd hl hr hj
    simp only [bfsG]
    by_cases c : i < out.length
    · rw [if_pos c]
      have hm : out.getD i default ∈ out := by rw [List.getD_eq_getElem?_getD, List.getElem?_eq_getElem c]; exact List.getElem_mem c
      have hmm := hn.mem _ hm
      have hk := hlk (out.getD i default).toNat (by omega)
      have hri := hr _ hm
      generalize hg : out.getD i default = v at hm hmm hk hri
      have hN := (hn.add (g := causeOf h v) hk.1).add (g := ctxOf h v) hk.2
      have keep : ∀ a ∈ out, a ∈ addF (addF out (causeOf h v)) (ctxOf h v) := fun a ha => addF_mem.2 (.inl (addF_mem.2 (.inl ha)))
      have pre : ∀ (o : List Int) (g : Int) (j : Nat), j < o.length → (addF o g).getD j default = o.getD j default := by
        intro o g j hjo
        unfold addF
        split
        · rw [getD_app hjo]
        · rfl
      have l1 := addF_len out (causeOf h v)
      obtain ⟨b1, b2, b3, b4⟩ := ih (i + 1) (addF (addF out (causeOf h v)) (ctxOf h v)) hN (addF_nodup (addF_nodup hd)) (by omega) (fun a ha => by
        rcases addF_mem.1 ha with q | ⟨e, q⟩
        · rcases addF_mem.1 q with q1 | ⟨e1, q1⟩
          · exact hr a q1
          · rw [e1]; exact .cause hri q1
        · rw [e]; exact .ctx hri q) (fun j hj1 hj2 => by
        have hjo : j < out.length := by omega
        rw [pre _ _ j (by omega), pre _ _ j hjo]
        by_cases e : j = i
        · subst e
          rw [hg]
          exact ⟨fun q => addF_mem.2 (.inl (addF_mem.2 (.inr ⟨rfl, q⟩))), fun q => addF_mem.2 (.inr ⟨rfl, q⟩)⟩
        · have := hj j (by omega) hjo
          exact ⟨fun q => keep _ (this.1 q), fun q => keep _ (this.2 q)⟩)
      exact ⟨fun a ha => b1 a (keep a ha), b2, b3, b4⟩
    · rw [if_neg c]
      exact ⟨fun a ha => ha, hd, hr, stop i out (by omega) hj⟩
theorem bfsF_iff {h : List Fault} (hlk : Links h) {f : Int} (h0 : 0 ≤ f) (hf : f < h.length) : (bfsF h f).Nodup ∧ ∀ a, a ∈ bfsF h f ↔ Rch h f a := by
  obtain ⟨b1, b2, b3, b4⟩ := bfsG_clos hlk f (h.length + 1) 0 [f] (Nums.one h0 hf) (by simp) (by omega) (fun a ha => by simp at ha; subst ha; exact .refl) (fun j hj => by omega)
  refine ⟨b2, fun a => ⟨b3 a, fun r => ?_⟩⟩
  induction r with
  | refl => exact b1 f (by simp)
  | cause _ q ih => exact (b4 _ ih).1 q
  | ctx _ q ih => exact (b4 _ ih).2 q
end
section
open Go Go.Sim
set_option maxRecDepth 100000

theorem validH_all {t : List Class} {h : List Fault} (hv : validH t h = true) : (List.range h.length).all (faultOk t h) = true ∧ (List.range h.length).all (lastOk h) = true ∧ validT t = true ∧ h.length ≤ 24 := by
  simpa only [validH, Bool.and_eq_true, decide_eq_true_eq] using hv
end
section
open Go Go.Sim
set_option maxRecDepth 100000

/-- Where a number stands in a list; -1 if it does not. -/
def posF (S : List Int) (a : Int) : Int := idxF (fun x => decide (a = x)) S
theorem posF_mem {S : List Int} {a : Int} (h : a ∈ S) : 0 ≤ posF S a ∧ posF S a < S.length ∧ S.getD (posF S a).toNat default = a := by
  unfold posF
  induction S with
  | nil => cases h
  | cons b S ih =>
    simp only [idxF]
    by_cases e : a = b
    · rw [if_pos (by simpa using e)]
      refine ⟨by omega, by simp only [List.length_cons]; omega, ?_⟩
      show (b :: S).getD 0 default = a
      rw [List.getD_cons_zero, e]
    · have hm : a ∈ S := by
        rcases List.mem_cons.1 h with q | q
        · exact absurd q e
        · exact q
      obtain ⟨i1, i2, i3⟩ := ih hm
      rw [if_neg (by simpa using e), if_neg (by omega)]
      refine ⟨by omega, by simp only [List.length_cons]; omega, ?_⟩
      have : (idxF (fun x => decide (a = x)) S + 1).toNat = (idxF (fun x => decide (a = x)) S).toNat + 1 := by omega
      rw [this, List.getD_cons_succ, i3]
theorem posF_none {S : List Int} {a : Int} (h : a ∉ S) : posF S a = -1 := by
  unfold posF
  rw [idxF_neg, List.any_eq_false]
  intro x hx
  have : ¬ a = x := by rintro rfl; exact h hx
  simpa using this
theorem posF_inj {S : List Int} {a b : Int} (ha : a ∈ S) (hb : b ∈ S) (h : posF S a = posF S b) : a = b := by
  have h1 := (posF_mem ha).2.2
  have h2 := (posF_mem hb).2.2
  rw [h] at h1
  rw [← h1, h2]
theorem posF_at {S : List Int} (hd : S.Nodup) {k : Nat} (hk : k < S.length) : posF S (S.getD k default) = k := by
  have hm : S.getD k default ∈ S := by rw [List.getD_eq_getElem?_getD, List.getElem?_eq_getElem hk]; exact List.getElem_mem hk
  obtain ⟨h1, h2, h3⟩ := posF_mem hm
  obtain ⟨j, hj⟩ : ∃ j : Nat, posF S (S.getD k default) = j := ⟨(posF S (S.getD k default)).toNat, by omega⟩
  rw [hj] at h1 h2 h3 ⊢
  have hj2 : j < S.length := by omega
  rw [Int.toNat_natCast, List.getD_eq_getElem?_getD, List.getD_eq_getElem?_getD, List.getElem?_eq_getElem hj2, List.getElem?_eq_getElem hk] at h3
  have h4 : S[j] = S[k] := by simpa using h3
  rcases Nat.lt_trichotomy j k with q | q | q
  · exact absurd h4 ((List.pairwise_iff_getElem.1 hd) j k hj2 hk q)
  · omega
  · exact absurd h4.symm ((List.pairwise_iff_getElem.1 hd) k j hk hj2 q)
theorem isoL_len (h : List Fault) (S : List Int) : (isoL h S).length = S.length := by simp [isoL]
theorem isoL_at {h : List Fault} {S : List Int} {k : Nat} (hk : k < S.length) : (isoL h S).getD k default = isoAt h S (S.getD k default) := by
  simp [isoL, List.getD_eq_getElem?_getD, hk]
theorem iso_cause {h : List Fault} {S : List Int} {a : Int} (ha : a ∈ S) : causeOf (isoL h S) (posF S a) = posF S (causeOf h a) := by
  obtain ⟨h1, h2, h3⟩ := posF_mem ha
  unfold causeOf
  rw [isoL_at (by omega), h3]
  rfl
theorem iso_ctx {h : List Fault} {S : List Int} {a : Int} (ha : a ∈ S) : ctxOf (isoL h S) (posF S a) = posF S (ctxOf h a) := by
  obtain ⟨h1, h2, h3⟩ := posF_mem ha
  unfold ctxOf
  rw [isoL_at (by omega), h3]
  rfl
theorem walk_iso {S : List Int} {n : Nat} (hS : ∀ a ∈ S, 0 ≤ a ∧ a < n) {nx nx' : Int → Int} (hnx : ∀ a ∈ S, nx a ∈ S ∨ nx a < 0) (hiso : ∀ a ∈ S, nx' (posF S a) = posF S (nx a)) :
    ∀ (fuel fuel' : Nat) (out : List Int) (f : Int), (f ∈ S ∨ f < 0) → (∀ a ∈ out, a ∈ S) → freeN n out < fuel → freeN S.length (out.map (posF S)) < fuel' → walkG nx' fuel' (out.map (posF S)) (posF S f) = (walkG nx fuel out f).map (posF S)
  | 0, fuel', out, f, _, _, h1, _ => by omega
  | fuel + 1, 0, out, f, _, _, _, h2 => by omega
  | fuel + 1, fuel' + 1, out, f, hf, ho, h1, h2 => by
    simp only [walkG]
    rcases hf with hf | hf
    · have hp := posF_mem hf
      have hany : ((out.map (posF S)).any fun x => decide (posF S f = x)) = (out.any fun x => decide (f = x)) := by
        rw [List.any_map, Bool.eq_iff_iff, List.any_eq_true, List.any_eq_true]
        constructor
        · rintro ⟨a, ha, q⟩
          exact ⟨a, ha, by simp only [Function.comp, decide_eq_true_eq] at q; simpa using posF_inj hf (ho a ha) q⟩
        · rintro ⟨a, ha, q⟩
          exact ⟨a, ha, by simp only [decide_eq_true_eq] at q; subst q; simp⟩
      rw [hany]
      cases hb : out.any fun x => decide (f = x)
      · rw [if_pos ⟨hp.1, rfl⟩, if_pos ⟨(hS f hf).1, rfl⟩, hiso f hf]
        have l1 := freeN_lt (hS f hf).1 (hS f hf).2 hb
        have l2 := freeN_lt (out := out.map (posF S)) hp.1 hp.2.1 (by rw [hany, hb])
        have e : out.map (posF S) ++ [posF S f] = (out ++ [f]).map (posF S) := by simp
        rw [e] at l2 ⊢
        refine walk_iso hS hnx hiso fuel fuel' (out ++ [f]) (nx f) (hnx f hf) (fun a ha => ?_) (by omega) (by omega)
        rcases List.mem_append.1 ha with q | q
        · exact ho a q
        · simp at q; subst q; exact hf
      · rw [if_neg (fun q => by cases q.2), if_neg (fun q => by cases q.2)]
    · have hn : f ∉ S := fun q => by have := hS f q; omega
      rw [posF_none hn, if_neg (by omega), if_neg (by omega)]
/-- What a set of faults reaches is in it. -/
structure Closed (h : List Fault) (S : List Int) : Prop where
  mem : ∀ a ∈ S, 0 ≤ a ∧ a < h.length
  cause : ∀ a ∈ S, causeOf h a ∈ S ∨ causeOf h a < 0
  ctx : ∀ a ∈ S, ctxOf h a ∈ S ∨ ctxOf h a < 0
theorem Closed.pos {h : List Fault} {S : List Int} (hc : Closed h S) {b : Int} (hb : b ∈ S ∨ b < 0) : (0 ≤ posF S b ↔ 0 ≤ b) ∧ (b < 0 → posF S b = -1) := by
  rcases hb with q | q
  · have h1 := (posF_mem q).1
    have h2 := (hc.mem b q).1
    exact ⟨⟨fun _ => h2, fun _ => h1⟩, fun w => by omega⟩
  · have hn : b ∉ S := fun w => by have := (hc.mem b w).1; omega
    rw [posF_none hn]
    exact ⟨⟨fun w => by omega, fun w => by omega⟩, fun _ => rfl⟩
theorem closed_reach {h : List Fault} (hlk : Links h) {f : Int} (h0 : 0 ≤ f) (hf : f < h.length) : Closed h (sortI (bfsF h f)) ∧ f ∈ sortI (bfsF h f) ∧ (sortI (bfsF h f)).Nodup := by
  obtain ⟨b1, b2⟩ := bfsF_iff hlk h0 hf
  have hn := bfsF_nums hlk h0 hf
  have m : ∀ a, a ∈ sortI (bfsF h f) ↔ Rch h f a := fun a => by rw [sortI_mem, b2]
  refine ⟨⟨fun a ha => hn.mem a (sortI_mem.1 ha), fun a ha => ?_, fun a ha => ?_⟩, (m f).2 .refl, (List.mergeSort_perm _ _).nodup_iff.2 b1⟩
  · by_cases c : causeOf h a < 0
    · exact .inr c
    · exact .inl ((m _).2 (.cause ((m a).1 ha) (by omega)))
  · by_cases c : ctxOf h a < 0
    · exact .inr c
    · exact .inl ((m _).2 (.ctx ((m a).1 ha) (by omega)))
theorem Closed.links {h : List Fault} {S : List Int} (hd : S.Nodup) : Links (isoL h S) := by
  intro k hk
  rw [isoL_len] at hk ⊢
  rw [isoL_at hk]
  exact ⟨idxF_lt _ _, idxF_lt _ _⟩
theorem Closed.rch {h : List Fault} {S : List Int} (hc : Closed h S) {f a : Int} (hf : f ∈ S) (r : Rch h f a) : a ∈ S ∧ Rch (isoL h S) (posF S f) (posF S a) := by
  induction r with
  | refl => exact ⟨hf, .refl⟩
  | @cause a r q ih =>
    obtain ⟨i1, i2⟩ := ih
    have hm := (hc.cause a i1).resolve_right (by omega)
    refine ⟨hm, ?_⟩
    rw [← iso_cause i1]
    exact .cause i2 (by rw [iso_cause i1]; exact (posF_mem hm).1)
  | @ctx a r q ih =>
    obtain ⟨i1, i2⟩ := ih
    have hm := (hc.ctx a i1).resolve_right (by omega)
    refine ⟨hm, ?_⟩
    rw [← iso_ctx i1]
    exact .ctx i2 (by rw [iso_ctx i1]; exact (posF_mem hm).1)
/-- The isolated heap is reached whole: sorted, it is all numbers in order. -/
theorem reach_all {h : List Fault} (hlk : Links h) {f : Int} (h0 : 0 ≤ f) (hf : f < h.length) :
    sortI (bfsF (isoL h (sortI (bfsF h f))) (posF (sortI (bfsF h f)) f)) = (List.range (sortI (bfsF h f)).length).map (fun (k : Nat) => (k : Int)) := by
  obtain ⟨hc, hm, hd⟩ := closed_reach hlk h0 hf
  have hall : ∀ a ∈ sortI (bfsF h f), Rch h f a := fun a ha => ((bfsF_iff hlk h0 hf).2 a).1 (sortI_mem.1 ha)
  generalize hS : sortI (bfsF h f) = S at hc hm hd hall ⊢
  obtain ⟨p1, p2, p3⟩ := posF_mem hm
  have hl2 : Links (isoL h S) := Closed.links hd
  obtain ⟨b1, b2⟩ := bfsF_iff hl2 p1 (by rw [isoL_len]; exact p2)
  have hn := bfsF_nums hl2 p1 (by rw [isoL_len]; exact p2)
  have s2 : ((List.range S.length).map (fun (k : Nat) => (k : Int))).Pairwise (fun a b => a < b) := by
    rw [List.pairwise_map]
    exact List.pairwise_lt_range.imp (fun q => by omega)
  have hsf : sortedF ((List.range S.length).map (fun (k : Nat) => (k : Int))) = (List.range S.length).map (fun (k : Nat) => (k : Int)) := by
    have a2 := sortedF_asc ((List.range S.length).map (fun (k : Nat) => (k : Int)))
    have pm : (sortedF ((List.range S.length).map (fun (k : Nat) => (k : Int)))).Perm ((List.range S.length).map (fun (k : Nat) => (k : Int))) :=
      (List.perm_ext_iff_of_nodup (a2.imp (fun q => by omega)) (s2.imp (fun q => by omega))).2 fun a => sortedF_iff
    exact pm.eq_of_pairwise (fun a b _ _ q1 q2 => by omega) (a2.imp (fun q => Int.le_of_lt q)) (s2.imp (fun q => Int.le_of_lt q))
  rw [← hsf]
  refine sort_ext b1 fun a => ?_
  rw [List.mem_map]
  constructor
  · intro ha
    have := hn.mem a ha
    rw [isoL_len] at this
    exact ⟨a.toNat, by simp; omega, by omega⟩
  · rintro ⟨k, hk, rfl⟩
    rw [List.mem_range] at hk
    rw [b2, ← posF_at hd hk]
    have hkm : S.getD k default ∈ S := by rw [List.getD_eq_getElem?_getD, List.getElem?_eq_getElem hk]; exact List.getElem_mem hk
    exact (hc.rch hm (hall _ hkm)).2
def natsF (n : Nat) : List Int := (List.range n).map (fun (k : Nat) => (k : Int))
theorem Closed.last {h : List Fault} {S : List Int} (hc : Closed h S) (hcm : Calm h) {a : Int} (ha : a ∈ S) : ctxOf (isoL h S) (lastI (chainF (isoL h S) (posF S a))) = -1 := by
  have hw : chainF (isoL h S) (posF S a) = (chainF h a).map (posF S) := by
    unfold chainF
    rw [isoL_len]
    exact walk_iso (S := S) (n := h.length) hc.mem (nx := ctxOf h) (nx' := ctxOf (isoL h S)) hc.ctx (fun a ha => iso_ctx ha) (h.length + 1) (S.length + 1) [] a (.inl ha) (fun a ha => by cases ha) (by have := freeN_nil h.length; omega) (by have := freeN_nil S.length; simp only [List.map_nil]; omega)
  have h0 := hc.mem a ha
  have hne := List.length_pos_iff.2 (chainF_ne (h := h) h0.1)
  have hl : (chainF h a).length - 1 < (chainF h a).length := by omega
  have hmem : ∀ b ∈ chainF h a, b ∈ S := by
    intro b hb
    have key := walkG_mem (nx := ctxOf h) (p := fun a => a ∈ S ∨ a < 0) (fun a a0 ha => hc.ctx a (ha.resolve_right (by omega))) (h.length + 1) [] a (.inl ha) b hb
    rcases key with q | ⟨q0, q⟩
    · cases q
    · exact q.resolve_right (by omega)
  have hlm : lastI (chainF h a) ∈ S := hmem _ (by unfold lastI; rw [List.getD_eq_getElem?_getD, List.getElem?_eq_getElem hl]; exact List.getElem_mem hl)
  have e : lastI ((chainF h a).map (posF S)) = posF S (lastI (chainF h a)) := by
    unfold lastI
    rw [List.length_map, List.getD_eq_getElem?_getD, List.getD_eq_getElem?_getD, List.getElem?_map, List.getElem?_eq_getElem hl]; rfl
  have hlast := hcm.last a.toNat (by omega)
  rw [lastOk, decide_eq_true_eq, Int.toNat_of_nonneg h0.1] at hlast
  rw [hw, e, iso_ctx hlm, hlast]
  exact (hc.pos (.inr (by omega))).2 (by omega)
theorem valid_isoG {t : List Class} {h : List Fault} {S : List Int} (v1 : (List.range h.length).all (faultOk t h) = true) (hcm : Calm h) (v3 : validT t = true) (hc : Closed h S) (hd : S.Nodup) (hlen : S.length ≤ 24) : validH t (isoL h S) = true := by
  have link : ∀ (k : Nat), k < S.length → ∀ b : Int, (b ∈ S ∨ b < 0) → b ≠ S.getD k default → linkF S.length k (posF S b) = true := by
    intro k hk b hb hne
    have hkm : S.getD k default ∈ S := by rw [List.getD_eq_getElem?_getD, List.getElem?_eq_getElem hk]; exact List.getElem_mem hk
    rcases hb with q | q
    · obtain ⟨p1, p2, p3⟩ := posF_mem q
      have hne2 : ¬ posF S b = k := fun e => hne (posF_inj q hkm (by rw [e, posF_at hd hk]))
      simp only [linkF, inR, Bool.or_eq_true, Bool.and_eq_true, decide_eq_true_eq, Bool.not_eq_true', decide_eq_false_iff_not]
      omega
    · rw [(hc.pos (.inr q)).2 q]; simp [linkF]
  simp only [validH, Bool.and_eq_true, decide_eq_true_eq, List.all_eq_true, List.mem_range, isoL_len]
  refine ⟨fun k hk => ?_, fun k hk => ?_, v3, hlen⟩
  · have hkm : S.getD k default ∈ S := by rw [List.getD_eq_getElem?_getD, List.getElem?_eq_getElem hk]; exact List.getElem_mem hk
    have hin := hc.mem _ hkm
    have hf := (List.all_eq_true.1 v1) (S.getD k default).toNat (List.mem_range.2 (by omega))
    simp only [faultOk, Bool.and_eq_true] at hf ⊢
    rw [isoL_at hk, isoL_len]
    have n1 : causeOf h (S.getD k default) ≠ S.getD k default := by
      have := hf.1.2
      unfold causeOf
      simp only [linkF, inR, Bool.or_eq_true, Bool.and_eq_true, decide_eq_true_eq, Bool.not_eq_true', decide_eq_false_iff_not] at this
      omega
    have n2 : ctxOf h (S.getD k default) ≠ S.getD k default := by
      have := hf.2
      unfold ctxOf
      simp only [linkF, inR, Bool.or_eq_true, Bool.and_eq_true, decide_eq_true_eq, Bool.not_eq_true', decide_eq_false_iff_not] at this
      omega
    exact ⟨⟨hf.1.1, link k hk _ (hc.cause _ hkm) n1⟩, link k hk _ (hc.ctx _ hkm) n2⟩
  · have hkm : S.getD k default ∈ S := by rw [List.getD_eq_getElem?_getD, List.getElem?_eq_getElem hk]; exact List.getElem_mem hk
    have := hc.last hcm hkm
    rw [posF_at hd hk] at this
    rw [lastOk, decide_eq_true_eq]
    exact this
end
section
open Go Go.Sim
set_option maxRecDepth 100000

theorem calm_heap {fs : List Fault} (ho : heapOk fs) : Calm fs := by
  refine .of_ends (fun k hk => by have := ho k hk; omega) (fun k hk => ?_)
  have key : ∀ n : Nat, ∀ k : Nat, k < n → k < fs.length → Ends (ctxOf fs) k := by
    intro n
    induction n with
    | zero => intro k hk; omega
    | succ n ih =>
      intro k hk hl
      obtain ⟨o1, o2, o3⟩ := ho k hl
      refine .step ?_
      have e : ctxOf fs k = (fs.getD k default).ctx := by unfold ctxOf; rw [Int.toNat_natCast]
      rw [e]
      by_cases c : (fs.getD k default).ctx < 0
      · exact .neg c
      · obtain ⟨m, hm⟩ : ∃ m : Nat, (fs.getD k default).ctx = m := ⟨(fs.getD k default).ctx.toNat, by omega⟩
        rw [hm]
        exact ih m (by omega) (by omega)
  exact key (k + 1) k (by omega) hk
/-- What a program ends with. -/
structure RunOut (t : List Class) (r : En × RS) (R : Res) : Prop where
  valid : validH t R.heap = true
  low : 0 ≤ R.val
  high : R.val < R.heap.length
  reach : sortI (bfsF R.heap R.val) = natsF R.heap.length
  cls : (R.heap.getD R.val.toNat default).cls = clsOf r.2 r.1.val
  code : (R.heap.getD R.val.toNat default).code = (r.2.fs.getD r.1.val.toNat default).code
theorem run_out {t : List Class} {r : En × RS} (ht : validT t = true) (hf : FsOk t r.2.fs) (h2 : r.1.ed = 2) (h0 : 0 ≤ r.1.val) (h1 : r.1.val < r.2.fs.length) (hd : dep r.2.fs r.1.val ≤ 24) : RunOut t r (resOf r) := by
  have ho := hf.ho
  have hlk : Links r.2.fs := heapOk_links ho
  obtain ⟨hc, hm, hn⟩ := closed_reach hlk h0 h1
  have hra := reach_all hlk h0 h1
  have hlen : (sortI (bfsF r.2.fs r.1.val)).length ≤ 24 := by
    rw [sort_dch ho h0 h1, List.length_reverse]; exact hd
  rw [res_two h2]
  unfold isoR
  generalize sortI (bfsF r.2.fs r.1.val) = S at hc hm hn hra hlen ⊢
  obtain ⟨p1, p2, p3⟩ := posF_mem hm
  have hat : (isoL r.2.fs S).getD (posF S r.1.val).toNat default = isoAt r.2.fs S r.1.val := by rw [isoL_at (by omega), p3]
  refine ⟨?_, p1, ?_, ?_, ?_, ?_⟩
  · refine valid_isoG ?_ (calm_heap ho) ht hc hn hlen
    rw [List.all_eq_true]
    intro k hk
    have hk' := List.mem_range.1 hk
    obtain ⟨o1, o2, o3⟩ := ho k hk'
    obtain ⟨c1, c2⟩ := hf.cls k hk'
    simp only [faultOk, Bool.and_eq_true]
    refine ⟨⟨⟨c1, c2⟩, ?_⟩, ?_⟩
    · rw [o1]; simp [linkF]
    · simp only [linkF, inR, Bool.or_eq_true, Bool.and_eq_true, decide_eq_true_eq, Bool.not_eq_true', decide_eq_false_iff_not]
      omega
  · show posF S r.1.val < (isoL r.2.fs S).length
    rw [isoL_len]; exact p2
  · show sortI (bfsF (isoL r.2.fs S) (posF S r.1.val)) = natsF (isoL r.2.fs S).length
    rw [hra, isoL_len]; rfl
  · show ((isoL r.2.fs S).getD (posF S r.1.val).toNat default).cls = _
    rw [hat]; rfl
  · show ((isoL r.2.fs S).getD (posF S r.1.val).toNat default).code = _
    rw [hat]; rfl
end
section
open Go Go.Sim
set_option maxRecDepth 100000
/-- The classes ahead in a try, behind a line. -/
def csN (k a : Int) (cs : List Int) : List Int := if k = 8 then cs ++ [a] else if followsK k = true then cs else []
/-- A line that never catches. -/
def deadK (t : List Class) (k a : Int) (cs : List Int) : Bool := decide (k = 8) && cs.any fun c => isF t a c
theorem tryG_cons {last k : Int} {ks : List Int} (h : tryG last (k :: ks) = true) : ((k = 8 ∧ last ≤ 8) ∨ (k = 9 ∧ last = 8) ∨ (k = 10 ∧ last < 10)) ∧ tryG k ks = true := by
  simpa [tryG] using h
/-! ### Runs -/
end
section
open Go Go.Sim
set_option maxRecDepth 100000

theorem jumpsK_iff {k : Int} : jumpsK k = true ↔ 2 ≤ k ∧ k ≤ 6 := by simp only [jumpsK, inR, Bool.and_eq_true, decide_eq_true_eq]
theorem followsK_iff {k : Int} : followsK k = true ↔ 8 ≤ k ∧ k ≤ 10 := by simp only [followsK, inR, Bool.and_eq_true, decide_eq_true_eq]
/-! ### Lines that cannot be run -/
/-- Of each line whether it cannot be run; 'sh': its block is never run; 'seen': a jump is ahead of it in its block. -/
def dlF (t : List Class) : Fo → Bool → Bool → List Int → List Bool
  | .nil, _, _, _ => []
  | .node k a b kids rest, sh, seen, cs =>
    (sh || (seen || deadK t k a cs)) :: (dlF t kids ((sh || (seen || deadK t k a cs)) || (decide (k = 12) && decide (a = 0))) false [] ++ dlF t rest sh (seen || jumpsK k) (csN k a cs))
theorem dl_len (t : List Class) : ∀ (f : Fo) (sh seen : Bool) (cs : List Int), (dlF t f sh seen cs).length = f.size
  | .nil, _, _, _ => rfl
  | .node k a b kids rest, sh, seen, cs => by simp only [dlF, List.length_cons, List.length_append, dl_len t kids, dl_len t rest, Fo.size]; omega
noncomputable def deadsP (t : List Class) (p : List Line) : List Bool := dlF t (forestP p) false false []
end
end
end Go.Proofs.YtjpfgafdjlkblaaGreat
