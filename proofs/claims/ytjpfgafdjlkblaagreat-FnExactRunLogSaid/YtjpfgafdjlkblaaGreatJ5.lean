/- Walks and plain laws that the claims of this seat lean on. No condition. -/
import Derived.Test.YtjpfgafdjlkblaaGreatJ4
set_option linter.unusedVariables false
set_option linter.unusedSimpArgs false
namespace Go.Proofs.YtjpfgafdjlkblaaGreat
open Go Go.Sim
section
set_option maxRecDepth 100000
attribute [local go_sem ↓] aw_skip aw_ret aw_exit aw_region aw_draw aw_seq aw_block aw_loop aw_cond frz_nil frz_cons sq_normal sq_ret sq_exit exB_normal exB_ret exB_same exB_other retQ_ret retQ_normal ret0_ret ret0_normal ao_nil go1 g_move g_assign g_pick g_build g_load g_binOp g_unOp g_convert g_fieldAddr g_field g_indexAddr g_index g_extract g_lookup g_slice g_nilCheck g_len g_makeFunc h_call h_append h_alloc h_box h_buildSlice h_makeSlice h_store gV i_box i_buildSlice i_move i_assign i_build i_load i_binOp i_unOp i_convert i_fieldAddr i_field i_indexAddr i_index i_extract i_lookup i_makeMap i_mapUpdate i_slice i_nilCheck i_makeFunc i_len i_max i_min i_alloc i_makeSlice i_store i_append i_call i_pick boxI boxA buildSliceI buildSliceA makeSliceA makeMapA allocA storeA p_move p_assign p_pick p_build p_load p_binOp p_unOp p_convert p_fieldAddr p_field p_indexAddr p_index p_extract p_lookup p_makeMap p_mapUpdate p_slice p_nilCheck p_makeFunc p_len p_max p_min p_alloc p_box p_buildSlice p_makeSlice p_store p_append p_call x_nil x_go1 x_g0 x_g1 x_g2 x_g3 x_s0 x_s1 x_s2 x_s3 u_move u_assign u_pick u_build u_load u_binOp u_unOp u_convert u_fieldAddr u_field u_indexAddr u_index u_extract u_lookup u_slice u_nilCheck u_makeFunc u_len u_buildSlice x_s4 x_g4 rq_normal rq_ret rq_exit aw_range
attribute [local go_sem] frzV_sl frzK_some set_none set_other AHeap.set_self set_del set_set cnd_t cnd_f cnd_b retA_one retA_two retA_three retA_four retA_nil gIf_b mrgV_b mrgV_wh mrgV_U gIf_U gIf_wh mrgB_f mrgB_some mrgB_if wh_true wh_false keepA_some keepA_if gD_zero gD_succ gT_some bxA_t bxA_f callA_fn ev_tmp ev_const ev_global ev_func oc_bool oc_int oc_string oc_nil oc_nilptr oc_nilfunc cl_bool cl_int cl_string cl_nil updO_some updO_none upd_same upd_other init_at pickA_b pickA_wh selA_t selA_f selA_and selA_or selA_orn selA_orm selA_bb selA_ii beqt b_add b_sub b_mul b_and b_or b_xor b_eql b_neq b_lss b_leq b_gtr b_geq b_quo b_rem b_shr b_seql b_sneq b_sadd b_beql b_bneq b_aeql b_aneq u_not u_neg isConstOp eqA eqCellV List.getD_cons_zero List.getD_cons_succ List.map_cons List.map_nil List.nil_append List.cons_append List.append_nil if_true if_false Option.map_some Option.map_none ne_eq not_false_eq_true oneA ldv ld1v ld1s wr1s ldRow stRow row_lit row_agg row_vsl row_sl row_ptr row_fn one_I one_B one_S one_vsl one_sl one_ptr one_fn extractA okA rI rS rU rClass rFault rExit rStart rLine Int.toNat_natCast List.length_cons List.length_nil List.length_map List.all_cons List.all_nil Bool.and_true Nat.zero_add List.getElem?_cons_zero List.getElem?_cons_succ List.take_succ_cons List.take_zero List.drop_succ_cons List.drop_zero and_self true_and and_true implies_true decide_eq_true_eq decide_eq_false_iff_not Bool.or_eq_true Bool.or_eq_false_iff Bool.and_eq_true Bool.not_eq_true' Bool.not_eq_false' beq_false decide_true decide_false Int.ofNat_lt Int.ofNat_le Int.natCast_nonneg Bool.or_true Bool.or_false Bool.true_or Bool.false_or beq_self_eq_true List.drop_one Bool.not_true Bool.not_false Bool.not_not Bool.false_eq_true Bool.true_eq_false false_implies true_implies Bool.true_and Bool.false_and Bool.and_false not_true_eq_false Int.natCast_eq_zero Int.natCast_pos Int.natCast_zero false_and and_false or_false false_or or_true true_or Bool.or_self none_le_iff List.replicate_zero Int.toNat_zero List.replicate_succ buildRows List.set_cons_zero List.set_cons_succ List.set_nil List.mapM_nil maxLen_eq Nat.zero_le Nat.mul_one Nat.one_mul bldA fillA spliceA List.take_nil List.drop_nil List.getElem?_nil ld1o wr1o bldSliceA le_same cv_i cvI_t quietT_fn qvd_some ld_o ldO_1 ldO_l wr_o wrO_1 set_2 set_3 set_4 putL_nil putL_cons List.zip_cons_cons List.zip_nil_left List.zip_nil_right List.toList_toArray frzV_set ti1 ti2 tk2 ti3 te3 ts3 tk3 tz3 ti4 tb4 ti5 tk5 tz5 ti9 te9 ts9 tk9 tz9 ti12 tk12 ti13 tp13 tf13_0 tf13_1 ti20 ti21 tk21 tz21 ti22 te22 tz22 ti23 te23 ti24 tp24 tf24_0 ti25 tp25 tf25_0 ti26 te26 ti28 ti29 te29 ti30 te30 ti31 tp31 tf31_0 ti32 tp32 tf32_0 ti33 tp33 tf33_0 tf33_1 tf33_2 tf33_3 ti34 tp34 tf34_0 tf34_1 tf34_2 tf34_3 ti35 ti36 ti37 ti39 ti40 tq40 tp40 tf40_0 tf40_1 tf40_2 tf40_3 ti41 tq41 tp41 tf41_0 tf41_1 tf41_2 tf41_3 ti42 ti43 tq43 tp43 tf43_0 tf43_1 tf43_2 ti44 tq44 tp44 tf44_0 tf44_1 tf44_2 ti45 te45 ti46 tq46 tp46 tf46_0 tf46_1 tf46_2 ti47 tq47 tp47 tf47_0 tf47_1 tf47_2 ti49 ti50 ti51 ti53 ti54 ti55 ti56 te56 ti57 tp57 tf57_0 ti58 tp58 tf58_0 ti59 te59 ti60 ti61 ti62 ti63 ti64 ti65 ti66 ti67 ti68 ti69 ti70 ti71 te71 ti72 tq72 tp72 tf72_0 tf72_1 tf72_2 ti73 ti74 ti75 ti76 ti77 ti78 ti79 ti80 ti81 ti82 ti83 ti84 ti85 ti86 ti87 tq87 tp87 tf87_0 tf87_1 ti88 tq88 tp88 tf88_0 tf88_1 ti89 ti90 ti91 ti92 ti93 ti94 ti95 ti96 ti97 ti98 ti99 ti100 ti101 ti102 tq102 tp102 tf102_0 tf102_1 tf102_2 tf102_3 tf102_4 ti103 tq103 tp103 tf103_0 tf103_1 tf103_2 tf103_3 tf103_4 ti104 ti105 ti106 ti107 ti108 ti109 ti110 ti111 ti112 ti113 tq113 tp113 tf113_0 tf113_1 tf113_2 tf113_3 ti114 ti115 ti116 ti117 ti118 ti119 ti120 tq120 tp120 tf120_0 tf120_1 tf120_2 ti121 ti122 ti123 ti124 ti125 ti126 tp126 tf126_0 tf126_1 ti127 tp127 tf127_0 tf127_1 ti128 tp128 tf128_0 tf128_1 tf128_2 tf128_3 tf128_4 ti129 tp129 tf129_0 tf129_1 tf129_2 tf129_3 tf129_4 ti131 ti132 ti133 ti134 ti135 ti136 ti137 tp137 tf137_0 tf137_1 tf137_2 tf137_3 ti138 tp138 tf138_0 tf138_1 tf138_2 tf138_3 ti139 tq139 tp139 tf139_0 tf139_1 ti140 tq140 tp140 tf140_0 tf140_1 ti141 ti142 ti143 tq143 tp143 tf143_0 tf143_1 ti144 tq144 tp144 tf144_0 tf144_1 ti145 ti146 ti147 ti148 ti149 te149 ti150 ti151 te151 ti152 ti153 ti154 ti155 ti156 ti157 ti158 tp158 tf158_0 tf158_1 tf158_2 ti159 tp159 tf159_0 tf159_1 tf159_2 ti160 ti161 ti162 ti163 ti164 ti165 ti166 ti167 ti168 ti169 tq169 tp169 tf169_0 tf169_1 ti170 ti171 ti172 ti173 ti174 ti175 ti176 ti177 te177 ti178 ti179 ti180 ti181 ti182 ti183 ti184 ti185 ti186 ti187 ti188 ti189 ti190 ti191 ti192 ti193 ti194 ti195 ti196 ti197 ti198 ti199 ti200 ti201 ti202 ti203 ti204 ti205 tk205 tz205 ti206 ti207 ti208 ti209 tk209 ti211 ti212 ti213 ti215 ti216 ti217 tk217 tz217 ti218 ti219 tk219 tz219 ti220 tk220 ti221 ti222 ti223 ti224 ti225 ti226 ti228 ti229 ti235 ti239 ti244 fp13_0 fv13_0 fp13_1 fv13_1 fp24_0 fv24_0 fp25_0 fv25_0 fp31_0 fv31_0 fp32_0 fv32_0 fp33_0 fv33_0 fp33_1 fv33_1 fp33_2 fv33_2 fp33_3 fv33_3 fp34_0 fv34_0 fp34_1 fv34_1 fp34_2 fv34_2 fp34_3 fv34_3 fp40_0 fv40_0 fp40_1 fv40_1 fp40_2 fv40_2 fp40_3 fv40_3 fp41_0 fv41_0 fp41_1 fv41_1 fp41_2 fv41_2 fp41_3 fv41_3 fp43_0 fv43_0 fp43_1 fv43_1 fp43_2 fv43_2 fp44_0 fv44_0 fp44_1 fv44_1 fp44_2 fv44_2 fp46_0 fv46_0 fp46_1 fv46_1 fp46_2 fv46_2 fp47_0 fv47_0 fp47_1 fv47_1 fp47_2 fv47_2 fp57_0 fv57_0 fp58_0 fv58_0 fp72_0 fv72_0 fp72_1 fv72_1 fp72_2 fv72_2 fp87_0 fv87_0 fp87_1 fv87_1 fp88_0 fv88_0 fp88_1 fv88_1 fp102_0 fv102_0 fp102_1 fv102_1 fp102_2 fv102_2 fp102_3 fv102_3 fp102_4 fv102_4 fp103_0 fv103_0 fp103_1 fv103_1 fp103_2 fv103_2 fp103_3 fv103_3 fp103_4 fv103_4 fp113_0 fv113_0 fp113_1 fv113_1 fp113_2 fv113_2 fp113_3 fv113_3 fp120_0 fv120_0 fp120_1 fv120_1 fp120_2 fv120_2 fp126_0 fv126_0 fp126_1 fv126_1 fp127_0 fv127_0 fp127_1 fv127_1 fp128_0 fv128_0 fp128_1 fv128_1 fp128_2 fv128_2 fp128_3 fv128_3 fp128_4 fv128_4 fp129_0 fv129_0 fp129_1 fv129_1 fp129_2 fv129_2 fp129_3 fv129_3 fp129_4 fv129_4 fp137_0 fv137_0 fp137_1 fv137_1 fp137_2 fv137_2 fp137_3 fv137_3 fp138_0 fv138_0 fp138_1 fv138_1 fp138_2 fv138_2 fp138_3 fv138_3 fp139_0 fv139_0 fp139_1 fv139_1 fp140_0 fv140_0 fp140_1 fv140_1 fp143_0 fv143_0 fp143_1 fv143_1 fp144_0 fv144_0 fp144_1 fv144_1 fp158_0 fv158_0 fp158_1 fv158_1 fp158_2 fv158_2 fp159_0 fv159_0 fp159_1 fv159_1 fp159_2 fv159_2 fp169_0 fv169_0 fp169_1 fv169_1 lv22 ll22 is22 ix22 sh22 so22 sb22 sm22 sp22 lv23 ll23 is23 ix23 sh23 so23 sb23 sm23 sp23 lv26 ll26 is26 ix26 sh26 so26 sb26 sm26 sp26 lv29 ll29 is29 ix29 sh29 so29 sb29 sm29 sp29 lv30 ll30 is30 ix30 sh30 so30 sb30 sm30 sp30 lv45 ll45 is45 ix45 sh45 so45 sb45 sm45 sp45 lv56 ll56 is56 sp56 lv59 ll59 is59 sp59 lv71 ll71 is71 sp71 lv149 ll149 is149 sp149 lv151 ll151 is151 sp151 lv177 ll177 is177 ix177 sh177 so177 sb177 sm177 sp177 xs9 ls9 sx9 sy9 sz9
section
open Go Go.Sim
set_option maxRecDepth 100000
set_option maxHeartbeats 4000000

section
variable {F H : AHeap} {bm c6 c7 c8 : Nat} {t p : AV} {log : List Int} {fs : List Fault} {first : Int} {K6 K7 K8 : ABlk}
theorem mach_in3 (hM : Mach F H bm t p log fs first) (h6 : H c6 = none) (h7 : H c7 = none) (h8 : H c8 = none) (d67 : ¬ c7 = c6) (d68 : ¬ c8 = c6) (d78 : ¬ c8 = c7) :
    Mach (((F.set c6 K6).set c7 K7).set c8 K8) (((H.set c6 K6).set c7 K7).set c8 K8) bm t p log fs first :=
  mach_in (mach_in (mach_in hM h6) (by rw [set_other d67]; exact h7)) (by rw [set_other d78, set_other d68]; exact h8)
theorem mach_out3 (hM : Mach (((F.set c6 K6).set c7 K7).set c8 K8) H bm t p log fs first) (h6 : F c6 = none) (h7 : F c7 = none) (h8 : F c8 = none) (d67 : ¬ c7 = c6) (d68 : ¬ c8 = c6) (d78 : ¬ c8 = c7) :
    ∃ H', H = ((H'.set c6 K6).set c7 K7).set c8 K8 ∧ Mach F H' bm t p log fs first ∧ H' c6 = none ∧ H' c7 = none ∧ H' c8 = none := by
  obtain ⟨H1, rfl, m1, n1⟩ := mach_out hM (by rw [set_other d78, set_other d68]; exact h8)
  obtain ⟨H2, rfl, m2, n2⟩ := mach_out m1 (by rw [set_other d67]; exact h7)
  obtain ⟨H3, rfl, m3, n3⟩ := mach_out m2 h6
  rw [set_other d78, set_other d68] at n1
  rw [set_other d67] at n2
  exact ⟨H3, rfl, m3, n3, n2, n1⟩
end
theorem c_try {t : List Class} {cl : Bool} {P : List Line} {clp : Bool} {n : Nat} (ht : validT t = true) (ih : LinesOk t cl P clp n) {i : Nat} {d k a b h : Int} {kids rest : Fo} {s : RS} {F H : AHeap} {bm : Nat} (cl2 : Bool)
    (hn : kids.size + rest.size < n) (hat : At P i d (.node k a b kids rest)) (hk : numsF t kids (d + 1) = true) (hr : numsF t rest d = true) (hs : FsOk t s.fs) (hh : h < s.fs.length) (hl : s.log.length + (cost kids + cost rest) ≤ 900000) (hf : s.fs.length + (cost kids + cost rest) ≤ 900000) (hM : MachS F H bm t cl P clp s) (hp : P.length ≤ 4398046511104) :
    ACalls Tryz.prog 96 [.ptr bm 5 0 0, .vsl ((toI (i :: chainN rest (i + 1 + kids.size))).map rI) cl2, I h] H fun r H' =>
      r = .agg (rEn (chainR t rest (i + 1 + kids.size) (runF t kids (i + 1) none h s).1 (runF t kids (i + 1) none h s).1 h (runF t kids (i + 1) none h s).2).1) ∧
      MachS F H' bm t cl P clp (chainR t rest (i + 1 + kids.size) (runF t kids (i + 1) none h s).1 (runF t kids (i + 1) none h s).1 h (runF t kids (i + 1) none h s).2).2 := by
  have ed : ∀ k : Nat, (toI (i :: chainN rest (i + 1 + kids.size))).drop k = toI ((i :: chainN rest (i + 1 + kids.size)).drop k) := fun k => toI_drop _ _
  have e0 : (i :: chainN rest (i + 1 + kids.size)).getD 0 default = i := rfl
  refine acalls_of1 Tryz.func96 rfl (by kernel_rfl) rfl rfl (awp_sound (fz := fun r => if r = 6 then [11] else if r = 19 then [13] else []) (im := fun _ => false) mixed _ _ _ _ (by kernel_rfl) ?_)
  simp +contextual -dsimp -implicitDefEqProofs (maxSteps := 5000000) only [go_sem, reduceIte, reduceCtorEq, Nat.reduceEqDiff, Nat.reduceBEq, Nat.reduceAdd, Nat.reduceLeDiff, Nat.reduceMul, Nat.reduceLT, Int.reduceEq, Int.reduceLT, Int.reduceLE, toI_len, toI_at, List.length_cons, e0]
  intro b6 hb6
  have hF6 := mach_none hM hb6
  have hgo := goes_run ht kids (i + 1) none (d + 1) h s hk hs hh trivial
  have hgl := hgo.len
  refine ⟨by omega, by omega, ?_⟩
  refine (c_block ih (by omega) hat hk hs hh (by omega) (by omega) (mach_in (K := ⟨2, 88, [[I 0, I 0]]⟩) hM hb6) hp).mono ?_
  rintro _ H3 ⟨rfl, hM3⟩
  generalize runF t kids (i + 1) none h s = r at hM3 hgo hgl ⊢
  obtain ⟨H4, rfl, hM4, hn4⟩ := mach_out hM3 hF6
  simp +contextual -dsimp -implicitDefEqProofs (maxSteps := 5000000) only [go_sem, reduceIte, reduceCtorEq, Nat.reduceEqDiff, Nat.reduceBEq, Nat.reduceAdd, Nat.reduceLeDiff, Nat.reduceMul, Nat.reduceLT, Int.reduceEq, Int.reduceLT, Int.reduceLE, rEn]
  rintro b7 ⟨d76, d67, n7⟩ b8 ⟨d87, d78, d86, d68, n8⟩
  rw [show (1 : Int).toNat = 1 from rfl, ed, List.drop_succ_cons, List.drop_zero, toI_len]
  refine ⟨by rw [List.length_cons]; omega, ?_⟩
  have hrat := hat.rest
  have hF7 : F b7 = none := mach_none hM4 n7
  have hF8 : F b8 = none := mach_none hM4 n8
  generalize i + 1 + kids.size = j at hrat ⊢
  have hch := chain_len rest j
  have hrl := hrat.len
  refine aloop mixed (fz := fun r => if r = 6 then [11] else if r = 19 then [13] else []) (im := fun _ => false) (by kernel_rfl) (fun m tm H' => ∃ (g : Fo) (q x : Nat) (st e : En) (s' : RS) (H'' : AHeap), m = g.size ∧ At P q d g ∧ numsF t g d = true ∧ g.size ≤ rest.size ∧ (chainN rest j).drop x = chainN g q ∧ x ≤ (chainN rest j).length ∧ FsOk t s'.fs ∧ s.fs.length ≤ s'.fs.length ∧ PdOk s' (some (st, e)) ∧ s'.log.length + cost g ≤ 900000 ∧ s'.fs.length + cost g ≤ 900000 ∧ chainR t rest j r.1 r.1 h r.2 = chainR t g q st e h s' ∧
      H' = ((H''.set b6 ⟨2, 88, [[I 0, I 0]]⟩).set b7 ⟨2, 88, [rEn e]⟩).set b8 ⟨2, 88, [rEn st]⟩ ∧ H'' b6 = none ∧ H'' b7 = none ∧ H'' b8 = none ∧ MachS F H'' bm t cl P clp s' ∧
      tm 0 = .ptr bm 5 0 0 ∧ tm 2 = I h ∧ tm 6 = .ptr b6 2 0 0 ∧ tm 7 = .ptr b7 2 0 0 ∧ tm 8 = .ptr b8 2 0 0 ∧ tm 22 = .vsl ((toI (chainN rest j)).map rI) cl2 ∧ tm 23 = I (chainN rest j).length ∧ tm 24 = I x) rest.size ⟨rest, j, 0, r.1, r.1, r.2, H4, rfl, hrat, hr, Nat.le_refl _, rfl, Nat.zero_le _, hgo.ok, hgl.1, ⟨hgo.val, hgo.val⟩, by omega, by omega, rfl, rfl, hn4, n7, n8, hM4, ?_⟩ ?_
  · simp +contextual -dsimp -implicitDefEqProofs (maxSteps := 5000000) only [go_sem, reduceIte, reduceCtorEq, Nat.reduceEqDiff, Nat.reduceBEq, Nat.reduceAdd, Nat.reduceLeDiff, Nat.reduceMul, Nat.reduceLT, Int.reduceEq, Int.reduceLT, Int.reduceLE, rEn]
    rw [toI_len]
  · rintro m tm _ ⟨g, q, x, st, e, s', H'', rfl, hgat, hgn, hgs, hdx, hxl, hs', hsl, hpd, bl, bf, he, rfl, h6, h7, h8, hM', t0, t2, t6, t7, t8, t22, t23, t24⟩
    have hexit : chainN g q = [] → chainR t g q st e h s' = (e, s') := by
      intro hq
      cases g with
      | nil => rfl
      | node k2 a2 b2 ks re =>
        simp only [chainN] at hq
        split at hq
        · cases hq
        · rename_i hk2
          simp only [chainR]; rw [if_neg hk2]
    cases hcq : chainN g q with
    | nil =>
      rw [hcq] at hdx
      have hx := drop_nil hdx
      rw [he, hexit hcq]
      simp +contextual -dsimp -implicitDefEqProofs (maxSteps := 5000000) only [go_sem, reduceIte, reduceCtorEq, Nat.reduceEqDiff, Nat.reduceBEq, Nat.reduceAdd, Nat.reduceLeDiff, Nat.reduceMul, Nat.reduceLT, Int.reduceEq, Int.reduceLT, Int.reduceLE, rEn, d76, d67, d87, d78, d86, d68, t0, t2, t6, t7, t8, t22, t23, t24, hx]
      refine retR_less (l := [.agg (rEn e)]) (H' := H'') ?_ (le_s1 (le_s1 (le_s1 (AHeap.le_refl _) h6) h7) h8) ⟨rfl, hM'⟩
      simp only [resA, go_sem, reduceIte, reduceCtorEq, Nat.reduceEqDiff, Nat.reduceBEq, Nat.reduceAdd, Nat.reduceLeDiff, Nat.reduceMul, Nat.reduceLT, Int.reduceEq, Int.reduceLT, Int.reduceLE, rEn, d76, d67, d87, d78, d86, d68, t6]
    | cons q' tl =>
      cases g with
      | nil => simp [chainN] at hcq
      | node k2 a2 b2 ks re =>
        have hk2 : followsK k2 = true := by
          simp only [chainN] at hcq
          split at hcq
          · assumption
          · cases hcq
        have hdx' : (chainN rest j).drop x = q :: chainN re (q + 1 + ks.size) := by
          rw [hdx]; simp only [chainN]; rw [if_pos hk2]
        obtain ⟨hx1, hx2, hx3⟩ := drop_cons hdx'
        have hf' := hk2
        simp only [followsK, inR, Bool.and_eq_true, decide_eq_true_eq] at hf'
        obtain ⟨n1, n2, n3, n4, n5⟩ := numsF_node hgn
        have hc := cost_node_le (k := k2) (a := a2) (b := b2) (kids := ks) (rest := re) (by omega)
        have hh2 := hgat.head
        have hsz : (Fo.node k2 a2 b2 ks re).size = 1 + ks.size + re.size := rfl
        have hch2 : chainR t (.node k2 a2 b2 ks re) q st e h s' = chainR t (.node k2 a2 b2 ks re) q st e h s' := rfl
        conv at hch2 => rhs; simp only [chainR]; rw [if_pos hk2]
        obtain ⟨xl, xf, H1, H2, hFm, hg1, hg2, hb, rfl⟩ := id hM'
        have h6' := h6
        have h7' := h7
        have h8' := h8
        rw [set_none] at h6' h7' h8'
        obtain ⟨m1, m2, m3⟩ := h6'
        obtain ⟨m4, m5, m6⟩ := h7'
        obtain ⟨m7, m8, m9⟩ := h8'
        have hgol : h < s'.fs.length := by omega
        have adv : ∀ (SZ : Nat) (st' e' : En) (s'' : RS) (H3 : AHeap), re.size < SZ → chainR t (.node k2 a2 b2 ks re) q st e h s' = chainR t re (q + 1 + ks.size) st' e' h s'' → FsOk t s''.fs → s.fs.length ≤ s''.fs.length → PdOk s'' (some (st', e')) → s''.log.length + cost re ≤ 900000 → s''.fs.length + cost re ≤ 900000 → H3 b6 = none → H3 b7 = none → H3 b8 = none → MachS F H3 bm t cl P clp s'' →
            ∃ m', m' < SZ ∧ ∃ (g : Fo) (q x_1 : Nat) (st_1 e_1 : En) (s'_1 : RS) (H'' : AHeap), m' = g.size ∧ At P q d g ∧ numsF t g d = true ∧ g.size ≤ rest.size ∧ (chainN rest j).drop x_1 = chainN g q ∧ x_1 ≤ (chainN rest j).length ∧ FsOk t s'_1.fs ∧ s.fs.length ≤ s'_1.fs.length ∧ PdOk s'_1 (some (st_1, e_1)) ∧ s'_1.log.length + cost g ≤ 900000 ∧ s'_1.fs.length + cost g ≤ 900000 ∧ chainR t rest j r.1 r.1 h r.2 = chainR t g q st_1 e_1 h s'_1 ∧
              ((H3.set b6 ⟨2, 88, [[I 0, I 0]]⟩).set b7 ⟨2, 88, [[I e'.ed, I e'.val]]⟩).set b8 ⟨2, 88, [[I st'.ed, I st'.val]]⟩ = ((H''.set b6 ⟨2, 88, [[I 0, I 0]]⟩).set b7 ⟨2, 88, [[I e_1.ed, I e_1.val]]⟩).set b8 ⟨2, 88, [[I st_1.ed, I st_1.val]]⟩ ∧ H'' b6 = none ∧ H'' b7 = none ∧ H'' b8 = none ∧ MachS F H'' bm t cl P clp s'_1 ∧ AV.lit (.int .i64 (IntKind.i64.wrap ((x : Int) + 1))) = I x_1 :=
          fun SZ st' e' s'' H3 q1 q2 q3 q4 q5 q6 q7 q8 q9 q10 q11 => ⟨re.size, q1, re, q + 1 + ks.size, x + 1, st', e', s'', H3, rfl, hgat.rest, n5, by omega, hx3, hx1, q3, q4, q5, q6, q7, by rw [he]; exact q2, rfl, q8, q9, q10, q11, I_wrap (by omega) (by omega) (by omega)⟩
        have szl : ∀ k : Int, re.size < (Fo.node k a2 b2 ks re).size := fun k => by simp only [Fo.size]; omega
        by_cases k9 : k2 = 9
        · rw [if_neg (by omega), if_pos k9] at hch2
          by_cases c0 : st.ed = 0
          · rw [if_pos c0] at hch2
            simp +contextual -dsimp -implicitDefEqProofs (maxSteps := 5000000) only [go_sem, reduceIte, reduceCtorEq, Nat.reduceEqDiff, Nat.reduceBEq, Nat.reduceAdd, Nat.reduceLeDiff, Nat.reduceMul, Nat.reduceLT, Int.reduceEq, Int.reduceLT, Int.reduceLE, rEn, d76, d67, d87, d78, d86, d68, m1, m2, m4, m5, m7, m8, t0, t2, t6, t7, t8, t22, t23, t24, toI_len, toI_at, hx1, hx2, hh2.1, hh2.2, k9, c0]
            rintro b11 hb11
            have hgo2 := goes_run ht ks (q + 1) none (d + 1) h s' n4 hs' hgol trivial
            have hgl2 := hgo2.len
            refine (c_block ih (by omega) hgat n4 hs' hgol (by omega) (by omega) (mach_in3 (K6 := ⟨2, 88, [[I 0, I 0]]⟩) (K7 := ⟨2, 88, [rEn e]⟩) (K8 := ⟨2, 88, [[I 0, I st.val]]⟩) hM' h6 h7 h8 d76 d86 d87) hp).mono ?_
            rintro _ H3 ⟨rfl, hM3⟩
            generalize runF t ks (q + 1) none h s' = r2 at hM3 hgo2 hgl2 hch2
            obtain ⟨H5, rfl, hM5, w6, w7, w8⟩ := mach_out3 hM3 hF6 hF7 hF8 d76 d86 d87
            simp +contextual -dsimp -implicitDefEqProofs (maxSteps := 5000000) only [go_sem, reduceIte, reduceCtorEq, Nat.reduceEqDiff, Nat.reduceBEq, Nat.reduceAdd, Nat.reduceLeDiff, Nat.reduceMul, Nat.reduceLT, Int.reduceEq, Int.reduceLT, Int.reduceLE, rEn, d76, d67, d87, d78, d86, d68, m1, m2, m4, m5, m7, m8, t0, t2, t6, t7, t8, t22, t23, t24, toI_len, toI_at, hx1, hx2, hh2.1, hh2.2, k9, c0]
            have fin := adv _ st r2.1 r2.2 H5 (szl 9) hch2 hgo2.ok (by omega) ⟨fun z => absurd (show st.ed = 2 from z) (by omega), hgo2.val⟩ (by omega) (by omega) w6 w7 w8 hM5
            rw [c0] at fin
            exact fin
          · rw [if_neg c0] at hch2
            simp +contextual -dsimp -implicitDefEqProofs (maxSteps := 5000000) only [go_sem, reduceIte, reduceCtorEq, Nat.reduceEqDiff, Nat.reduceBEq, Nat.reduceAdd, Nat.reduceLeDiff, Nat.reduceMul, Nat.reduceLT, Int.reduceEq, Int.reduceLT, Int.reduceLE, rEn, d76, d67, d87, d78, d86, d68, m1, m2, m4, m5, m7, m8, t0, t2, t6, t7, t8, t22, t23, t24, toI_len, toI_at, hx1, hx2, hh2.1, hh2.2, k9, c0]
            rintro b11 hb11
            exact adv _ st e s' _ (szl 9) hch2 hs' hsl hpd (by omega) (by omega) h6 h7 h8 hM'
        · by_cases k8 : k2 = 8
          · rw [if_pos k8] at hch2
            by_cases c2 : st.ed = 2
            · have hsv := hpd.1 c2
              simp only at hsv
              have sv0 := hsv.1
              have sv1 := hsv.2
              have sv2 : st.val.toNat < s'.fs.length := by omega
              have hcl := (hs'.cls st.val.toNat sv2).1
              have hcl2 := hasF_spec hcl
              simp +contextual -dsimp -implicitDefEqProofs (maxSteps := 5000000) only [go_sem, reduceIte, reduceCtorEq, Nat.reduceEqDiff, Nat.reduceBEq, Nat.reduceAdd, Nat.reduceLeDiff, Nat.reduceMul, Nat.reduceLT, Int.reduceEq, Int.reduceLT, Int.reduceLE, rEn, d76, d67, d87, d78, d86, d68, m1, m2, m4, m5, m7, m8, t0, t2, t6, t7, t8, t22, t23, t24, toI_len, toI_at, hx1, hx2, hh2.1, hh2.2, k8, c2]
              rintro b11 hb11
              refine draw_intro [0, 0, 0, 0, 0, 0, 0, 0, 0, 0, 0, 0, 0, 0, 0, 0, 0, 0, 0, 0, 2, 0] AHeap.none (by kernel_rfl) none_le ?_
              rcases hg2 with ⟨ee, _, _⟩ | ⟨bf, clf, hbf, rfl, rfl⟩
              · rw [ee] at sv1; simp at sv1; omega
              have ub := hb
              have u6 := m3
              have u7 := m6
              have u8 := m9
              rw [set_none] at ub u6 u7 u8
              obtain ⟨v1, v2, _⟩ := ub
              obtain ⟨v3, v4, _⟩ := u6
              obtain ⟨v5, v6, _⟩ := u7
              obtain ⟨v7, v8, _⟩ := u8
              simp +contextual -dsimp -implicitDefEqProofs (maxSteps := 5000000) only [go_sem, reduceIte, reduceCtorEq, Nat.reduceEqDiff, Nat.reduceBEq, Nat.reduceAdd, Nat.reduceLeDiff, Nat.reduceMul, Nat.reduceLT, Int.reduceEq, Int.reduceLT, Int.reduceLE, rEn, d76, d67, d87, d78, d86, d68, m1, m2, m4, m5, m7, m8, t0, t2, t6, t7, t8, t22, t23, t24, toI_len, toI_at, hx1, hx2, hh2.1, hh2.2, k8, c2, v1, v2, v3, v4, v5, v6, v7, v8, sv0, sv1, sv2]
              refine (c_is t cl _ a2 _ ht hcl2.2).det ?_
              simp +contextual -dsimp -implicitDefEqProofs (maxSteps := 5000000) only [go_sem, reduceIte, reduceCtorEq, Nat.reduceEqDiff, Nat.reduceBEq, Nat.reduceAdd, Nat.reduceLeDiff, Nat.reduceMul, Nat.reduceLT, Int.reduceEq, Int.reduceLT, Int.reduceLE, rEn, d76, d67, d87, d78, d86, d68, m1, m2, m4, m5, m7, m8, t0, t2, t6, t7, t8, t22, t23, t24, toI_len, toI_at, hx1, hx2, hh2.1, hh2.2, k8, c2, v1, v2, v3, v4, v5, v6, v7, v8, sv0, sv1, sv2]
              refine ⟨fun hq => ?_, fun hq => ?_⟩
              · rw [if_pos ⟨c2, hq⟩] at hch2
                have hgo2 := goes_run ht ks (q + 1) none (d + 1) st.val s' n4 hs' sv1 trivial
                have hgl2 := hgo2.len
                refine (c_block ih (by omega) hgat n4 hs' sv1 (by omega) (by omega) (mach_in3 (K6 := ⟨2, 88, [[I 0, I 0]]⟩) (K7 := ⟨2, 88, [rEn e]⟩) (K8 := ⟨2, 88, [[I 2, I st.val]]⟩) hM' h6 h7 h8 d76 d86 d87) hp).mono ?_
                rintro _ H3 ⟨rfl, hM3⟩
                generalize runF t ks (q + 1) none st.val s' = r2 at hM3 hgo2 hgl2 hch2
                obtain ⟨H5, rfl, hM5, w6, w7, w8⟩ := mach_out3 hM3 hF6 hF7 hF8 d76 d86 d87
                simp +contextual -dsimp -implicitDefEqProofs (maxSteps := 5000000) only [go_sem, reduceIte, reduceCtorEq, Nat.reduceEqDiff, Nat.reduceBEq, Nat.reduceAdd, Nat.reduceLeDiff, Nat.reduceMul, Nat.reduceLT, Int.reduceEq, Int.reduceLT, Int.reduceLE, rEn, d76, d67, d87, d78, d86, d68, m1, m2, m4, m5, m7, m8, t0, t2, t6, t7, t8, t22, t23, t24, toI_len, toI_at, hx1, hx2, hh2.1, hh2.2, k8, c2]
                exact adv _ ⟨-1, 0⟩ r2.1 r2.2 H5 (szl 8) hch2 hgo2.ok (by omega) ⟨(fun z => by cases z), hgo2.val⟩ (by omega) (by omega) w6 w7 w8 hM5
              · rw [if_neg (fun z => by have := z.2; unfold isF clsOf at this; rw [hq] at this; cases this)] at hch2
                have fin := adv _ st e s' _ (szl 8) hch2 hs' hsl hpd (by omega) (by omega) h6 h7 h8 hM'
                rw [c2] at fin
                exact fin
            · rw [if_neg (fun z => c2 z.1)] at hch2
              simp +contextual -dsimp -implicitDefEqProofs (maxSteps := 5000000) only [go_sem, reduceIte, reduceCtorEq, Nat.reduceEqDiff, Nat.reduceBEq, Nat.reduceAdd, Nat.reduceLeDiff, Nat.reduceMul, Nat.reduceLT, Int.reduceEq, Int.reduceLT, Int.reduceLE, rEn, d76, d67, d87, d78, d86, d68, m1, m2, m4, m5, m7, m8, t0, t2, t6, t7, t8, t22, t23, t24, toI_len, toI_at, hx1, hx2, hh2.1, hh2.2, k8, c2]
              rintro b11 hb11
              refine draw_intro [0, 0, 0, 0, 0, 0, 0, 0, 0, 0, 0, 0, 0, 0, 0, 0, 0, 0, 0, 0, 2, 0] AHeap.none (by kernel_rfl) none_le ?_
              simp +contextual -dsimp -implicitDefEqProofs (maxSteps := 5000000) only [go_sem, reduceIte, reduceCtorEq, Nat.reduceEqDiff, Nat.reduceBEq, Nat.reduceAdd, Nat.reduceLeDiff, Nat.reduceMul, Nat.reduceLT, Int.reduceEq, Int.reduceLT, Int.reduceLE, rEn, d76, d67, d87, d78, d86, d68, m1, m2, m4, m5, m7, m8, t0, t2, t6, t7, t8, t22, t23, t24, toI_len, toI_at, hx1, hx2, hh2.1, hh2.2, k8, c2]
              exact adv _ st e s' _ (szl 8) hch2 hs' hsl hpd (by omega) (by omega) h6 h7 h8 hM'
          · have k10 : k2 = 10 := by omega
            rw [if_neg k8, if_neg k9] at hch2
            by_cases c2 : e.ed = 2
            · have hev := hpd.2 c2
              simp only at hev
              rw [if_pos c2] at hch2
              simp +contextual -dsimp -implicitDefEqProofs (maxSteps := 5000000) only [go_sem, reduceIte, reduceCtorEq, Nat.reduceEqDiff, Nat.reduceBEq, Nat.reduceAdd, Nat.reduceLeDiff, Nat.reduceMul, Nat.reduceLT, Int.reduceEq, Int.reduceLT, Int.reduceLE, rEn, d76, d67, d87, d78, d86, d68, m1, m2, m4, m5, m7, m8, t0, t2, t6, t7, t8, t22, t23, t24, toI_len, toI_at, hx1, hx2, hh2.1, hh2.2, k10, c2]
              rintro b11 hb11
              have hgo2 := goes_run ht ks (q + 1) none (d + 1) e.val s' n4 hs' hev.2 trivial
              have hgl2 := hgo2.len
              refine (c_block ih (by omega) hgat n4 hs' hev.2 (by omega) (by omega) (mach_in3 (K6 := ⟨2, 88, [[I 0, I 0]]⟩) (K7 := ⟨2, 88, [[I 2, I e.val]]⟩) (K8 := ⟨2, 88, [rEn st]⟩) hM' h6 h7 h8 d76 d86 d87) hp).mono ?_
              rintro _ H3 ⟨rfl, hM3⟩
              generalize runF t ks (q + 1) none e.val s' = r2 at hM3 hgo2 hgl2 hch2
              obtain ⟨H5, rfl, hM5, w6, w7, w8⟩ := mach_out3 hM3 hF6 hF7 hF8 d76 d86 d87
              by_cases c0 : r2.1.ed = 0
              · rw [if_pos c0] at hch2
                simp +contextual -dsimp -implicitDefEqProofs (maxSteps := 5000000) only [go_sem, reduceIte, reduceCtorEq, Nat.reduceEqDiff, Nat.reduceBEq, Nat.reduceAdd, Nat.reduceLeDiff, Nat.reduceMul, Nat.reduceLT, Int.reduceEq, Int.reduceLT, Int.reduceLE, rEn, d76, d67, d87, d78, d86, d68, m1, m2, m4, m5, m7, m8, t0, t2, t6, t7, t8, t22, t23, t24, toI_len, toI_at, hx1, hx2, hh2.1, hh2.2, k10, c2, c0]
                rintro b13 hb13
                have fin := adv _ st e r2.2 H5 (szl 10) hch2 hgo2.ok (by omega) ⟨fun z => by have := hpd.1 z; simp only at this; show 0 ≤ st.val ∧ st.val < (r2.2.fs.length : Int); omega, fun z => by have := hpd.2 z; simp only at this; show 0 ≤ e.val ∧ e.val < (r2.2.fs.length : Int); omega⟩ (by omega) (by omega) w6 w7 w8 hM5
                rw [c2] at fin
                exact fin
              · rw [if_neg c0] at hch2
                simp +contextual -dsimp -implicitDefEqProofs (maxSteps := 5000000) only [go_sem, reduceIte, reduceCtorEq, Nat.reduceEqDiff, Nat.reduceBEq, Nat.reduceAdd, Nat.reduceLeDiff, Nat.reduceMul, Nat.reduceLT, Int.reduceEq, Int.reduceLT, Int.reduceLE, rEn, d76, d67, d87, d78, d86, d68, m1, m2, m4, m5, m7, m8, t0, t2, t6, t7, t8, t22, t23, t24, toI_len, toI_at, hx1, hx2, hh2.1, hh2.2, k10, c2, c0]
                rintro b13 hb13
                exact adv _ st r2.1 r2.2 H5 (szl 10) hch2 hgo2.ok (by omega) ⟨fun z => by have := hpd.1 z; simp only at this; show 0 ≤ st.val ∧ st.val < (r2.2.fs.length : Int); omega, hgo2.val⟩ (by omega) (by omega) w6 w7 w8 hM5
            · rw [if_neg c2] at hch2
              simp +contextual -dsimp -implicitDefEqProofs (maxSteps := 5000000) only [go_sem, reduceIte, reduceCtorEq, Nat.reduceEqDiff, Nat.reduceBEq, Nat.reduceAdd, Nat.reduceLeDiff, Nat.reduceMul, Nat.reduceLT, Int.reduceEq, Int.reduceLT, Int.reduceLE, rEn, d76, d67, d87, d78, d86, d68, m1, m2, m4, m5, m7, m8, t0, t2, t6, t7, t8, t22, t23, t24, toI_len, toI_at, hx1, hx2, hh2.1, hh2.2, k10, c2]
              rintro b11 hb11
              have hgo2 := goes_run ht ks (q + 1) none (d + 1) h s' n4 hs' hgol trivial
              have hgl2 := hgo2.len
              refine (c_block ih (by omega) hgat n4 hs' hgol (by omega) (by omega) (mach_in3 (K6 := ⟨2, 88, [[I 0, I 0]]⟩) (K7 := ⟨2, 88, [rEn e]⟩) (K8 := ⟨2, 88, [rEn st]⟩) hM' h6 h7 h8 d76 d86 d87) hp).mono ?_
              rintro _ H3 ⟨rfl, hM3⟩
              generalize runF t ks (q + 1) none h s' = r2 at hM3 hgo2 hgl2 hch2
              obtain ⟨H5, rfl, hM5, w6, w7, w8⟩ := mach_out3 hM3 hF6 hF7 hF8 d76 d86 d87
              by_cases c0 : r2.1.ed = 0
              · rw [if_pos c0] at hch2
                simp +contextual -dsimp -implicitDefEqProofs (maxSteps := 5000000) only [go_sem, reduceIte, reduceCtorEq, Nat.reduceEqDiff, Nat.reduceBEq, Nat.reduceAdd, Nat.reduceLeDiff, Nat.reduceMul, Nat.reduceLT, Int.reduceEq, Int.reduceLT, Int.reduceLE, rEn, d76, d67, d87, d78, d86, d68, m1, m2, m4, m5, m7, m8, t0, t2, t6, t7, t8, t22, t23, t24, toI_len, toI_at, hx1, hx2, hh2.1, hh2.2, k10, c2, c0]
                rintro b13 hb13
                exact adv _ st e r2.2 H5 (szl 10) hch2 hgo2.ok (by omega) ⟨fun z => by have := hpd.1 z; simp only at this; show 0 ≤ st.val ∧ st.val < (r2.2.fs.length : Int); omega, fun z => absurd z c2⟩ (by omega) (by omega) w6 w7 w8 hM5
              · rw [if_neg c0] at hch2
                simp +contextual -dsimp -implicitDefEqProofs (maxSteps := 5000000) only [go_sem, reduceIte, reduceCtorEq, Nat.reduceEqDiff, Nat.reduceBEq, Nat.reduceAdd, Nat.reduceLeDiff, Nat.reduceMul, Nat.reduceLT, Int.reduceEq, Int.reduceLT, Int.reduceLE, rEn, d76, d67, d87, d78, d86, d68, m1, m2, m4, m5, m7, m8, t0, t2, t6, t7, t8, t22, t23, t24, toI_len, toI_at, hx1, hx2, hh2.1, hh2.2, k10, c2, c0]
                rintro b13 hb13
                exact adv _ st r2.1 r2.2 H5 (szl 10) hch2 hgo2.ok (by omega) ⟨fun z => by have := hpd.1 z; simp only at this; show 0 ≤ st.val ∧ st.val < (r2.2.fs.length : Int); omega, hgo2.val⟩ (by omega) (by omega) w6 w7 w8 hM5
end
section
open Go Go.Sim
set_option maxRecDepth 100000
set_option maxHeartbeats 4000000

theorem goes_chain {t : List Class} (ht : validT t = true) : ∀ (f : Fo) (i : Nat) (st e : En) (d h : Int) (s : RS), numsF t f d = true → FsOk t s.fs → h < s.fs.length → PdOk s (some (st, e)) →
    ∃ c, c + cost (skipF f) ≤ cost f ∧ Goes t c s (chainR t f i st e h s).1 (chainR t f i st e h s).2
  | .nil, i, st, e, d, h, s, _, hs, _, hp => ⟨0, Nat.le_refl _, goes_self hs hp.2⟩
  | .node k a b kids rest, i, st, e, d, h, s, hn, hs, hh, hp => by
    obtain ⟨n1, n2, n3, n4, n5⟩ := numsF_node hn
    simp only [chainR, skipF]
    by_cases hk : followsK k = true
    · simp only [hk, if_true]
      have hk' := hk
      simp only [followsK, inR, Bool.and_eq_true, decide_eq_true_eq] at hk'
      have hc := cost_node_le (k := k) (a := a) (b := b) (kids := kids) (rest := rest) (by omega)
      have pass : ∀ (q : En × En), PdOk s (some q) → ∃ c, c + cost (skipF rest) ≤ cost (.node k a b kids rest) ∧ Goes t c s (chainR t rest (i + 1 + kids.size) q.1 q.2 h s).1 (chainR t rest (i + 1 + kids.size) q.1 q.2 h s).2 := by
        intro q hq
        obtain ⟨c, h1, h2⟩ := goes_chain ht rest (i + 1 + kids.size) q.1 q.2 d h s n5 hs hh hq
        exact ⟨c, by omega, h2⟩
      have go : ∀ (g : Int) (st : En) (e : En × RS → En), g < s.fs.length → (st.ed = 2 → 0 ≤ st.val ∧ st.val < s.fs.length) → (∀ r : En × RS, (r.1.ed = 2 → 0 ≤ r.1.val ∧ r.1.val < r.2.fs.length) → s.fs.length ≤ r.2.fs.length → (e r).ed = 2 → 0 ≤ (e r).val ∧ (e r).val < r.2.fs.length) →
          ∃ c, c + cost (skipF rest) ≤ cost (.node k a b kids rest) ∧ Goes t c s ((fun r : En × RS => chainR t rest (i + 1 + kids.size) st (e r) h r.2) (runF t kids (i + 1) none g s)).1 ((fun r : En × RS => chainR t rest (i + 1 + kids.size) st (e r) h r.2) (runF t kids (i + 1) none g s)).2 := by
        intro g st e hg hst he
        have h1 := goes_run ht kids (i + 1) none (d + 1) g s n4 hs hg trivial
        generalize runF t kids (i + 1) none g s = r at h1 ⊢
        have hl := h1.len
        obtain ⟨c, h2, h3⟩ := goes_chain ht rest (i + 1 + kids.size) st (e r) d h r.2 n5 h1.ok (by omega) ⟨fun q => by have := hst q; show 0 ≤ st.val ∧ st.val < (r.2.fs.length : Int); omega, he r h1.val hl.1⟩
        exact ⟨cost kids + c, by omega, h1.trans h3 (Nat.le_refl _)⟩
      split
      · split
        · rename_i hq
          exact go st.val ⟨-1, 0⟩ (fun r => r.1) (hp.1 hq.1).2 (fun q => by cases q) (fun r hr _ => hr)
        · exact pass (st, e) hp
      · split
        · split
          · exact go h st (fun r => r.1) hh hp.1 (fun r hr _ => hr)
          · exact pass (st, e) hp
        · refine go _ st (fun r => if r.1.ed = 0 then e else r.1) ?_ hp.1 (fun r hr hl => ?_)
          · split
            · exact (hp.2 ‹_›).2
            · exact hh
          · split
            · exact fun z => by have := hp.2 z; simp only at this; omega
            · exact hr
    · rw [if_neg hk, if_neg hk]
      exact ⟨0, by omega, goes_self hs hp.2⟩
theorem numsF_skip {t : List Class} {d : Int} : ∀ (f : Fo), numsF t f d = true → numsF t (skipF f) d = true
  | .nil, h => h
  | .node k a b kids rest, h => by
    simp only [skipF]
    split
    · exact numsF_skip rest (numsF_node h).2.2.2.2
    · exact h
theorem getD_last (i : Nat) (l : List Nat) : (i :: l).getD l.length default = (i :: l).getLastD 0 := by
  rw [List.getLastD_cons]
  induction l generalizing i with
  | nil => rfl
  | cons x l ih => rw [List.length_cons, List.getD_cons_succ, List.getLastD_cons]; exact ih x
theorem c_linesStep {t : List Class} {cl : Bool} {P : List Line} {clp : Bool} {n : Nat} (ht : validT t = true) (hp : P.length ≤ 4398046511104) (ih : LinesOk t cl P clp n) : LinesOk t cl P clp (n + 1) := by
  intro f i d h s F H bm hfn hat hnf hs hh hl hf hM
  have hfl := hat.len
  refine acalls_of1 Tryz.func49 rfl (by kernel_rfl) rfl rfl (awp_sound (fz := fun r => if r = 12 then [11] else []) (im := fun _ => false) mixed _ _ _ _ (by kernel_rfl) ?_)
  simp +contextual -dsimp -implicitDefEqProofs (maxSteps := 5000000) only [go_sem, reduceIte, reduceCtorEq, Nat.reduceEqDiff, Nat.reduceBEq, Nat.reduceAdd, Nat.reduceLeDiff, Nat.reduceMul, Nat.reduceLT, Int.reduceEq, Int.reduceLT, Int.reduceLE]
  intro b8 hb8
  have hF8 := mach_none hM hb8
  refine aloop mixed (fz := fun r => if r = 12 then [11] else []) (im := fun _ => false) (by kernel_rfl) (fun m tm H' => ∃ (g : Fo) (q : Nat) (s' : RS) (H'' : AHeap), m = g.size ∧ At P q d g ∧ numsF t g d = true ∧ g.size ≤ f.size ∧ q + g.size = i + f.size ∧ FsOk t s'.fs ∧ s.fs.length ≤ s'.fs.length ∧ s'.log.length + cost g ≤ 900000 ∧ s'.fs.length + cost g ≤ 900000 ∧ runF t f i none h s = runF t g q none h s' ∧ H' = H''.set b8 ⟨2, 88, [[I 0, I 0]]⟩ ∧ H'' b8 = none ∧ MachS F H'' bm t cl P clp s' ∧ tm 0 = .ptr bm 5 0 0 ∧ tm 2 = I (i + f.size : Nat) ∧ tm 3 = I h ∧ tm 8 = .ptr b8 2 0 0 ∧ tm 9 = I q) f.size ⟨f, i, s, H, rfl, hat, hnf, Nat.le_refl _, rfl, hs, Nat.le_refl _, hl, hf, rfl, rfl, hb8, hM, ?_⟩ ?_
  · simp +contextual -dsimp -implicitDefEqProofs (maxSteps := 5000000) only [go_sem, reduceIte, reduceCtorEq, Nat.reduceEqDiff, Nat.reduceBEq, Nat.reduceAdd, Nat.reduceLeDiff, Nat.reduceMul, Nat.reduceLT, Int.reduceEq, Int.reduceLT, Int.reduceLE]
  · rintro m tm _ ⟨g, q, s', H'', rfl, hgat, hgn, hgs, hgq, hs', hsl, bl, bf, he, rfl, h8, hM', t0, t2, t3, t8, t9⟩
    cases g with
    | nil =>
      have z : ¬ q < i + f.size := by simp only [Fo.size] at hgq; omega
      rw [he]
      simp +contextual -dsimp -implicitDefEqProofs (maxSteps := 5000000) only [go_sem, reduceIte, reduceCtorEq, Nat.reduceEqDiff, Nat.reduceBEq, Nat.reduceAdd, Nat.reduceLeDiff, Nat.reduceMul, Nat.reduceLT, Int.reduceEq, Int.reduceLT, Int.reduceLE, t0, t2, t3, t8, t9, z]
      refine retR_less (l := [.agg (rEn .next)]) (H' := H'') ?_ (le_set h8) ⟨rfl, hM'⟩
      simp only [resA, go_sem, reduceIte, reduceCtorEq, Nat.reduceEqDiff, Nat.reduceBEq, Nat.reduceAdd, Nat.reduceLeDiff, Nat.reduceMul, Nat.reduceLT, Int.reduceEq, Int.reduceLT, Int.reduceLE, rEn, En.next, t8]
    | node k a b kids rest =>
      have hsz : (Fo.node k a b kids rest).size = 1 + kids.size + rest.size := rfl
      have z : q < i + f.size := by omega
      have hq := hgat.head
      obtain ⟨xl, xf, H1, H2, hFm, hg1, hg2, hb, rfl⟩ := id hM'
      have h8' := h8
      rw [set_none] at h8'
      obtain ⟨m1, m2, m3⟩ := h8'
      obtain ⟨n1, n2, n3, n4, n5⟩ := numsF_node hgn
      simp +contextual -dsimp -implicitDefEqProofs (maxSteps := 5000000) only [go_sem, reduceIte, reduceCtorEq, Nat.reduceEqDiff, Nat.reduceBEq, Nat.reduceAdd, Nat.reduceLeDiff, Nat.reduceMul, Nat.reduceLT, Int.reduceEq, Int.reduceLT, Int.reduceLE, t0, t2, t3, t8, t9, z, m1, m2]
      refine (c_endOf P clp q _ hq.1).det ?_
      rw [hgat.endP]
      simp +contextual -dsimp -implicitDefEqProofs (maxSteps := 5000000) only [go_sem, reduceIte, reduceCtorEq, Nat.reduceEqDiff, Nat.reduceBEq, Nat.reduceAdd, Nat.reduceLeDiff, Nat.reduceMul, Nat.reduceLT, Int.reduceEq, Int.reduceLT, Int.reduceLE, t0, t2, t3, t8, t9, z, m1, m2, hq.1, hq.2]
      rintro b11 ⟨d1, d2, d3, d4, m4⟩
      have h11 : (H2.set bm ⟨5, 129, [[.vsl (t.map rClass) cl, aProg P clp, xl, xf, I s'.first]]⟩) b11 = none := by rw [set_other d3]; exact m4
      have hF11 := mach_none hM' h11
      have adv : ∀ (SZ : Nat) (g' : Fo) (q' : Nat) (s'' : RS) (H3 : AHeap), g'.size < SZ → g'.size ≤ rest.size → At P q' d g' → numsF t g' d = true → q' + g'.size = i + f.size → runF t (.node k a b kids rest) q none h s' = runF t g' q' none h s'' → FsOk t s''.fs → s.fs.length ≤ s''.fs.length → s''.log.length + cost g' ≤ 900000 → s''.fs.length + cost g' ≤ 900000 → H3 b8 = none → MachS F H3 bm t cl P clp s'' →
          ∃ m', m' < SZ ∧ ∃ (g : Fo) (q : Nat) (s' : RS) (H'' : AHeap), m' = g.size ∧ At P q d g ∧ numsF t g d = true ∧ g.size ≤ f.size ∧ q + g.size = i + f.size ∧ FsOk t s'.fs ∧ s.fs.length ≤ s'.fs.length ∧ s'.log.length + cost g ≤ 900000 ∧ s'.fs.length + cost g ≤ 900000 ∧ runF t f i none h s = runF t g q none h s' ∧ H3.set b8 ⟨2, 88, [[I 0, I 0]]⟩ = H''.set b8 ⟨2, 88, [[I 0, I 0]]⟩ ∧ H'' b8 = none ∧ MachS F H'' bm t cl P clp s' ∧ I q' = I q :=
        fun SZ g' q' s'' H3 w1 w0 w2 w3 w4 w5 w6 w7 w8 w9 w10 w11 => ⟨g'.size, w1, g', q', s'', H3, rfl, w2, w3, by omega, w4, w6, w7, w8, w9, by rw [he]; exact w5, rfl, w10, w11, rfl⟩
      have hMin := mach_in (K := ⟨2, 88, [[I 0, I 0]]⟩) (mach_in (K := ⟨2, 88, [[I 0, I 0]]⟩) hM' h8) (show ((H2.set bm _).set b8 _) b11 = none by rw [set_other d1]; exact h11)
      have mout : ∀ (s'' : RS) (H3 : AHeap), MachS ((F.set b8 ⟨2, 88, [[I 0, I 0]]⟩).set b11 ⟨2, 88, [[I 0, I 0]]⟩) H3 bm t cl P clp s'' → ∃ H4, H3 = (H4.set b8 ⟨2, 88, [[I 0, I 0]]⟩).set b11 ⟨2, 88, [[I 0, I 0]]⟩ ∧ MachS F H4 bm t cl P clp s'' ∧ H4 b8 = none ∧ H4 b11 = none := by
        intro s'' H3 hM3
        obtain ⟨H4, rfl, hM4, w1⟩ := mach_out hM3 (by rw [set_other d1]; exact hF11)
        obtain ⟨H5, rfl, hM5, w2⟩ := mach_out hM4 hF8
        rw [set_other d1] at w1
        exact ⟨H5, rfl, hM5, w2, w1⟩
      by_cases k7 : k = 7
      · subst k7
        have hc : cost (.node 7 a b kids rest) = 2 + cost kids + cost rest := cost_node_le (by omega)
        simp +contextual -dsimp -implicitDefEqProofs (maxSteps := 5000000) only [go_sem, reduceIte, reduceCtorEq, Nat.reduceEqDiff, Nat.reduceBEq, Nat.reduceAdd, Nat.reduceLeDiff, Nat.reduceMul, Nat.reduceLT, Int.reduceEq, Int.reduceLT, Int.reduceLE, t0, t2, t3, t8, t9, z, m1, m2, hq.1, hq.2, d1, d2, d3, d4]
        refine acalls_frz (c_tryFrom P clp q _ hq.1 hp) fun cl2 => ?_
        rw [chainP_at hgat]
        simp +contextual -dsimp -implicitDefEqProofs (maxSteps := 5000000) only [go_sem, reduceIte, reduceCtorEq, Nat.reduceEqDiff, Nat.reduceBEq, Nat.reduceAdd, Nat.reduceLeDiff, Nat.reduceMul, Nat.reduceLT, Int.reduceEq, Int.reduceLT, Int.reduceLE, t0, t2, t3, t8, t9, z, m1, m2, hq.1, hq.2, d1, d2, d3, d4]
        refine draw_intro [0, 0, 0, 0, 0, 0, 0, 0, 0, 0, 2, 0] AHeap.none (by kernel_rfl) none_le ?_
        have hce := chain_end rest (q + 1 + kids.size) q hgat.rest hgat.endP
        have hgl := getD_last q (chainN rest (q + 1 + kids.size))
        have hmem := chainP_mem hq.1 ((q :: chainN rest (q + 1 + kids.size)).getLastD 0) (by
          rw [chainP_at hgat, ← hgl, List.getD_eq_getElem?_getD, List.getElem?_eq_getElem (by simp)]
          exact List.getElem_mem _)
        have hwl : IntKind.i64.wrap (((chainN rest (q + 1 + kids.size)).length + 1 : Nat) - 1) = ((chainN rest (q + 1 + kids.size)).length : Int) := by
          have := chain_len rest (q + 1 + kids.size)
          rw [w64 (by omega) (by omega)]; omega
        have hlt1 : ((chainN rest (q + 1 + kids.size)).length : Int) < (((chainN rest (q + 1 + kids.size)).length + 1 : Nat) : Int) := by omega
        have hlt2 : (chainN rest (q + 1 + kids.size)).length < (chainN rest (q + 1 + kids.size)).length + 1 := by omega
        simp +contextual -dsimp -implicitDefEqProofs (maxSteps := 5000000) only [go_sem, reduceIte, reduceCtorEq, Nat.reduceEqDiff, Nat.reduceBEq, Nat.reduceAdd, Nat.reduceLeDiff, Nat.reduceMul, Nat.reduceLT, Int.reduceEq, Int.reduceLT, Int.reduceLE, t0, t2, t3, t8, t9, z, m1, m2, hq.1, hq.2, d1, d2, d3, d4, toI_len, toI_at, List.length_cons, hwl, hgl, hlt1, hlt2]
        refine (c_endOf P clp _ _ hmem).det ?_
        rw [hce]
        simp +contextual -dsimp -implicitDefEqProofs (maxSteps := 5000000) only [go_sem, reduceIte, reduceCtorEq, Nat.reduceEqDiff, Nat.reduceBEq, Nat.reduceAdd, Nat.reduceLeDiff, Nat.reduceMul, Nat.reduceLT, Int.reduceEq, Int.reduceLT, Int.reduceLE, t0, t2, t3, t8, t9, z, m1, m2, hq.1, hq.2, d1, d2, d3, d4]
        have hgo0 := goes_run ht kids (q + 1) none (d + 1) h s' n4 hs' (by omega) trivial
        have hgl0 := hgo0.len
        have hss := skipN_add rest (q + 1 + kids.size)
        have hsf := skipF_size rest
        refine (c_try ht ih cl2 (by omega) hgat n4 n5 hs' (by omega) (by omega) (by omega) hMin hp).mono ?_
        rintro _ H3 ⟨rfl, hM3⟩
        have hrun := runF_try (t := t) (a := a) (b := b) (kids := kids) (rest := rest) (i := q) (h := h) (s := s')
        simp only [runF_some] at hrun
        generalize runF t kids (q + 1) none h s' = r0 at hM3 hgo0 hgl0 hrun ⊢
        obtain ⟨c, hc1, hgo⟩ := goes_chain ht rest (q + 1 + kids.size) r0.1 r0.1 d h r0.2 n5 hgo0.ok (by omega) ⟨hgo0.val, hgo0.val⟩
        have hgl := hgo.len
        generalize chainR t rest (q + 1 + kids.size) r0.1 r0.1 h r0.2 = r at hM3 hgo hgl hrun ⊢
        obtain ⟨H4, rfl, hM4, w1, w2⟩ := mout _ _ hM3
        by_cases c0 : r.1.ed = 0
        · simp only [c0, if_true] at hrun
          simp +contextual -dsimp -implicitDefEqProofs (maxSteps := 5000000) only [go_sem, reduceIte, reduceCtorEq, Nat.reduceEqDiff, Nat.reduceBEq, Nat.reduceAdd, Nat.reduceLeDiff, Nat.reduceMul, Nat.reduceLT, Int.reduceEq, Int.reduceLT, Int.reduceLE, rEn, t0, t2, t3, t8, t9, z, m1, m2, hq.1, hq.2, d1, d2, d3, d4, c0, w2]
          exact adv _ (skipF rest) (skipN rest (q + 1 + kids.size)) r.2 H4 (by simp only [Fo.size]; omega) hsf hgat.rest.skip (numsF_skip rest n5) (by omega) hrun hgo.ok (by omega) (by omega) (by omega) w1 hM4
        · simp only [c0, if_false] at hrun
          simp +contextual -dsimp -implicitDefEqProofs (maxSteps := 5000000) only [go_sem, reduceIte, reduceCtorEq, Nat.reduceEqDiff, Nat.reduceBEq, Nat.reduceAdd, Nat.reduceLeDiff, Nat.reduceMul, Nat.reduceLT, Int.reduceEq, Int.reduceLT, Int.reduceLE, rEn, t0, t2, t3, t8, t9, z, m1, m2, hq.1, hq.2, d1, d2, d3, d4, c0]
          rw [he, hrun]
          refine retR_less (l := [.agg (rEn r.1)]) (H' := H4) ?_ (le_s1 (le_s1 (AHeap.le_refl _) w1) w2) ⟨rfl, hM4⟩
          simp only [resA, go_sem, reduceIte, reduceCtorEq, Nat.reduceEqDiff, Nat.reduceBEq, Nat.reduceAdd, Nat.reduceLeDiff, Nat.reduceMul, Nat.reduceLT, Int.reduceEq, Int.reduceLT, Int.reduceLE, rEn, d1, d2, t8]
      · have hgo := goes_lineR (h := h) (i := q) (body := fun s => runF t kids (q + 1) none h s) (n := cost kids) ht hs' n1 (by omega) (fun s2 hs2 hl2 => goes_run ht kids (q + 1) none (d + 1) h s2 n4 hs2 (by omega) trivial)
        have hgl := hgo.len
        have hrun := runF_line (t := t) (a := a) (b := b) (kids := kids) (rest := rest) (i := q) (h := h) (s := s') k7
        have hcn : cost (.node k a b kids rest) = 2 + (if k = 12 then a.toNat * cost kids else cost kids) + cost rest := rfl
        simp +contextual -dsimp -implicitDefEqProofs (maxSteps := 5000000) only [go_sem, reduceIte, reduceCtorEq, Nat.reduceEqDiff, Nat.reduceBEq, Nat.reduceAdd, Nat.reduceLeDiff, Nat.reduceMul, Nat.reduceLT, Int.reduceEq, Int.reduceLT, Int.reduceLE, t0, t2, t3, t8, t9, z, m1, m2, hq.1, hq.2, d1, d2, d3, d4, k7]
        refine (c_line ht ih (by omega) hgat n1 n4 hs' (by omega) (by omega) (by omega) hMin hp).mono ?_
        rintro _ H3 ⟨rfl, hM3⟩
        generalize lineR k a b q h (fun s => runF t kids (q + 1) none h s) s' = r at hM3 hgo hgl hrun ⊢
        obtain ⟨H4, rfl, hM4, w1, w2⟩ := mout _ _ hM3
        by_cases c0 : r.1.ed = 0
        · simp only [c0, if_true] at hrun
          simp +contextual -dsimp -implicitDefEqProofs (maxSteps := 5000000) only [go_sem, reduceIte, reduceCtorEq, Nat.reduceEqDiff, Nat.reduceBEq, Nat.reduceAdd, Nat.reduceLeDiff, Nat.reduceMul, Nat.reduceLT, Int.reduceEq, Int.reduceLT, Int.reduceLE, rEn, t0, t2, t3, t8, t9, z, m1, m2, hq.1, hq.2, d1, d2, d3, d4, c0, w2]
          exact adv _ rest (q + 1 + kids.size) r.2 H4 (by simp only [Fo.size]; omega) (Nat.le_refl _) hgat.rest n5 (by omega) hrun hgo.ok (by omega) (by omega) (by omega) w1 hM4
        · simp only [c0, if_false] at hrun
          simp +contextual -dsimp -implicitDefEqProofs (maxSteps := 5000000) only [go_sem, reduceIte, reduceCtorEq, Nat.reduceEqDiff, Nat.reduceBEq, Nat.reduceAdd, Nat.reduceLeDiff, Nat.reduceMul, Nat.reduceLT, Int.reduceEq, Int.reduceLT, Int.reduceLE, rEn, t0, t2, t3, t8, t9, z, m1, m2, hq.1, hq.2, d1, d2, d3, d4, c0]
          rw [he, hrun]
          refine retR_less (l := [.agg (rEn r.1)]) (H' := H4) ?_ (le_s1 (le_s1 (AHeap.le_refl _) w1) w2) ⟨rfl, hM4⟩
          simp only [resA, go_sem, reduceIte, reduceCtorEq, Nat.reduceEqDiff, Nat.reduceBEq, Nat.reduceAdd, Nat.reduceLeDiff, Nat.reduceMul, Nat.reduceLT, Int.reduceEq, Int.reduceLT, Int.reduceLE, rEn, d1, d2, t8]
theorem c_linesAll {t : List Class} {cl : Bool} {P : List Line} {clp : Bool} (ht : validT t = true) (hp : P.length ≤ 4398046511104) : ∀ n, LinesOk t cl P clp n
  | 0 => fun f i d h s F H bm hn => by omega
  | n + 1 => c_linesStep ht hp (c_linesAll ht hp n)
end
section
open Go Go.Sim
set_option maxRecDepth 100000
set_option maxHeartbeats 4000000

/-- The lines of a program, with their blocks. -/
noncomputable def forestP (p : List Line) : Fo := @dite _ (∃ f : Fo, p = f.flat 0) (Classical.propDecidable _) (fun h => h.choose) (fun _ => .nil)
theorem forestP_flat (f : Fo) : forestP (f.flat 0) = f := by
  have h : ∃ g : Fo, f.flat 0 = g.flat 0 := ⟨f, rfl⟩
  unfold forestP
  rw [dif_pos h]
  exact (flat_one h.choose_spec).symm
def rs0 : RS := ⟨[], [], -1⟩
noncomputable def runP (t : List Class) (p : List Line) : En × RS := runF t (forestP p) 0 none (-1) rs0
/-- The result of a run, as the program tells it. -/
def resOf (r : En × RS) : Res :=
  if r.1.ed = 2 then ⟨r.2.log, 2, idxF (fun x => decide (r.1.val = x)) (sortI (bfsF r.2.fs r.1.val)), isoL r.2.fs (sortI (bfsF r.2.fs r.1.val))⟩ else ⟨r.2.log, r.1.ed, r.1.val, []⟩
theorem validP_forest {t : List Class} {p : List Line} (h : ValidP t p) : validT t = true ∧ p = (forestP p).flat 0 ∧ numsF t (forestP p) 0 = true ∧ okF (forestP p) false false = true ∧ (forestP p).size = p.length ∧ (forestP p).size ≤ 24 := by
  obtain ⟨h1, h2, f, rfl, h3, h4⟩ := h
  rw [forestP_flat]
  rw [flat_len] at h2
  exact ⟨h1, rfl, h3, h4, (flat_len f 0).symm, h2⟩
theorem runP_goes {t : List Class} {p : List Line} (h : ValidP t p) : Goes t 34992 rs0 (runP t p).1 (runP t p).2 := by
  obtain ⟨h1, h2, h3, h4, h5, h6⟩ := validP_forest h
  exact (goes_run h1 (forestP p) 0 none 0 (-1) rs0 h3 (fsOk_nil t) (by show (-1 : Int) < 0; omega) trivial).le (cost_small h3 h6)
theorem c_mRunProgram (t : List Class) (cl : Bool) (p : List Line) (cl' : Bool) (H : AHeap) (hn : namesOk t) (hp : p.length ≤ 4398046511104) :
    ACalls Tryz.prog 10 [aTree t cl, aProg p cl'] H fun r H' => OwnRes H H' r (if validB t p = true then resOf (runP t p) else res0) := by
  refine acalls_of1 Tryz.func10 rfl (by kernel_rfl) rfl rfl (awp_sound (fz := fun _ => []) (im := fun s => s == 2) mixed _ _ _ _ (by kernel_rfl) ?_)
  simp +contextual -dsimp -implicitDefEqProofs (maxSteps := 5000000) only [go_sem, reduceIte, reduceCtorEq, Nat.reduceEqDiff, Nat.reduceBEq, Nat.reduceAdd, Nat.reduceLeDiff, Nat.reduceMul, Nat.reduceLT, Int.reduceEq, Int.reduceLT, Int.reduceLE]
  intro b4 hb4
  refine (c_ValidProgram t cl p cl' _ hn hp).det ?_
  cases hv : validB t p
  · simp +contextual -dsimp -implicitDefEqProofs (maxSteps := 5000000) only [go_sem, reduceIte, reduceCtorEq, Nat.reduceEqDiff, Nat.reduceBEq, Nat.reduceAdd, Nat.reduceLeDiff, Nat.reduceMul, Nat.reduceLT, Int.reduceEq, Int.reduceLT, Int.reduceLE]
    refine retR_less (l := [.agg [.vsl [] true, I 0, I 0, .vsl [] true]]) (H' := H) ?_ (le_set hb4) (own0 H)
    simp only [resA, go_sem, reduceIte, reduceCtorEq, Nat.reduceEqDiff, Nat.reduceBEq, Nat.reduceAdd, Nat.reduceLeDiff, Nat.reduceMul, Nat.reduceLT, Int.reduceEq, Int.reduceLT, Int.reduceLE]
  · have hval := validB_true.1 hv
    obtain ⟨h1, h2, h3, h4, h5, h6⟩ := validP_forest hval
    have hgo := runP_goes hval
    have hgl := hgo.len
    have hat := at_top h2
    have hcs := cost_small h3 h6
    have hlen : ((0 + (forestP p).size : Nat) : Int) = (p.length : Int) := by omega
    simp +contextual -dsimp -implicitDefEqProofs (maxSteps := 5000000) only [go_sem, reduceIte, reduceCtorEq, Nat.reduceEqDiff, Nat.reduceBEq, Nat.reduceAdd, Nat.reduceLeDiff, Nat.reduceMul, Nat.reduceLT, Int.reduceEq, Int.reduceLT, Int.reduceLE]
    refine (c_machineOf t cl _ (p.map rLine) cl').mono ?_
    rintro _ H1 ⟨bm, rfl, hM⟩
    simp +contextual -dsimp -implicitDefEqProofs (maxSteps := 5000000) only [go_sem, reduceIte, reduceCtorEq, Nat.reduceEqDiff, Nat.reduceBEq, Nat.reduceAdd, Nat.reduceLeDiff, Nat.reduceMul, Nat.reduceLT, Int.reduceEq, Int.reduceLT, Int.reduceLE]
    have key := c_linesAll (cl := cl) (P := p) (clp := cl') h1 hp ((forestP p).size + 1) (forestP p) 0 0 (-1) rs0 (H.set b4 ⟨4, 34, [[.vsl [] true, I 0, I 0, .vsl [] true]]⟩) H1 bm (by omega) hat h3 (fsOk_nil t) (by show (-1 : Int) < 0; omega) (by show 0 + _ ≤ _; omega) (by show 0 + _ ≤ _; omega) hM
    rw [hlen, show ((0 : Nat) : Int) = 0 from rfl] at key
    refine key.mono ?_
    rintro _ H2 ⟨rfl, hM2⟩
    have er : runF t (forestP p) 0 none (-1) rs0 = runP t p := rfl
    rw [er] at hM2 ⊢
    generalize runP t p = r at hM2 hgo hgl ⊢
    simp +contextual -dsimp -implicitDefEqProofs (maxSteps := 5000000) only [go_sem, reduceIte, reduceCtorEq, Nat.reduceEqDiff, Nat.reduceBEq, Nat.reduceAdd, Nat.reduceLeDiff, Nat.reduceMul, Nat.reduceLT, Int.reduceEq, Int.reduceLT, Int.reduceLE, rEn]
    refine (c_mresult _ H2 bm _ _ r.2.log r.2.fs r.2.first r.1.ed r.1.val hM2 hgo.ok.ho (by have : (rs0 : RS).fs.length = 0 := rfl; omega) hgo.val).mono ?_
    rintro x H3 hr
    have hr' : OwnRes (H.set b4 ⟨4, 34, [[.vsl [] true, I 0, I 0, .vsl [] true]]⟩) H3 x (resOf r) := by
      obtain ⟨xl, xh, G1, e1, e2, e3⟩ := hr
      refine ⟨xl, xh, G1, ?_, ?_, ?_⟩
      · rw [e1]; unfold resOf; split
        · rename_i q; rw [q]
        · rfl
      · unfold resOf; split <;> exact e2
      · unfold resOf; split
        · rename_i q; rw [if_pos q] at e3; exact e3
        · rename_i q; rw [if_neg q] at e3; exact e3
    obtain ⟨H4, rfl, hown, hn4⟩ := own_out hr' hb4
    obtain ⟨xl, xh, rfl, o1, o2⟩ := own_row hown
    simp +contextual -dsimp -implicitDefEqProofs (maxSteps := 5000000) only [go_sem, reduceIte, reduceCtorEq, Nat.reduceEqDiff, Nat.reduceBEq, Nat.reduceAdd, Nat.reduceLeDiff, Nat.reduceMul, Nat.reduceLT, Int.reduceEq, Int.reduceLT, Int.reduceLE, o1, o2]
    refine retR_less (l := [.agg [xl, I (resOf r).ed, I (resOf r).val, xh]]) (H' := H4) ?_ (le_set hn4) hown
    simp only [resA, go_sem, reduceIte, reduceCtorEq, Nat.reduceEqDiff, Nat.reduceBEq, Nat.reduceAdd, Nat.reduceLeDiff, Nat.reduceMul, Nat.reduceLT, Int.reduceEq, Int.reduceLT, Int.reduceLE]
end
section
open Go Go.Sim
set_option maxRecDepth 100000

/-- The first 'else' of a try. -/
def elseF : Fo → Nat → Option (Nat × Fo)
  | .nil, _ => none
  | .node k _ _ kids rest, i => if followsK k = true then (if k = 9 then some (i, kids) else elseF rest (i + 1 + kids.size)) else none
/-- The last line that goes on with a try. -/
def lastB : Fo → Nat → Option (Nat × Int × Fo)
  | .nil, _ => none
  | .node k _ _ kids rest, i => if followsK k = true then (match lastB rest (i + 1 + kids.size) with | some x => some x | none => some (i, k, kids)) else none
/-- The first line of a try that catches a class. -/
def catchF (t : List Class) (c : Int) : Fo → Nat → Option (Nat × Fo)
  | .nil, _ => none
  | .node k a _ kids rest, i => if followsK k = true then (if k = 8 ∧ isF t c a = true then some (i, kids) else catchF t c rest (i + 1 + kids.size)) else none
def finR (t : List Class) (f : Fo) (i : Nat) (e : En) (h : Int) (s : RS) : En × RS :=
  match lastB f i with
  | some (q, k, ks) => if k = 10 then (fun l : En × RS => (if l.1.ed = 0 then e else l.1, l.2)) (runF t ks (q + 1) none (if e.ed = 2 then e.val else h) s) else (e, s)
  | none => (e, s)
def midR (t : List Class) (f : Fo) (i : Nat) (e : En) (h : Int) (s : RS) : En × RS :=
  if e.ed = 0 then (match elseF f i with | some (q, ks) => runF t ks (q + 1) none h s | none => (e, s))
  else if e.ed = 2 then (match catchF t (clsOf s e.val) f i with | some (q, ks) => runF t ks (q + 1) none e.val s | none => (e, s))
  else (e, s)
theorem headsK_mem {k : Int} : ∀ {f : Fo}, k ∈ headsK f → followsK k = true
  | .nil, h => by cases h
  | .node k' a b kids rest, h => by
    simp only [headsK] at h
    split at h
    · rename_i hk
      rcases List.mem_cons.1 h with rfl | h
      · exact hk
      · exact headsK_mem h
    · cases h
theorem tryG_ten {ks : List Int} (hf : ∀ k ∈ ks, followsK k = true) (h : tryG 10 ks = true) : ks = [] := by
  cases ks with
  | nil => rfl
  | cons k ks =>
    simp only [tryG, Bool.and_eq_true, Bool.or_eq_true, decide_eq_true_eq] at h
    omega
theorem chain_empty {t : List Class} {f : Fo} (h : headsK f = []) {i : Nat} {st e : En} {g : Int} {s : RS} : chainR t f i st e g s = (e, s) ∧ lastB f i = none ∧ elseF f i = none ∧ ∀ c, catchF t c f i = none := by
  cases f with
  | nil => exact ⟨rfl, rfl, rfl, fun _ => rfl⟩
  | node k a b kids rest =>
    simp only [headsK] at h
    split at h
    · cases h
    · rename_i hk
      simp [chainR, lastB, elseF, catchF, hk]
/-- Behind what has been run of a try. -/
theorem chain_fin {t : List Class} : ∀ (f : Fo) (i : Nat) (st e : En) (h : Int) (s : RS) (last : Int), tryG last (headsK f) = true → (st.ed ≠ 2 ∨ 8 < last) → (st.ed ≠ 0 ∨ 9 ≤ last) → chainR t f i st e h s = finR t f i e h s
  | .nil, i, st, e, h, s, last, _, _, _ => rfl
  | .node k a b kids rest, i, st, e, h, s, last, hg, c1, c2 => by
    by_cases hk : followsK k = true
    · have hk' := hk
      simp only [followsK, inR, Bool.and_eq_true, decide_eq_true_eq] at hk'
      simp only [headsK, hk, if_true, tryG, Bool.and_eq_true, Bool.or_eq_true, decide_eq_true_eq] at hg
      obtain ⟨g1, g2⟩ := hg
      by_cases k10 : k = 10
      · subst k10
        have he := tryG_ten (fun k hk => headsK_mem hk) g2
        simp only [chainR, hk, if_true, show ¬ (10 : Int) = 8 by decide, show ¬ (10 : Int) = 9 by decide, if_false]
        rw [(chain_empty (t := t) he).1]
        have hl : lastB (.node 10 a b kids rest) i = some (i, 10, kids) := by
          simp only [lastB, hk, if_true]; rw [(chain_empty (t := t) (e := e) (st := st) (g := h) (s := s) he).2.1]
        unfold finR
        rw [hl]
        simp
      · have hrest : chainR t (.node k a b kids rest) i st e h s = chainR t rest (i + 1 + kids.size) st e h s := by
          simp only [chainR, hk, if_true]
          by_cases k8 : k = 8
          · rw [if_pos k8, if_neg (by omega)]
          · have k9 : k = 9 := by omega
            rw [if_neg k8, if_pos k9, if_neg (by omega)]
        rw [hrest]
        have hfin : finR t (.node k a b kids rest) i e h s = finR t rest (i + 1 + kids.size) e h s := by
          unfold finR
          simp only [lastB, hk, if_true]
          cases hl : lastB rest (i + 1 + kids.size) with
          | none => simp [k10]
          | some x => rfl
        rw [hfin]
        exact chain_fin rest _ st e h s k g2 (by omega) (by omega)
    · have he : headsK (.node k a b kids rest) = [] := by simp [headsK, hk]
      have := chain_empty (t := t) (i := i) (st := st) (e := e) (g := h) (s := s) he
      rw [this.1]
      unfold finR
      rw [this.2.1]
theorem finR_skip {t : List Class} {k a b : Int} {kids rest : Fo} {i : Nat} {e : En} {h : Int} {s : RS} (hk : followsK k = true) (k10 : k ≠ 10) : finR t (.node k a b kids rest) i e h s = finR t rest (i + 1 + kids.size) e h s := by
  unfold finR
  simp only [lastB, hk, if_true]
  cases hl : lastB rest (i + 1 + kids.size) with
  | none => simp [k10]
  | some x => rfl
/-- What goes on with a try, as the reference takes it. -/
theorem chain_spec {t : List Class} : ∀ (f : Fo) (i : Nat) (e : En) (h : Int) (s : RS) (last : Int), tryG last (headsK f) = true → chainR t f i e e h s = finR t f i (midR t f i e h s).1 h (midR t f i e h s).2
  | .nil, i, e, h, s, last, _ => by
    unfold midR; simp [elseF, catchF, chainR, finR, lastB]
  | .node k a b kids rest, i, e, h, s, last, hg => by
    by_cases hk : followsK k = true
    · have hk' := hk
      simp only [followsK, inR, Bool.and_eq_true, decide_eq_true_eq] at hk'
      simp only [headsK, hk, if_true, tryG, Bool.and_eq_true, Bool.or_eq_true, decide_eq_true_eq] at hg
      obtain ⟨g1, g2⟩ := hg
      by_cases k8 : k = 8
      · subst k8
        by_cases hc : e.ed = 2 ∧ isF t (clsOf s e.val) a = true
        · have hm : midR t (.node 8 a b kids rest) i e h s = runF t kids (i + 1) none e.val s := by
            unfold midR
            rw [if_neg (by omega), if_pos hc.1]
            simp only [catchF, hk, if_true, hc.2, and_self]
          rw [hm, finR_skip hk (by decide)]
          simp only [chainR, hk, if_true, hc, and_self]
          exact chain_fin rest _ ⟨-1, 0⟩ _ h _ 8 g2 (.inl (by show (-1 : Int) ≠ 2; decide)) (.inl (by show (-1 : Int) ≠ 0; decide))
        · have hm : midR t (.node 8 a b kids rest) i e h s = midR t rest (i + 1 + kids.size) e h s := by
            unfold midR
            by_cases e0 : e.ed = 0
            · rw [if_pos e0, if_pos e0]
              simp only [elseF, hk, if_true, show ¬ (8 : Int) = 9 by decide, if_false]
            · rw [if_neg e0, if_neg e0]
              by_cases e2 : e.ed = 2
              · rw [if_pos e2, if_pos e2]
                have hn : ¬ (isF t (clsOf s e.val) a = true) := fun q => hc ⟨e2, q⟩
                simp only [catchF, hk, if_true, hn, Bool.false_eq_true, and_false, if_false]
              · rw [if_neg e2, if_neg e2]
          rw [hm, finR_skip hk (by decide)]
          have hr : chainR t (.node 8 a b kids rest) i e e h s = chainR t rest (i + 1 + kids.size) e e h s := by
            simp only [chainR, hk, if_true]; rw [if_neg hc]
          rw [hr]
          exact chain_spec rest _ e h s 8 g2
      · by_cases k9 : k = 9
        · subst k9
          by_cases e0 : e.ed = 0
          · have hm : midR t (.node 9 a b kids rest) i e h s = runF t kids (i + 1) none h s := by
              unfold midR
              rw [if_pos e0]
              simp only [elseF, hk, if_true]
            rw [hm, finR_skip hk (by decide)]
            simp only [chainR, hk, if_true, show ¬ (9 : Int) = 8 by decide, if_false, e0]
            exact chain_fin rest _ e _ h _ 9 g2 (.inl (by omega)) (.inr (by omega))
          · have hr : chainR t (.node 9 a b kids rest) i e e h s = chainR t rest (i + 1 + kids.size) e e h s := by
              simp only [chainR, hk, if_true, show ¬ (9 : Int) = 8 by decide, if_false]; rw [if_neg e0]
            have hm : midR t (.node 9 a b kids rest) i e h s = midR t rest (i + 1 + kids.size) e h s := by
              unfold midR
              rw [if_neg e0, if_neg e0]
              split
              · simp only [catchF, hk, if_true, show ¬ (9 : Int) = 8 by decide, false_and, if_false]
              · rfl
            rw [hm, hr, finR_skip hk (by decide)]
            exact chain_spec rest _ e h s 9 g2
        · have k10 : k = 10 := by omega
          subst k10
          have he := tryG_ten (fun k hk => headsK_mem hk) g2
          have ce := chain_empty (t := t) (i := i + 1 + kids.size) (st := e) (e := e) (g := h) (s := s) he
          have hm : midR t (.node 10 a b kids rest) i e h s = (e, s) := by
            unfold midR
            simp only [elseF, catchF, hk, if_true, show ¬ (10 : Int) = 9 by decide, show ¬ (10 : Int) = 8 by decide, false_and, if_false, ce.2.2.1, ce.2.2.2]
            split
            · rfl
            · split <;> rfl
          rw [hm]
          exact chain_fin (.node 10 a b kids rest) i e e h s 9 (by simp [headsK, hk, tryG, g2]) (.inr (by omega)) (.inr (by omega))
    · have he : headsK (.node k a b kids rest) = [] := by simp [headsK, hk]
      have ce := chain_empty (t := t) (i := i) (st := e) (e := e) (g := h) (s := s) he
      have hm : midR t (.node k a b kids rest) i e h s = (e, s) := by
        unfold midR
        simp only [ce.2.2.1, ce.2.2.2]
        split
        · rfl
        · split <;> rfl
      rw [hm, ce.1]
      unfold finR
      rw [ce.2.1]
theorem lastB_pos : ∀ (f : Fo) (i : Nat) (j : Nat), (j :: chainN f i).getLastD 0 = match lastB f i with | some (q, _, _) => q | none => j
  | .nil, i, j => rfl
  | .node k a b kids rest, i, j => by
    simp only [chainN, lastB]
    split
    · have := lastB_pos rest (i + 1 + kids.size) i
      rw [List.getLastD_cons] at this
      rw [List.getLastD_cons, List.getLastD_cons, this]
      cases lastB rest (i + 1 + kids.size) <;> rfl
    · rfl
/-- The lines of a block that is right. -/
theorem okF_node {k a b : Int} {kids rest : Fo} {lp m : Bool} (h : okF (.node k a b kids rest) lp m = true) :
    (followsK k = true ∧ m = true ∧ okF kids lp false = true ∧ okF rest lp true = true) ∨
    (followsK k = false ∧ ((k = 7 ∧ tryOkF (headsK rest) = true ∧ okF kids lp false = true ∧ okF rest lp true = true) ∨
      (k ≠ 7 ∧ okF rest lp false = true ∧ (k = 11 → okF kids lp false = true) ∧ (k = 12 → okF kids true false = true) ∧ (k = 5 ∨ k = 6 → lp = true)))) := by
  simp only [okF] at h
  by_cases hf : followsK k = true
  · rw [if_pos hf] at h
    simp only [Bool.and_eq_true] at h
    exact .inl ⟨hf, h.1, h.2.1, h.2.2⟩
  · right
    refine ⟨by simpa using hf, ?_⟩
    rw [if_neg hf] at h
    by_cases h56 : k = 5 ∨ k = 6
    · rw [if_pos h56, Bool.and_eq_true] at h
      exact .inr ⟨by omega, h.2, fun q => by omega, fun q => by omega, fun _ => h.1⟩
    · rw [if_neg h56] at h
      by_cases h7 : k = 7
      · rw [if_pos h7] at h
        simp only [Bool.and_eq_true] at h
        exact .inl ⟨h7, h.1, h.2.1, h.2.2⟩
      · rw [if_neg h7] at h
        by_cases h11 : k = 11
        · rw [if_pos h11, Bool.and_eq_true] at h
          exact .inr ⟨h7, h.2, fun _ => h.1, fun q => by omega, fun q => absurd q h56⟩
        · rw [if_neg h11] at h
          by_cases h12 : k = 12
          · rw [if_pos h12, Bool.and_eq_true] at h
            exact .inr ⟨h7, h.2, fun q => absurd q h11, fun _ => h.1, fun q => absurd q h56⟩
          · rw [if_neg h12] at h
            exact .inr ⟨h7, h, fun q => absurd q h11, fun q => absurd q h12, fun q => absurd q h56⟩
end
section
open Go Go.Sim
set_option maxRecDepth 100000
set_option maxHeartbeats 4000000

/-- What a run of the reference has done so far, beside other blocks. -/
def StS (F H : AHeap) (bs : Nat) (t : List Class) (cl : Bool) (P : List Line) (clp : Bool) (s : RS) : Prop :=
  ∃ (xl : AV) (G : AHeap) (clf : Bool), F bs = none ∧ Grow rI 1 3 F G xl s.log ∧ G bs = none ∧ H = G.set bs ⟨4, 138, [[.vsl (t.map rClass) cl, aProg P clp, xl, .vsl (s.fs.map rFault) clf]]⟩
section
variable {F H : AHeap} {bs c : Nat} {t : List Class} {cl : Bool} {P : List Line} {clp : Bool} {s : RS} {K : ABlk}
theorem sts_in (hM : StS F H bs t cl P clp s) (hc : H c = none) : StS (F.set c K) (H.set c K) bs t cl P clp s := by
  obtain ⟨xl, G, clf, hF, hg, hb, rfl⟩ := hM
  rw [set_none] at hc
  exact ⟨xl, G.set c K, clf, by rw [set_other (Ne.symm hc.1)]; exact hF, grow_in hg hc.2.2, by rw [set_other (Ne.symm hc.1)]; exact hb, set_comm (Ne.symm hc.1)⟩
theorem sts_out (hM : StS (F.set c K) H bs t cl P clp s) (hc : F c = none) : ∃ H', H = H'.set c K ∧ StS F H' bs t cl P clp s ∧ H' c = none := by
  obtain ⟨xl, G, clf, hF, hg, hb, rfl⟩ := hM
  obtain ⟨G1, k1, rfl, k2⟩ := grow_out hg hc
  rw [set_none] at hF hb
  refine ⟨G1.set bs ⟨4, 138, [[.vsl (t.map rClass) cl, aProg P clp, xl, .vsl (s.fs.map rFault) clf]]⟩, set_comm hF.2.1, ⟨xl, G1, clf, hF.2.2, k1, hb.2.2, rfl⟩, ?_⟩
  rw [set_other hF.2.1]; exact k2
theorem sts_none (hM : StS F H bs t cl P clp s) (hc : H c = none) : F c = none := by
  obtain ⟨xl, G, clf, hF, hg, hb, rfl⟩ := hM
  rw [set_none] at hc
  exact grow_none hg hc.2.2
/-- The log grows. -/
theorem sts_app1 {a : Int} {xl : AV} {log : List Int} {G : AHeap} {M C : ABlk} {cla : Bool} {Kt : AV → AHeap → Prop} {g : Tag ((G.set bs M).set c C, Kt)} (hg1 : Grow rI 1 3 F G xl log) (hb : G bs = none) (hcb : ¬ c = bs) (hc : G c = none) (hl : log.length < 1000000)
    (k : ∀ x' G', Grow rI 1 3 F G' x' (log ++ [a]) → G' bs = none → G' c = none → x'.row = [x'] ∧ x'.one = true → Kt x' ((G'.set bs M).set c C)) :
    appT Tryz.prog ((G.set bs M).set c C) 29 xl (.vsl [[I a]] cla) Kt g := by
  refine grow_append (m := [a]) te29 ti3 rI_len (by decide) (grow_in (grow_in hg1 hb) (by rw [set_other hcb]; exact hc)) (by simp; omega) (by simp; omega) rfl fun x' H' hg' => ?_
  have hFc : F c = none := grow_none hg1 hc
  have hFb : F bs = none := grow_none hg1 hb
  obtain ⟨G', k1, rfl, k2⟩ := grow_out hg' (by rw [set_other hcb]; exact hFc)
  obtain ⟨G2, k3, rfl, k4⟩ := grow_out k1 hFb
  rw [set_other hcb] at k2
  exact k x' G2 k3 k4 k2 (one_grow k3)
end
theorem c_sraise {t : List Class} {cl : Bool} {P : List Line} {clp : Bool} {s : RS} {F H : AHeap} {bs : Nat} (c d g : Int) (hM : StS F H bs t cl P clp s) (hl : s.fs.length ≤ 999998) (ho : heapOk s.fs) (hg : g < s.fs.length) :
    ACalls Tryz.prog 176 [.ptr bs 4 0 0, I c, I d, I g] H fun r H' => r = .agg [I 2, I s.fs.length] ∧ StS F H' bs t cl P clp (s.raise c d g) := by
  obtain ⟨xl, G, clf, hF, hg1, hb, rfl⟩ := hM
  obtain ⟨r1, r2⟩ := one_grow hg1
  refine acalls_of1 Tryz.func176 rfl (by kernel_rfl) rfl rfl (awp_sound (fz := fun _ => []) (im := fun _ => false) mixed _ _ _ _ (by kernel_rfl) ?_)
  simp +contextual -dsimp -implicitDefEqProofs (maxSteps := 5000000) only [go_sem, reduceIte, reduceCtorEq, Nat.reduceEqDiff, Nat.reduceBEq, Nat.reduceAdd, Nat.reduceLeDiff, Nat.reduceMul, Nat.reduceLT, Int.reduceEq, Int.reduceLT, Int.reduceLE]
  rintro b8 ⟨n1, n2, n8⟩
  refine (c_added s.fs clf c d _ (by omega)).mono ?_
  rintro _ H9 ⟨⟨cl1, rfl⟩, hH9⟩
  subst hH9
  simp +contextual -dsimp -implicitDefEqProofs (maxSteps := 5000000) only [go_sem, reduceIte, reduceCtorEq, Nat.reduceEqDiff, Nat.reduceBEq, Nat.reduceAdd, Nat.reduceLeDiff, Nat.reduceMul, Nat.reduceLT, Int.reduceEq, Int.reduceLT, Int.reduceLE, n1, n2, r1, r2]
  have e1 : ((s.fs ++ [(⟨c, d, -1, -1, false⟩ : Fault)]).length : Int) - 1 = s.fs.length := by simp
  rw [e1, w64 (by omega) (by omega)]
  refine (c_raised _ cl1 s.fs.length g _ (by simp; omega) (heapOk_snoc ho rfl (by simp) (by simp; omega)) (by simp) hg).mono ?_
  rintro _ H9 ⟨⟨cl2, rfl⟩, hH9⟩
  subst hH9
  rw [setCtx_raise]
  simp +contextual -dsimp -implicitDefEqProofs (maxSteps := 5000000) only [go_sem, reduceIte, reduceCtorEq, Nat.reduceEqDiff, Nat.reduceBEq, Nat.reduceAdd, Nat.reduceLeDiff, Nat.reduceMul, Nat.reduceLT, Int.reduceEq, Int.reduceLT, Int.reduceLE, n1, n2, r1, r2, e1]
  refine retR_less (l := [.agg [I 2, I s.fs.length]]) (H' := G.set bs _) ?_ (le_set (by rw [set_other n1]; exact n8)) ⟨rfl, ⟨xl, G, cl2, hF, hg1, hb, rfl⟩⟩
  simp only [resA, go_sem, reduceIte, reduceCtorEq, Nat.reduceEqDiff, Nat.reduceBEq, Nat.reduceAdd, Nat.reduceLeDiff, Nat.reduceMul, Nat.reduceLT, Int.reduceEq, Int.reduceLT, Int.reduceLE, n1, n2]
/-- Shorter lists of lines can be run. -/
def SBlkOk (t : List Class) (cl : Bool) (P : List Line) (clp : Bool) (n : Nat) : Prop :=
  ∀ (f : Fo) (i : Nat) (d h : Int) (s : RS) (F H : AHeap) (bs : Nat) (lp : Bool), f.size < n → At P i d f → numsF t f d = true → okF f lp false = true → FsOk t s.fs → h < s.fs.length → s.log.length + cost f ≤ 900000 → s.fs.length + cost f ≤ 900000 → StS F H bs t cl P clp s →
    ACalls Tryz.prog 100 [.ptr bs 4 0 0, I i, I (i + f.size : Nat), I h] H fun r H' => r = .agg (rEn (runF t f i none h s).1) ∧ StS F H' bs t cl P clp (runF t f i none h s).2
theorem c_sbody {t : List Class} {cl : Bool} {P : List Line} {clp : Bool} {n : Nat} (ih : SBlkOk t cl P clp n) {i : Nat} {d k a b h : Int} {kids rest : Fo} {s : RS} {F H : AHeap} {bs : Nat} {lp : Bool}
    (hn : kids.size < n) (hat : At P i d (.node k a b kids rest)) (hk : numsF t kids (d + 1) = true) (hok : okF kids lp false = true) (hs : FsOk t s.fs) (hh : h < s.fs.length) (hl : s.log.length + cost kids ≤ 900000) (hf : s.fs.length + cost kids ≤ 900000) (hM : StS F H bs t cl P clp s) (hp : P.length ≤ 4398046511104) :
    ACalls Tryz.prog 189 [.ptr bs 4 0 0, I i, I h] H fun r H' => r = .agg (rEn (runF t kids (i + 1) none h s).1) ∧ StS F H' bs t cl P clp (runF t kids (i + 1) none h s).2 := by
  have hi := hat.head.1
  have hw : IntKind.i64.wrap ((i : Int) + 1) = ((i + 1 : Nat) : Int) := by rw [w64 (by omega) (by omega)]; rfl
  obtain ⟨xl, G, clf, hF, hg1, hb, rfl⟩ := id hM
  refine acalls_of1 Tryz.func189 rfl (by kernel_rfl) rfl rfl (awp_sound (fz := fun _ => []) (im := fun _ => false) mixed _ _ _ _ (by kernel_rfl) ?_)
  simp +contextual -dsimp -implicitDefEqProofs (maxSteps := 5000000) only [go_sem, reduceIte, reduceCtorEq, Nat.reduceEqDiff, Nat.reduceBEq, Nat.reduceAdd, Nat.reduceLeDiff, Nat.reduceMul, Nat.reduceLT, Int.reduceEq, Int.reduceLT, Int.reduceLE, hw]
  rintro b6 ⟨n1, n2, hn2⟩
  have hb6 : ∀ K, (G.set bs K) b6 = none := fun K => by rw [set_other n1]; exact hn2
  refine (c_blockEnd P clp i _ hi).det ?_
  rw [hat.endP]
  simp +contextual -dsimp -implicitDefEqProofs (maxSteps := 5000000) only [go_sem, reduceIte, reduceCtorEq, Nat.reduceEqDiff, Nat.reduceBEq, Nat.reduceAdd, Nat.reduceLeDiff, Nat.reduceMul, Nat.reduceLT, Int.reduceEq, Int.reduceLT, Int.reduceLE, hw, n1, n2]
  refine (ih kids (i + 1) (d + 1) h s _ _ bs lp hn hat.kids hk hok hs hh hl hf (sts_in (K := ⟨2, 140, [[I 0, I 0]]⟩) hM (hb6 _))).mono ?_
  rintro _ H3 ⟨rfl, hM3⟩
  obtain ⟨H4, rfl, hM4, hn4⟩ := sts_out hM3 (sts_none hM (hb6 _))
  simp +contextual -dsimp -implicitDefEqProofs (maxSteps := 5000000) only [go_sem, reduceIte, reduceCtorEq, Nat.reduceEqDiff, Nat.reduceBEq, Nat.reduceAdd, Nat.reduceLeDiff, Nat.reduceMul, Nat.reduceLT, Int.reduceEq, Int.reduceLT, Int.reduceLE, rEn]
  refine retR_less (l := [.agg (rEn (runF t kids (i + 1) none h s).1)]) (H' := H4) ?_ (le_set hn4) ⟨rfl, hM4⟩
  simp only [resA, go_sem, reduceIte, reduceCtorEq, Nat.reduceEqDiff, Nat.reduceBEq, Nat.reduceAdd, Nat.reduceLeDiff, Nat.reduceMul, Nat.reduceLT, Int.reduceEq, Int.reduceLT, Int.reduceLE, rEn]
theorem c_swith {t : List Class} {cl : Bool} {P : List Line} {clp : Bool} {n : Nat} (ht : validT t = true) (ih : SBlkOk t cl P clp n) {i : Nat} {d a b h : Int} {kids rest : Fo} {s : RS} {F H : AHeap} {bs : Nat} {lp : Bool}
    (hn : kids.size < n) (hat : At P i d (.node 11 a b kids rest)) (hno : numOk t 11 a b = true) (hk : numsF t kids (d + 1) = true) (hok : okF kids lp false = true) (hs : FsOk t s.fs) (hh : h < s.fs.length) (hl : s.log.length + (2 + cost kids) ≤ 900000) (hf : s.fs.length + (2 + cost kids) ≤ 900000) (hM : StS F H bs t cl P clp s) (hp : P.length ≤ 4398046511104) :
    ACalls Tryz.prog 179 [.ptr bs 4 0 0, I i, I h] H fun r H' => r = .agg (rEn (withS a b (runF t kids (i + 1) none h (s.tell (100 + a)))).1) ∧ StS F H' bs t cl P clp (withS a b (runF t kids (i + 1) none h (s.tell (100 + a)))).2 := by
  have hi := hat.head.1
  have hx := hat.head.2
  have ha := hno
  unfold numOk at ha
  rw [if_neg (by omega), if_neg (by omega), if_neg (by omega), if_pos rfl, Bool.and_eq_true] at ha
  simp only [inR, Bool.and_eq_true, decide_eq_true_eq] at ha
  have hw1 : IntKind.i64.wrap (100 + a) = 100 + a := w64 (by omega) (by omega)
  have hw2 : IntKind.i64.wrap (200 + a) = 200 + a := w64 (by omega) (by omega)
  obtain ⟨xl, G, clf, hF, hg1, hb, rfl⟩ := id hM
  refine acalls_of1 Tryz.func179 rfl (by kernel_rfl) rfl rfl (awp_sound (fz := fun r => if r = 1 then [7] else if r = 3 then [8] else []) (im := fun _ => false) mixed _ _ _ _ (by kernel_rfl) ?_)
  simp +contextual -dsimp -implicitDefEqProofs (maxSteps := 5000000) only [go_sem, reduceIte, reduceCtorEq, Nat.reduceEqDiff, Nat.reduceBEq, Nat.reduceAdd, Nat.reduceLeDiff, Nat.reduceMul, Nat.reduceLT, Int.reduceEq, Int.reduceLT, Int.reduceLE]
  rintro b6 ⟨n1, n2, hn2⟩
  have hF6 : F b6 = none := grow_none hg1 hn2
  simp +contextual -dsimp -implicitDefEqProofs (maxSteps := 5000000) only [go_sem, reduceIte, reduceCtorEq, Nat.reduceEqDiff, Nat.reduceBEq, Nat.reduceAdd, Nat.reduceLeDiff, Nat.reduceMul, Nat.reduceLT, Int.reduceEq, Int.reduceLT, Int.reduceLE, hi, hx, n1, n2]
  rintro b7 hb7
  refine draw_intro [0, 0, 0, 0, 0, 0, 0, 0, 0, 2, 0, 0, 2] AHeap.none (by kernel_rfl) none_le ?_
  simp +contextual -dsimp -implicitDefEqProofs (maxSteps := 5000000) only [go_sem, reduceIte, reduceCtorEq, Nat.reduceEqDiff, Nat.reduceBEq, Nat.reduceAdd, Nat.reduceLeDiff, Nat.reduceMul, Nat.reduceLT, Int.reduceEq, Int.reduceLT, Int.reduceLE, hi, hx, n1, n2, hw1]
  refine sts_app1 hg1 hb n1 hn2 (by omega) fun x2 G2 y1 y3 y4 y5 => ?_
  obtain ⟨r1, r2⟩ := y5
  simp +contextual -dsimp -implicitDefEqProofs (maxSteps := 5000000) only [go_sem, reduceIte, reduceCtorEq, Nat.reduceEqDiff, Nat.reduceBEq, Nat.reduceAdd, Nat.reduceLeDiff, Nat.reduceMul, Nat.reduceLT, Int.reduceEq, Int.reduceLT, Int.reduceLE, n1, n2, r1, r2]
  have hMt : StS F (G2.set bs ⟨4, 138, [[.vsl (t.map rClass) cl, aProg P clp, x2, .vsl (s.fs.map rFault) clf]]⟩) bs t cl P clp (s.tell (100 + a)) := ⟨x2, G2, clf, hF, y1, y3, rfl⟩
  have hGb6 : (G2.set bs ⟨4, 138, [[.vsl (t.map rClass) cl, aProg P clp, x2, .vsl (s.fs.map rFault) clf]]⟩) b6 = none := by rw [set_other n1]; exact y4
  have tl : (s.tell (100 + a)).log.length = s.log.length + 1 := by simp [RS.tell]
  have hgo := goes_run ht kids (i + 1) none (d + 1) h (s.tell (100 + a)) hk hs hh trivial
  have hgl := hgo.len
  refine (c_sbody ih hn hat hk hok (s := s.tell (100 + a)) hs hh (by rw [tl]; omega) (by show s.fs.length + _ ≤ _; omega) (sts_in (K := ⟨2, 140, [[I 0, I 0]]⟩) hMt hGb6) hp).mono ?_
  rintro _ H3 ⟨rfl, hM3⟩
  generalize runF t kids (i + 1) none h (s.tell (100 + a)) = r at hM3 hgo hgl ⊢
  obtain ⟨H4, rfl, hM4, hn4⟩ := sts_out hM3 hF6
  obtain ⟨xl', G3, clf', hF', hg1', hb', rfl⟩ := id hM4
  have hn5 := hn4
  rw [set_none] at hn5
  have hn6 := hn5.2.2
  simp +contextual -dsimp -implicitDefEqProofs (maxSteps := 5000000) only [go_sem, reduceIte, reduceCtorEq, Nat.reduceEqDiff, Nat.reduceBEq, Nat.reduceAdd, Nat.reduceLeDiff, Nat.reduceMul, Nat.reduceLT, Int.reduceEq, Int.reduceLT, Int.reduceLE, rEn, n1, n2, hi, hx]
  rintro b8 hb8
  refine draw_intro [0, 0, 0, 0, 0, 0, 0, 0, 0, 2, 0, 0, 2] AHeap.none (by kernel_rfl) none_le ?_
  simp +contextual -dsimp -implicitDefEqProofs (maxSteps := 5000000) only [go_sem, reduceIte, reduceCtorEq, Nat.reduceEqDiff, Nat.reduceBEq, Nat.reduceAdd, Nat.reduceLeDiff, Nat.reduceMul, Nat.reduceLT, Int.reduceEq, Int.reduceLT, Int.reduceLE, rEn, n1, n2, hi, hx, hw2]
  refine sts_app1 hg1' hb' n1 hn6 (by omega) fun x3 G4 z1 z3 z4 z5 => ?_
  obtain ⟨q1, q2⟩ := z5
  simp +contextual -dsimp -implicitDefEqProofs (maxSteps := 5000000) only [go_sem, reduceIte, reduceCtorEq, Nat.reduceEqDiff, Nat.reduceBEq, Nat.reduceAdd, Nat.reduceLeDiff, Nat.reduceMul, Nat.reduceLT, Int.reduceEq, Int.reduceLT, Int.reduceLE, n1, n2, q1, q2]
  have hMf : StS F (G4.set bs ⟨4, 138, [[.vsl (t.map rClass) cl, aProg P clp, x3, .vsl (r.2.fs.map rFault) clf']]⟩) bs t cl P clp (r.2.tell (200 + a)) := ⟨x3, G4, clf', hF', z1, z3, rfl⟩
  have hGf : (G4.set bs ⟨4, 138, [[.vsl (t.map rClass) cl, aProg P clp, x3, .vsl (r.2.fs.map rFault) clf']]⟩) b6 = none := by rw [set_other n1]; exact z4
  unfold withS
  by_cases hc : r.1.ed = 2 ∧ b = 1
  · rw [if_pos hc]
    simp +contextual -dsimp -implicitDefEqProofs (maxSteps := 5000000) only [go_sem, reduceIte, reduceCtorEq, Nat.reduceEqDiff, Nat.reduceBEq, Nat.reduceAdd, Nat.reduceLeDiff, Nat.reduceMul, Nat.reduceLT, Int.reduceEq, Int.reduceLT, Int.reduceLE, n1, n2, q1, q2, hc.1, hc.2]
    refine retR_less (l := [.agg (rEn .next)]) (H' := G4.set bs _) ?_ (le_set hGf) ⟨rfl, hMf⟩
    simp only [resA, go_sem, reduceIte, reduceCtorEq, Nat.reduceEqDiff, Nat.reduceBEq, Nat.reduceAdd, Nat.reduceLeDiff, Nat.reduceMul, Nat.reduceLT, Int.reduceEq, Int.reduceLT, Int.reduceLE, rEn, En.next]
  · rw [if_neg hc]
    by_cases hc1 : r.1.ed = 2
    · have hc2 : ¬ b = 1 := fun q => hc ⟨hc1, q⟩
      simp +contextual -dsimp -implicitDefEqProofs (maxSteps := 5000000) only [go_sem, reduceIte, reduceCtorEq, Nat.reduceEqDiff, Nat.reduceBEq, Nat.reduceAdd, Nat.reduceLeDiff, Nat.reduceMul, Nat.reduceLT, Int.reduceEq, Int.reduceLT, Int.reduceLE, n1, n2, q1, q2, hc1, hc2]
      refine retR_less (l := [.agg (rEn r.1)]) (H' := G4.set bs _) ?_ (le_set hGf) ⟨rfl, hMf⟩
      simp only [resA, go_sem, reduceIte, reduceCtorEq, Nat.reduceEqDiff, Nat.reduceBEq, Nat.reduceAdd, Nat.reduceLeDiff, Nat.reduceMul, Nat.reduceLT, Int.reduceEq, Int.reduceLT, Int.reduceLE, rEn, hc1]
    · simp +contextual -dsimp -implicitDefEqProofs (maxSteps := 5000000) only [go_sem, reduceIte, reduceCtorEq, Nat.reduceEqDiff, Nat.reduceBEq, Nat.reduceAdd, Nat.reduceLeDiff, Nat.reduceMul, Nat.reduceLT, Int.reduceEq, Int.reduceLT, Int.reduceLE, n1, n2, q1, q2, hc1]
      refine retR_less (l := [.agg (rEn r.1)]) (H' := G4.set bs _) ?_ (le_set hGf) ⟨rfl, hMf⟩
      simp only [resA, go_sem, reduceIte, reduceCtorEq, Nat.reduceEqDiff, Nat.reduceBEq, Nat.reduceAdd, Nat.reduceLeDiff, Nat.reduceMul, Nat.reduceLT, Int.reduceEq, Int.reduceLT, Int.reduceLE, rEn]
theorem c_sloop {t : List Class} {cl : Bool} {P : List Line} {clp : Bool} {n : Nat} (ht : validT t = true) (ih : SBlkOk t cl P clp n) {i : Nat} {d a b h : Int} {kids rest : Fo} {s : RS} {F H : AHeap} {bs : Nat} {lp : Bool}
    (hn : kids.size < n) (hat : At P i d (.node 12 a b kids rest)) (hno : numOk t 12 a b = true) (hk : numsF t kids (d + 1) = true) (hok : okF kids lp false = true) (hs : FsOk t s.fs) (hh : h < s.fs.length) (hl : s.log.length + (2 + a.toNat * cost kids) ≤ 900000) (hf : s.fs.length + (2 + a.toNat * cost kids) ≤ 900000) (hM : StS F H bs t cl P clp s) (hp : P.length ≤ 4398046511104) :
    ACalls Tryz.prog 180 [.ptr bs 4 0 0, I i, I h] H fun r H' => r = .agg (rEn (loopS (fun s => runF t kids (i + 1) none h s) a.toNat s).1) ∧ StS F H' bs t cl P clp (loopS (fun s => runF t kids (i + 1) none h s) a.toNat s).2 := by
  have hi := hat.head.1
  have hx := hat.head.2
  have ha := hno
  unfold numOk at ha
  rw [if_neg (by omega), if_neg (by omega), if_neg (by omega), if_neg (by omega), if_pos rfl, Bool.and_eq_true] at ha
  simp only [inR, Bool.and_eq_true, decide_eq_true_eq] at ha
  obtain ⟨xl, G, clf, hF, hg1, hb, rfl⟩ := id hM
  refine acalls_of1 Tryz.func180 rfl (by kernel_rfl) rfl rfl (awp_sound (fz := fun r => if r = 4 then [8] else []) (im := fun _ => false) mixed _ _ _ _ (by kernel_rfl) ?_)
  simp +contextual -dsimp -implicitDefEqProofs (maxSteps := 5000000) only [go_sem, reduceIte, reduceCtorEq, Nat.reduceEqDiff, Nat.reduceBEq, Nat.reduceAdd, Nat.reduceLeDiff, Nat.reduceMul, Nat.reduceLT, Int.reduceEq, Int.reduceLT, Int.reduceLE]
  rintro b6 ⟨n1, n2, hn2⟩
  have hF6 : F b6 = none := grow_none hg1 hn2
  simp +contextual -dsimp -implicitDefEqProofs (maxSteps := 5000000) only [go_sem, reduceIte, reduceCtorEq, Nat.reduceEqDiff, Nat.reduceBEq, Nat.reduceAdd, Nat.reduceLeDiff, Nat.reduceMul, Nat.reduceLT, Int.reduceEq, Int.reduceLT, Int.reduceLE, hi, hx, n1, n2]
  refine aloop mixed (fz := fun r => if r = 4 then [8] else []) (im := fun _ => false) (by kernel_rfl) (fun m tm H' => ∃ (s' : RS) (H'' : AHeap), m ≤ a.toNat ∧ H' = H''.set b6 ⟨2, 140, [[I 0, I 0]]⟩ ∧ H'' b6 = none ∧ StS F H'' bs t cl P clp s' ∧ FsOk t s'.fs ∧ s.fs.length ≤ s'.fs.length ∧ s'.fs.length ≤ s.fs.length + (a.toNat - m) * cost kids ∧ s'.log.length ≤ s.log.length + (a.toNat - m) * cost kids ∧ loopS (fun s => runF t kids (i + 1) none h s) a.toNat s = loopS (fun s => runF t kids (i + 1) none h s) m s' ∧ tm 0 = .ptr bs 4 0 0 ∧ tm 1 = I i ∧ tm 2 = I h ∧ tm 6 = .ptr b6 2 0 0 ∧ tm 7 = I m) a.toNat ⟨s, G.set bs _, Nat.le_refl _, rfl, by rw [set_other n1]; exact hn2, hM, hs, Nat.le_refl _, by omega, by omega, rfl, ?_⟩ ?_
  · simp +contextual -dsimp -implicitDefEqProofs (maxSteps := 5000000) only [go_sem, reduceIte, reduceCtorEq, Nat.reduceEqDiff, Nat.reduceBEq, Nat.reduceAdd, Nat.reduceLeDiff, Nat.reduceMul, Nat.reduceLT, Int.reduceEq, Int.reduceLT, Int.reduceLE, n1, n2]
    have e : a = ((a.toNat : Nat) : Int) := by omega
    rw [hx]
    exact congrArg I e
  · rintro m tm _ ⟨s', H'', hm, rfl, hb6, hM', hs', g1, g2, g3, he, t0, t1, t2, t6, t7⟩
    cases m with
    | zero =>
      have z : ¬ (0 : Int) < ((0 : Nat) : Int) := by omega
      simp +contextual -dsimp -implicitDefEqProofs (maxSteps := 5000000) only [go_sem, reduceIte, reduceCtorEq, Nat.reduceEqDiff, Nat.reduceBEq, Nat.reduceAdd, Nat.reduceLeDiff, Nat.reduceMul, Nat.reduceLT, Int.reduceEq, Int.reduceLT, Int.reduceLE, n1, n2, t0, t1, t2, t6, t7, z]
      rw [he]
      refine retR_less (l := [.agg (rEn .next)]) (H' := H'') ?_ (le_set hb6) ⟨rfl, hM'⟩
      simp only [resA, go_sem, reduceIte, reduceCtorEq, Nat.reduceEqDiff, Nat.reduceBEq, Nat.reduceAdd, Nat.reduceLeDiff, Nat.reduceMul, Nat.reduceLT, Int.reduceEq, Int.reduceLT, Int.reduceLE, rEn, En.next, t6]
    | succ m =>
      have z : (0 : Int) < ((m + 1 : Nat) : Int) := by omega
      have w1 : (a.toNat - (m + 1)) * cost kids + cost kids ≤ a.toNat * cost kids := by
        rw [← Nat.succ_mul]; exact Nat.mul_le_mul_right _ (by omega)
      have w2 : (a.toNat - m) * cost kids = (a.toNat - (m + 1)) * cost kids + cost kids := by
        rw [← Nat.succ_mul]; congr 1; omega
      simp +contextual -dsimp -implicitDefEqProofs (maxSteps := 5000000) only [go_sem, reduceIte, reduceCtorEq, Nat.reduceEqDiff, Nat.reduceBEq, Nat.reduceAdd, Nat.reduceLeDiff, Nat.reduceMul, Nat.reduceLT, Int.reduceEq, Int.reduceLT, Int.reduceLE, n1, n2, t0, t1, t2, t6, t7, z]
      have hgo := goes_run ht kids (i + 1) none (d + 1) h s' hk hs' (by omega) trivial
      have hgl := hgo.len
      refine (c_sbody ih hn hat hk hok (s := s') hs' (by omega) (by omega) (by omega) (sts_in (K := ⟨2, 140, [[I 0, I 0]]⟩) hM' hb6) hp).mono ?_
      rintro _ H3 ⟨rfl, hM3⟩
      simp only [loopS] at he
      generalize runF t kids (i + 1) none h s' = r at hM3 hgo hgl he ⊢
      obtain ⟨H4, rfl, hM4, hn4⟩ := sts_out hM3 hF6
      by_cases c3 : r.1.ed = 3
      · rw [if_neg (by omega), if_pos c3] at he
        simp +contextual -dsimp -implicitDefEqProofs (maxSteps := 5000000) only [go_sem, reduceIte, reduceCtorEq, Nat.reduceEqDiff, Nat.reduceBEq, Nat.reduceAdd, Nat.reduceLeDiff, Nat.reduceMul, Nat.reduceLT, Int.reduceEq, Int.reduceLT, Int.reduceLE, rEn, n1, n2, t0, t1, t2, t6, t7, c3]
        rintro b9 hb9
        rw [he]
        refine retR_less (l := [.agg (rEn .next)]) (H' := H4) ?_ (le_set hn4) ⟨rfl, hM4⟩
        simp only [resA, go_sem, reduceIte, reduceCtorEq, Nat.reduceEqDiff, Nat.reduceBEq, Nat.reduceAdd, Nat.reduceLeDiff, Nat.reduceMul, Nat.reduceLT, Int.reduceEq, Int.reduceLT, Int.reduceLE, rEn, En.next, t6]
      by_cases c1 : r.1.ed = 1
      · rw [if_pos (.inl c1)] at he
        simp +contextual -dsimp -implicitDefEqProofs (maxSteps := 5000000) only [go_sem, reduceIte, reduceCtorEq, Nat.reduceEqDiff, Nat.reduceBEq, Nat.reduceAdd, Nat.reduceLeDiff, Nat.reduceMul, Nat.reduceLT, Int.reduceEq, Int.reduceLT, Int.reduceLE, rEn, n1, n2, t0, t1, t2, t6, t7, c1]
        rintro b9 hb9
        rw [he]
        refine retR_less (l := [.agg (rEn r.1)]) (H' := H4) ?_ (le_set hn4) ⟨rfl, hM4⟩
        simp only [resA, go_sem, reduceIte, reduceCtorEq, Nat.reduceEqDiff, Nat.reduceBEq, Nat.reduceAdd, Nat.reduceLeDiff, Nat.reduceMul, Nat.reduceLT, Int.reduceEq, Int.reduceLT, Int.reduceLE, rEn, c1, t6]
      by_cases c2 : r.1.ed = 2
      · rw [if_pos (.inr c2)] at he
        simp +contextual -dsimp -implicitDefEqProofs (maxSteps := 5000000) only [go_sem, reduceIte, reduceCtorEq, Nat.reduceEqDiff, Nat.reduceBEq, Nat.reduceAdd, Nat.reduceLeDiff, Nat.reduceMul, Nat.reduceLT, Int.reduceEq, Int.reduceLT, Int.reduceLE, rEn, n1, n2, t0, t1, t2, t6, t7, c2]
        rintro b9 hb9
        rw [he]
        refine retR_less (l := [.agg (rEn r.1)]) (H' := H4) ?_ (le_set hn4) ⟨rfl, hM4⟩
        simp only [resA, go_sem, reduceIte, reduceCtorEq, Nat.reduceEqDiff, Nat.reduceBEq, Nat.reduceAdd, Nat.reduceLeDiff, Nat.reduceMul, Nat.reduceLT, Int.reduceEq, Int.reduceLT, Int.reduceLE, rEn, c2, t6]
      rw [if_neg (fun q => q.elim c1 c2), if_neg c3] at he
      simp +contextual -dsimp -implicitDefEqProofs (maxSteps := 5000000) only [go_sem, reduceIte, reduceCtorEq, Nat.reduceEqDiff, Nat.reduceBEq, Nat.reduceAdd, Nat.reduceLeDiff, Nat.reduceMul, Nat.reduceLT, Int.reduceEq, Int.reduceLT, Int.reduceLE, rEn, n1, n2, t0, t1, t2, t6, t7, c1, c2, c3]
      rintro b9 hb9
      exact ⟨m, by omega, r.2, H4, by omega, rfl, hn4, hM4, hgo.ok, by omega, by omega, by omega, he, I_wrap (by omega) (by omega) (by omega)⟩
end
section
open Go Go.Sim
set_option maxRecDepth 100000
set_option maxHeartbeats 4000000

/-- A line that goes on with a try, with what its block is worth. -/
structure ChainAt (t : List Class) (p : List Line) (d : Int) (lp : Bool) (f : Fo) (q : Nat) (k : Int) (ks : Fo) : Prop where
  at_ : ∃ a b re, At p q d (.node k a b ks re)
  small : ks.size < f.size
  nums : numsF t ks (d + 1) = true
  ok : okF ks lp false = true
  cost : cost ks ≤ Go.Proofs.YtjpfgafdjlkblaaGreat.cost f
theorem chainAt_up {t : List Class} {p : List Line} {d : Int} {lp : Bool} {k' a b : Int} {kids rest : Fo} {q : Nat} {k : Int} {ks : Fo} (hk : k' ≠ 12) (h : ChainAt t p d lp rest q k ks) : ChainAt t p d lp (.node k' a b kids rest) q k ks :=
  ⟨h.at_, by have := h.small; simp only [Fo.size]; omega, h.nums, h.ok, by have := h.cost; rw [cost_node_le hk]; omega⟩
theorem chainAt_here {t : List Class} {p : List Line} {d : Int} {lp : Bool} {k a b : Int} {kids rest : Fo} {i : Nat} (hk : followsK k = true) (hat : At p i d (.node k a b kids rest)) (hn : numsF t (.node k a b kids rest) d = true) (hok : okF (.node k a b kids rest) lp true = true) :
    ChainAt t p d lp (.node k a b kids rest) i k kids := by
  obtain ⟨n1, n2, n3, n4, n5⟩ := numsF_node hn
  have hk' := hk
  simp only [followsK, inR, Bool.and_eq_true, decide_eq_true_eq] at hk'
  simp only [okF, hk, if_true, Bool.true_and, Bool.and_eq_true] at hok
  exact ⟨⟨a, b, rest, hat⟩, by simp only [Fo.size]; omega, n4, hok.1, by rw [cost_node_le (by omega)]; omega⟩
theorem okF_rest {k a b : Int} {kids rest : Fo} {lp : Bool} (hk : followsK k = true) (hok : okF (.node k a b kids rest) lp true = true) : okF rest lp true = true := by
  simp only [okF, hk, if_true, Bool.true_and, Bool.and_eq_true] at hok
  exact hok.2
theorem elseF_at {t : List Class} {p : List Line} {d : Int} {lp : Bool} : ∀ (f : Fo) (i q : Nat) (ks : Fo), At p i d f → numsF t f d = true → okF f lp true = true → elseF f i = some (q, ks) → ChainAt t p d lp f q 9 ks ∧ ∀ q' ks', lastB f i = some (q', 10, ks') → cost ks + cost ks' ≤ cost f
  | .nil, i, q, ks, _, _, _, h => by cases h
  | .node k a b kids rest, i, q, ks, hat, hn, hok, h => by
    simp only [elseF] at h
    split at h
    · rename_i hk
      have hk' := hk
      simp only [followsK, inR, Bool.and_eq_true, decide_eq_true_eq] at hk'
      obtain ⟨n1, n2, n3, n4, n5⟩ := numsF_node hn
      have hc := cost_node_le (k := k) (a := a) (b := b) (kids := kids) (rest := rest) (by omega)
      split at h
      · rename_i k9
        subst k9
        simp only [Option.some.injEq, Prod.mk.injEq] at h
        obtain ⟨rfl, rfl⟩ := h
        refine ⟨chainAt_here hk hat hn hok, fun q' ks' hl => ?_⟩
        simp only [lastB, hk, if_true] at hl
        cases hr : lastB rest (i + 1 + kids.size) with
        | none => rw [hr] at hl; simp at hl
        | some x =>
          rw [hr] at hl
          simp only [Option.some.injEq] at hl
          have := lastB_cost rest _ hr
          rw [hl] at this
          simp only at this
          omega
      · obtain ⟨h1, h2⟩ := elseF_at rest _ q ks hat.rest n5 (okF_rest hk hok) h
        refine ⟨chainAt_up (by omega) h1, fun q' ks' hl => ?_⟩
        have hcc := h1.cost
        simp only [lastB, hk, if_true] at hl
        cases hr : lastB rest (i + 1 + kids.size) with
        | none =>
          rw [hr] at hl
          simp only [Option.some.injEq, Prod.mk.injEq] at hl
          obtain ⟨_, _, rfl⟩ := hl
          omega
        | some x =>
          rw [hr] at hl
          have := h2 q' ks' (by rw [hr]; exact hl)
          omega
    · cases h
where
  lastB_cost {x : Nat × Int × Fo} : ∀ (f : Fo) (i : Nat), lastB f i = some x → Go.Proofs.YtjpfgafdjlkblaaGreat.cost x.2.2 ≤ Go.Proofs.YtjpfgafdjlkblaaGreat.cost f
    | .nil, i, h => by cases h
    | .node k a b kids rest, i, h => by
      simp only [lastB] at h
      split at h
      · rename_i hk
        have hk' := hk
        simp only [followsK, inR, Bool.and_eq_true, decide_eq_true_eq] at hk'
        have hc := cost_node_le (k := k) (a := a) (b := b) (kids := kids) (rest := rest) (by omega)
        cases hr : lastB rest (i + 1 + kids.size) with
        | none =>
          rw [hr] at h
          simp only [Option.some.injEq] at h
          subst h
          show cost kids ≤ _
          omega
        | some y =>
          rw [hr] at h
          simp only [Option.some.injEq] at h
          subst h
          have := lastB_cost rest _ hr
          omega
      · cases h
theorem catchF_at {t : List Class} {p : List Line} {d : Int} {lp : Bool} {c : Int} : ∀ (f : Fo) (i q : Nat) (ks : Fo), At p i d f → numsF t f d = true → okF f lp true = true → catchF t c f i = some (q, ks) → ChainAt t p d lp f q 8 ks ∧ ∀ q' ks', lastB f i = some (q', 10, ks') → cost ks + cost ks' ≤ cost f
  | .nil, i, q, ks, _, _, _, h => by cases h
  | .node k a b kids rest, i, q, ks, hat, hn, hok, h => by
    simp only [catchF] at h
    split at h
    · rename_i hk
      have hk' := hk
      simp only [followsK, inR, Bool.and_eq_true, decide_eq_true_eq] at hk'
      obtain ⟨n1, n2, n3, n4, n5⟩ := numsF_node hn
      have hc := cost_node_le (k := k) (a := a) (b := b) (kids := kids) (rest := rest) (by omega)
      split at h
      · rename_i k8
        obtain ⟨k8, _⟩ := k8
        subst k8
        simp only [Option.some.injEq, Prod.mk.injEq] at h
        obtain ⟨rfl, rfl⟩ := h
        refine ⟨chainAt_here hk hat hn hok, fun q' ks' hl => ?_⟩
        simp only [lastB, hk, if_true] at hl
        cases hr : lastB rest (i + 1 + kids.size) with
        | none => rw [hr] at hl; simp at hl
        | some x =>
          rw [hr] at hl
          simp only [Option.some.injEq] at hl
          have := elseF_at.lastB_cost rest _ hr
          rw [hl] at this
          simp only at this
          omega
      · obtain ⟨h1, h2⟩ := catchF_at rest _ q ks hat.rest n5 (okF_rest hk hok) h
        refine ⟨chainAt_up (by omega) h1, fun q' ks' hl => ?_⟩
        have hcc := h1.cost
        simp only [lastB, hk, if_true] at hl
        cases hr : lastB rest (i + 1 + kids.size) with
        | none =>
          rw [hr] at hl
          simp only [Option.some.injEq, Prod.mk.injEq] at hl
          obtain ⟨_, _, rfl⟩ := hl
          omega
        | some x =>
          rw [hr] at hl
          have := h2 q' ks' (by rw [hr]; exact hl)
          omega
    · cases h
theorem lastB_in {t : List Class} {p : List Line} {d : Int} {lp : Bool} : ∀ (f : Fo) (i q : Nat) (k : Int) (ks : Fo), At p i d f → numsF t f d = true → okF f lp true = true → lastB f i = some (q, k, ks) → ChainAt t p d lp f q k ks ∧ followsK k = true
  | .nil, i, q, k, ks, _, _, _, h => by cases h
  | .node k' a b kids rest, i, q, k, ks, hat, hn, hok, h => by
    simp only [lastB] at h
    split at h
    · rename_i hk
      have hk' := hk
      simp only [followsK, inR, Bool.and_eq_true, decide_eq_true_eq] at hk'
      obtain ⟨n1, n2, n3, n4, n5⟩ := numsF_node hn
      cases hr : lastB rest (i + 1 + kids.size) with
      | none =>
        rw [hr] at h
        simp only [Option.some.injEq, Prod.mk.injEq] at h
        obtain ⟨rfl, rfl, rfl⟩ := h
        exact ⟨chainAt_here hk hat hn hok, hk⟩
      | some x =>
        rw [hr] at h
        obtain ⟨h1, h2⟩ := lastB_in rest _ q k ks hat.rest n5 (okF_rest hk hok) (by rw [hr]; exact h)
        exact ⟨chainAt_up (by omega) h1, h2⟩
    · cases h
end
section
open Go Go.Sim
set_option maxRecDepth 100000
set_option maxHeartbeats 4000000

theorem toI_cons_at (i x : Nat) (l : List Nat) : (i :: l).getD (x + 1) default = l.getD x default := by simp [List.getD_eq_getElem?_getD]
theorem c_caught {t : List Class} {cl : Bool} {P : List Line} {clp : Bool} (ht : validT t = true) {i j : Nat} {d v : Int} {rest : Fo} {s : RS} {F H : AHeap} {bs : Nat} (cl2 : Bool)
    (hat : At P j d rest) (hs : FsOk t s.fs) (h0 : 0 ≤ v) (h1 : v < s.fs.length) (hM : StS F H bs t cl P clp s) (hp : P.length ≤ 4398046511104) :
    ACalls Tryz.prog 191 [.ptr bs 4 0 0, .vsl ((toI (i :: chainN rest j)).map rI) cl2, I v] H fun r H' => r = I (match catchF t (clsOf s v) rest j with | some (q, _) => (q : Int) | none => -1) ∧ H' = H := by
  have hch := chain_len rest j
  have hrl := hat.len
  have hv : v.toNat < s.fs.length := by omega
  have hcl := hasF_spec (hs.cls v.toNat hv).1
  obtain ⟨xl, G, clf, hF, hg1, hb, rfl⟩ := id hM
  refine acalls_of1 Tryz.func191 rfl (by kernel_rfl) rfl rfl (awp_sound (fz := fun r => if r = 4 then [8] else []) (im := fun _ => false) mixed _ _ _ _ (by kernel_rfl) ?_)
  simp +contextual -dsimp -implicitDefEqProofs (maxSteps := 5000000) only [go_sem, reduceIte, reduceCtorEq, Nat.reduceEqDiff, Nat.reduceBEq, Nat.reduceAdd, Nat.reduceLeDiff, Nat.reduceMul, Nat.reduceLT, Int.reduceEq, Int.reduceLT, Int.reduceLE]
  refine aloop mixed (fz := fun r => if r = 4 then [8] else []) (im := fun _ => false) (by kernel_rfl) (fun m tm H' => ∃ (g : Fo) (q x : Nat), m = g.size ∧ At P q d g ∧ g.size ≤ rest.size ∧ (chainN rest j).drop x = chainN g q ∧ x ≤ (chainN rest j).length ∧ H' = G.set bs ⟨4, 138, [[.vsl (t.map rClass) cl, aProg P clp, xl, .vsl (s.fs.map rFault) clf]]⟩ ∧ catchF t (clsOf s v) rest j = catchF t (clsOf s v) g q ∧ tm 0 = .ptr bs 4 0 0 ∧ tm 1 = .vsl ((toI (i :: chainN rest j)).map rI) cl2 ∧ tm 2 = I v ∧ tm 7 = I (x + 1 : Nat)) rest.size ⟨rest, j, 0, rfl, hat, Nat.le_refl _, rfl, Nat.zero_le _, rfl, rfl, ?_⟩ ?_
  · simp +contextual -dsimp -implicitDefEqProofs (maxSteps := 5000000) only [go_sem, reduceIte, reduceCtorEq, Nat.reduceEqDiff, Nat.reduceBEq, Nat.reduceAdd, Nat.reduceLeDiff, Nat.reduceMul, Nat.reduceLT, Int.reduceEq, Int.reduceLT, Int.reduceLE]
    rfl
  · rintro m tm _ ⟨g, q, x, rfl, hgat, hgs, hdx, hxl, rfl, he, t0, t1, t2, t7⟩
    cases hcq : chainN g q with
    | nil =>
      rw [hcq] at hdx
      have hx := drop_nil hdx
      have hx' : ¬ x + 1 < (chainN rest j).length + 1 := by omega
      have hno : catchF t (clsOf s v) g q = none := by
        cases g with
        | nil => rfl
        | node k2 a2 b2 ks re =>
          simp only [chainN] at hcq
          split at hcq
          · cases hcq
          · rename_i hk2
            simp only [catchF]; rw [if_neg hk2]
      rw [he, hno]
      simp +contextual -dsimp -implicitDefEqProofs (maxSteps := 5000000) only [go_sem, reduceIte, reduceCtorEq, Nat.reduceEqDiff, Nat.reduceBEq, Nat.reduceAdd, Nat.reduceLeDiff, Nat.reduceMul, Nat.reduceLT, Int.reduceEq, Int.reduceLT, Int.reduceLE, t0, t1, t2, t7, toI_len, List.length_cons, hx']
      refine retR_less (l := [I (-1)]) (H' := G.set bs _) ?_ (AHeap.le_refl _) ⟨rfl, rfl⟩
      simp only [resA, go_sem, reduceIte, reduceCtorEq, Nat.reduceEqDiff, Nat.reduceBEq, Nat.reduceAdd, Nat.reduceLeDiff, Nat.reduceMul, Nat.reduceLT, Int.reduceEq, Int.reduceLT, Int.reduceLE]
    | cons q' tl =>
      cases g with
      | nil => simp [chainN] at hcq
      | node k2 a2 b2 ks re =>
        have hk2 : followsK k2 = true := by
          simp only [chainN] at hcq
          split at hcq
          · assumption
          · cases hcq
        have hdx' : (chainN rest j).drop x = q :: chainN re (q + 1 + ks.size) := by
          rw [hdx]; simp only [chainN]; rw [if_pos hk2]
        obtain ⟨hx1, hx2, hx3⟩ := drop_cons hdx'
        have hx' : x + 1 < (chainN rest j).length + 1 := by omega
        have hh2 := hgat.head
        have hef : catchF t (clsOf s v) (.node k2 a2 b2 ks re) q = if k2 = 8 ∧ isF t (clsOf s v) a2 = true then some (q, ks) else catchF t (clsOf s v) re (q + 1 + ks.size) := by
          simp only [catchF]; rw [if_pos hk2]
        have hsz : (Fo.node k2 a2 b2 ks re).size = 1 + ks.size + re.size := rfl
        have szl : ∀ k : Int, re.size < (Fo.node k a2 b2 ks re).size := fun k => by simp only [Fo.size]; omega
        simp +contextual -dsimp -implicitDefEqProofs (maxSteps := 5000000) only [go_sem, reduceIte, reduceCtorEq, Nat.reduceEqDiff, Nat.reduceBEq, Nat.reduceAdd, Nat.reduceLeDiff, Nat.reduceMul, Nat.reduceLT, Int.reduceEq, Int.reduceLT, Int.reduceLE, t0, t1, t2, t7, toI_len, toI_at, toI_cons_at, List.length_cons, hx', hx2]
        refine draw_intro [0, 0, 0, 1, 0, 0, 0, 1, 0, 1, 3, 2] _ (by kernel_rfl) (AHeap.le_refl _) ?_
        simp +contextual -dsimp -implicitDefEqProofs (maxSteps := 5000000) only [go_sem, reduceIte, reduceCtorEq, Nat.reduceEqDiff, Nat.reduceBEq, Nat.reduceAdd, Nat.reduceLeDiff, Nat.reduceMul, Nat.reduceLT, Int.reduceEq, Int.reduceLT, Int.reduceLE, t0, t1, t2, t7, toI_len, toI_at, toI_cons_at, List.length_cons, hx', hx2, hh2.1, hh2.2]
        rintro b8 hb8
        refine ⟨le_set (by rw [set_other hb8.1]; exact hb8.2.2), ?_⟩
        refine draw_intro [0, 0, 0, 0, 0, 0, 0, 0, 0, 0, 0, 0, 0, 0, 0, 0, 0, 0, 0, 2, 0] _ (by kernel_rfl) (AHeap.le_refl _) ?_
        by_cases k8 : k2 = 8
        · simp +contextual -dsimp -implicitDefEqProofs (maxSteps := 5000000) only [go_sem, reduceIte, reduceCtorEq, Nat.reduceEqDiff, Nat.reduceBEq, Nat.reduceAdd, Nat.reduceLeDiff, Nat.reduceMul, Nat.reduceLT, Int.reduceEq, Int.reduceLT, Int.reduceLE, t0, t1, t2, t7, toI_len, toI_at, toI_cons_at, List.length_cons, hx', hx2, hh2.1, hh2.2, k8, h0, h1, hv]
          refine (c_isA t cl _ a2 _ ht hcl.2).det ?_
          simp +contextual -dsimp -implicitDefEqProofs (maxSteps := 5000000) only [go_sem, reduceIte, reduceCtorEq, Nat.reduceEqDiff, Nat.reduceBEq, Nat.reduceAdd, Nat.reduceLeDiff, Nat.reduceMul, Nat.reduceLT, Int.reduceEq, Int.reduceLT, Int.reduceLE, t0, t1, t2, t7, toI_len, toI_at, toI_cons_at, List.length_cons, hx', hx2, hh2.1, hh2.2, k8]
          refine ⟨fun hq => ?_, fun hq => ?_⟩
          · rw [if_pos ⟨k8, hq⟩] at hef
            rw [he, hef]
            refine retR_less (l := [I q]) (H' := G.set bs _) ?_ (AHeap.le_refl _) ⟨rfl, rfl⟩
            simp only [resA, go_sem, reduceIte, reduceCtorEq, Nat.reduceEqDiff, Nat.reduceBEq, Nat.reduceAdd, Nat.reduceLeDiff, Nat.reduceMul, Nat.reduceLT, Int.reduceEq, Int.reduceLT, Int.reduceLE]
          · rw [if_neg (fun z => by have := z.2; unfold isF clsOf at this; rw [hq] at this; cases this)] at hef
            exact ⟨re.size, szl 8, re, q + 1 + ks.size, x + 1, rfl, hgat.rest, by omega, hx3, hx1, by rw [he]; exact hef, I_wrap (by omega) (by omega) (by omega)⟩
        · rw [if_neg (fun z => k8 z.1)] at hef
          simp +contextual -dsimp -implicitDefEqProofs (maxSteps := 5000000) only [go_sem, reduceIte, reduceCtorEq, Nat.reduceEqDiff, Nat.reduceBEq, Nat.reduceAdd, Nat.reduceLeDiff, Nat.reduceMul, Nat.reduceLT, Int.reduceEq, Int.reduceLT, Int.reduceLE, t0, t1, t2, t7, toI_len, toI_at, toI_cons_at, List.length_cons, hx', hx2, hh2.1, hh2.2, k8]
          exact ⟨re.size, szl k2, re, q + 1 + ks.size, x + 1, rfl, hgat.rest, by omega, hx3, hx1, by rw [he]; exact hef, I_wrap (by omega) (by omega) (by omega)⟩
theorem c_sfinally {t : List Class} {cl : Bool} {P : List Line} {clp : Bool} {n : Nat} (ht : validT t = true) (ih : SBlkOk t cl P clp n) {i j : Nat} {d a b h : Int} {kids rest : Fo} {s : RS} {F H : AHeap} {bs : Nat} {lp : Bool} (cl2 : Bool) (e : En)
    (hn : rest.size < n) (hhead : At P i d (.node 7 a b kids rest)) (hj : j = i + 1 + kids.size) (hr : numsF t rest d = true) (hok : okF rest lp true = true) (hs : FsOk t s.fs) (hh : h < s.fs.length) (hev : e.ed = 2 → 0 ≤ e.val ∧ e.val < s.fs.length)
    (hl : ∀ q ks, lastB rest j = some (q, 10, ks) → s.log.length + cost ks ≤ 900000 ∧ s.fs.length + cost ks ≤ 900000) (hM : StS F H bs t cl P clp s) (hp : P.length ≤ 4398046511104) :
    ACalls Tryz.prog 190 [.ptr bs 4 0 0, .vsl ((toI (i :: chainN rest j)).map rI) cl2, .agg (rEn e), I h] H fun r H' => r = .agg (rEn (finR t rest j e h s).1) ∧ StS F H' bs t cl P clp (finR t rest j e h s).2 := by
  subst hj
  have hat := hhead.rest
  have hgl := getD_last i (chainN rest (i + 1 + kids.size))
  have hlp := lastB_pos rest (i + 1 + kids.size) i
  have hcl := chain_len rest (i + 1 + kids.size)
  have hrl := hat.len
  have hwl : IntKind.i64.wrap (((chainN rest (i + 1 + kids.size)).length + 1 : Nat) - 1) = ((chainN rest (i + 1 + kids.size)).length : Int) := by
    rw [w64 (by omega) (by omega)]; omega
  have hlt1 : ((chainN rest (i + 1 + kids.size)).length : Int) < (((chainN rest (i + 1 + kids.size)).length + 1 : Nat) : Int) := by omega
  have hlt2 : (chainN rest (i + 1 + kids.size)).length < (chainN rest (i + 1 + kids.size)).length + 1 := by omega
  obtain ⟨xl, G, clf, hF, hg1, hb, rfl⟩ := id hM
  refine acalls_of1 Tryz.func190 rfl (by kernel_rfl) rfl rfl (awp_sound (fz := fun r => if r = 6 then [10] else []) (im := fun s => s == 6) mixed _ _ _ _ (by kernel_rfl) ?_)
  simp +contextual -dsimp -implicitDefEqProofs (maxSteps := 5000000) only [go_sem, reduceIte, reduceCtorEq, Nat.reduceEqDiff, Nat.reduceBEq, Nat.reduceAdd, Nat.reduceLeDiff, Nat.reduceMul, Nat.reduceLT, Int.reduceEq, Int.reduceLT, Int.reduceLE, toI_len, toI_at, List.length_cons, hwl, hgl, hlt1, hlt2, rEn]
  rintro b8 ⟨n1, n2, hn2⟩
  have hF8 : F b8 = none := grow_none hg1 hn2
  have hb8 : ∀ K, (G.set bs K) b8 = none := fun K => by rw [set_other n1]; exact hn2
  cases hL : lastB rest (i + 1 + kids.size) with
  | none =>
    have ef : finR t rest (i + 1 + kids.size) e h s = (e, s) := by unfold finR; rw [hL]
    rw [ef]
    rw [hL] at hlp
    simp only at hlp
    rw [hlp]
    simp +contextual -dsimp -implicitDefEqProofs (maxSteps := 5000000) only [go_sem, reduceIte, reduceCtorEq, Nat.reduceEqDiff, Nat.reduceBEq, Nat.reduceAdd, Nat.reduceLeDiff, Nat.reduceMul, Nat.reduceLT, Int.reduceEq, Int.reduceLT, Int.reduceLE, hhead.head.1, hhead.head.2, n1, n2]
    refine retR_less (l := [.agg (rEn e)]) (H' := G.set bs _) ?_ (le_set (hb8 _)) ⟨rfl, hM⟩
    simp only [resA, go_sem, reduceIte, reduceCtorEq, Nat.reduceEqDiff, Nat.reduceBEq, Nat.reduceAdd, Nat.reduceLeDiff, Nat.reduceMul, Nat.reduceLT, Int.reduceEq, Int.reduceLT, Int.reduceLE, rEn]
  | some y =>
    obtain ⟨q, k, ks⟩ := y
    rw [hL] at hlp
    simp only at hlp
    rw [hlp]
    obtain ⟨⟨⟨a2, b2, re2, hq⟩, c2, c3, c4, c5⟩, c6⟩ := lastB_in (t := t) (lp := lp) rest _ q k ks hat hr hok hL
    by_cases k10 : k = 10
    · subst k10
      obtain ⟨l1, l2⟩ := hl q ks hL
      have hgF : ∀ g : Int, g < s.fs.length → Goes t (cost ks) s (runF t ks (q + 1) none g s).1 (runF t ks (q + 1) none g s).2 := fun g hg => goes_run ht ks (q + 1) none (d + 1) g s c3 hs hg trivial
      have body : ∀ g : Int, g < s.fs.length → ACalls Tryz.prog 189 [.ptr bs 4 0 0, I q, I g] ((G.set bs ⟨4, 138, [[.vsl (t.map rClass) cl, aProg P clp, xl, .vsl (s.fs.map rFault) clf]]⟩).set b8 ⟨2, 140, [[I 0, I 0]]⟩) fun r H' => r = .agg (rEn (runF t ks (q + 1) none g s).1) ∧ StS (F.set b8 ⟨2, 140, [[I 0, I 0]]⟩) H' bs t cl P clp (runF t ks (q + 1) none g s).2 :=
        fun g hg => c_sbody ih (by omega) hq c3 c4 hs hg l1 l2 (sts_in hM (hb8 _)) hp
      by_cases e2 : e.ed = 2
      · have ef : finR t rest (i + 1 + kids.size) e h s = (fun l : En × RS => (if l.1.ed = 0 then e else l.1, l.2)) (runF t ks (q + 1) none e.val s) := by
          unfold finR; rw [hL]; simp only [if_true, e2]
        rw [ef]
        have hgl := (hgF e.val (hev e2).2).len
        simp +contextual -dsimp -implicitDefEqProofs (maxSteps := 5000000) only [go_sem, reduceIte, reduceCtorEq, Nat.reduceEqDiff, Nat.reduceBEq, Nat.reduceAdd, Nat.reduceLeDiff, Nat.reduceMul, Nat.reduceLT, Int.reduceEq, Int.reduceLT, Int.reduceLE, hq.head.1, hq.head.2, n1, n2, e2]
        refine (body e.val (hev e2).2).mono ?_
        rintro _ H3 ⟨rfl, hM3⟩
        generalize runF t ks (q + 1) none e.val s = r at hM3 ⊢
        obtain ⟨H4, rfl, hM4, w4⟩ := sts_out hM3 hF8
        by_cases c0 : r.1.ed = 0
        · simp +contextual -dsimp -implicitDefEqProofs (maxSteps := 5000000) only [go_sem, reduceIte, reduceCtorEq, Nat.reduceEqDiff, Nat.reduceBEq, Nat.reduceAdd, Nat.reduceLeDiff, Nat.reduceMul, Nat.reduceLT, Int.reduceEq, Int.reduceLT, Int.reduceLE, rEn, n1, n2, c0, e2]
          rintro b10 hb10
          refine retR_less (l := [.agg (rEn e)]) (H' := H4) ?_ (le_set w4) ⟨by show AV.agg [I e.ed, I e.val] = _; rw [e2], hM4⟩
          simp only [resA, go_sem, reduceIte, reduceCtorEq, Nat.reduceEqDiff, Nat.reduceBEq, Nat.reduceAdd, Nat.reduceLeDiff, Nat.reduceMul, Nat.reduceLT, Int.reduceEq, Int.reduceLT, Int.reduceLE, rEn, e2]
        · simp +contextual -dsimp -implicitDefEqProofs (maxSteps := 5000000) only [go_sem, reduceIte, reduceCtorEq, Nat.reduceEqDiff, Nat.reduceBEq, Nat.reduceAdd, Nat.reduceLeDiff, Nat.reduceMul, Nat.reduceLT, Int.reduceEq, Int.reduceLT, Int.reduceLE, rEn, n1, n2, c0, e2]
          rintro b10 hb10
          refine retR_less (l := [.agg (rEn r.1)]) (H' := H4) ?_ (le_set w4) ⟨rfl, hM4⟩
          simp only [resA, go_sem, reduceIte, reduceCtorEq, Nat.reduceEqDiff, Nat.reduceBEq, Nat.reduceAdd, Nat.reduceLeDiff, Nat.reduceMul, Nat.reduceLT, Int.reduceEq, Int.reduceLT, Int.reduceLE, rEn]
      · have ef : finR t rest (i + 1 + kids.size) e h s = (fun l : En × RS => (if l.1.ed = 0 then e else l.1, l.2)) (runF t ks (q + 1) none h s) := by
          unfold finR; rw [hL]; simp only [if_true, e2, if_false]
        rw [ef]
        have hgl := (hgF h hh).len
        simp +contextual -dsimp -implicitDefEqProofs (maxSteps := 5000000) only [go_sem, reduceIte, reduceCtorEq, Nat.reduceEqDiff, Nat.reduceBEq, Nat.reduceAdd, Nat.reduceLeDiff, Nat.reduceMul, Nat.reduceLT, Int.reduceEq, Int.reduceLT, Int.reduceLE, hq.head.1, hq.head.2, n1, n2, e2]
        refine (body h hh).mono ?_
        rintro _ H3 ⟨rfl, hM3⟩
        generalize runF t ks (q + 1) none h s = r at hM3 ⊢
        obtain ⟨H4, rfl, hM4, w4⟩ := sts_out hM3 hF8
        by_cases c0 : r.1.ed = 0
        · simp +contextual -dsimp -implicitDefEqProofs (maxSteps := 5000000) only [go_sem, reduceIte, reduceCtorEq, Nat.reduceEqDiff, Nat.reduceBEq, Nat.reduceAdd, Nat.reduceLeDiff, Nat.reduceMul, Nat.reduceLT, Int.reduceEq, Int.reduceLT, Int.reduceLE, rEn, n1, n2, c0, e2]
          rintro b10 hb10
          refine retR_less (l := [.agg (rEn e)]) (H' := H4) ?_ (le_set w4) ⟨rfl, hM4⟩
          simp only [resA, go_sem, reduceIte, reduceCtorEq, Nat.reduceEqDiff, Nat.reduceBEq, Nat.reduceAdd, Nat.reduceLeDiff, Nat.reduceMul, Nat.reduceLT, Int.reduceEq, Int.reduceLT, Int.reduceLE, rEn]
        · simp +contextual -dsimp -implicitDefEqProofs (maxSteps := 5000000) only [go_sem, reduceIte, reduceCtorEq, Nat.reduceEqDiff, Nat.reduceBEq, Nat.reduceAdd, Nat.reduceLeDiff, Nat.reduceMul, Nat.reduceLT, Int.reduceEq, Int.reduceLT, Int.reduceLE, rEn, n1, n2, c0, e2]
          rintro b10 hb10
          refine retR_less (l := [.agg (rEn r.1)]) (H' := H4) ?_ (le_set w4) ⟨rfl, hM4⟩
          simp only [resA, go_sem, reduceIte, reduceCtorEq, Nat.reduceEqDiff, Nat.reduceBEq, Nat.reduceAdd, Nat.reduceLeDiff, Nat.reduceMul, Nat.reduceLT, Int.reduceEq, Int.reduceLT, Int.reduceLE, rEn]
    · have ef : finR t rest (i + 1 + kids.size) e h s = (e, s) := by unfold finR; rw [hL]; simp only [k10, if_false]
      rw [ef]
      simp +contextual -dsimp -implicitDefEqProofs (maxSteps := 5000000) only [go_sem, reduceIte, reduceCtorEq, Nat.reduceEqDiff, Nat.reduceBEq, Nat.reduceAdd, Nat.reduceLeDiff, Nat.reduceMul, Nat.reduceLT, Int.reduceEq, Int.reduceLT, Int.reduceLE, hq.head.1, hq.head.2, n1, n2, k10]
      refine retR_less (l := [.agg (rEn e)]) (H' := G.set bs _) ?_ (le_set (hb8 _)) ⟨rfl, hM⟩
      simp only [resA, go_sem, reduceIte, reduceCtorEq, Nat.reduceEqDiff, Nat.reduceBEq, Nat.reduceAdd, Nat.reduceLeDiff, Nat.reduceMul, Nat.reduceLT, Int.reduceEq, Int.reduceLT, Int.reduceLE, rEn]
end
section
open Go Go.Sim
set_option maxRecDepth 100000
set_option maxHeartbeats 4000000

theorem en_ed (a b : Int) : (En.mk a b).ed = a := rfl
theorem en_val (a b : Int) : (En.mk a b).val = b := rfl
theorem goes_mid {t : List Class} {P : List Line} {lp : Bool} (ht : validT t = true) {f : Fo} {i : Nat} {e : En} {d h : Int} {s : RS} (hat : At P i d f) (hn : numsF t f d = true) (hok : okF f lp true = true) (hs : FsOk t s.fs) (hh : h < s.fs.length) (he : e.ed = 2 → 0 ≤ e.val ∧ e.val < s.fs.length) :
    ∃ c, Goes t c s (midR t f i e h s).1 (midR t f i e h s).2 ∧ c ≤ cost f ∧ ∀ q ks, lastB f i = some (q, 10, ks) → c + cost ks ≤ cost f := by
  have l0 : ∀ q ks, lastB f i = some (q, 10, ks) → 0 + cost ks ≤ cost f := fun q ks hl => by have := elseF_at.lastB_cost f i hl; simp only at this; omega
  unfold midR
  split
  · cases hE : elseF f i with
    | none => exact ⟨0, goes_self hs he, by omega, l0⟩
    | some y =>
      obtain ⟨q, ks⟩ := y
      obtain ⟨c1, c2⟩ := elseF_at f i q ks hat hn hok hE
      exact ⟨cost ks, goes_run ht ks (q + 1) none (d + 1) h s c1.nums hs hh trivial, c1.cost, c2⟩
  · split
    · rename_i e2
      cases hE : catchF t (clsOf s e.val) f i with
      | none => exact ⟨0, goes_self hs he, by omega, l0⟩
      | some y =>
        obtain ⟨q, ks⟩ := y
        obtain ⟨c1, c2⟩ := catchF_at f i q ks hat hn hok hE
        exact ⟨cost ks, goes_run ht ks (q + 1) none (d + 1) e.val s c1.nums hs (he e2).2 trivial, c1.cost, c2⟩
    · exact ⟨0, goes_self hs he, by omega, l0⟩
theorem c_stry {t : List Class} {cl : Bool} {P : List Line} {clp : Bool} {n : Nat} (ht : validT t = true) (ih : SBlkOk t cl P clp n) {i : Nat} {d a b h : Int} {kids rest : Fo} {s : RS} {F H : AHeap} {bs : Nat} {lp : Bool}
    (hn : kids.size + rest.size < n) (hat : At P i d (.node 7 a b kids rest)) (hk : numsF t kids (d + 1) = true) (hr : numsF t rest d = true) (hok : okF kids lp false = true) (hokr : okF rest lp true = true) (hto : tryG 7 (headsK rest) = true) (hs : FsOk t s.fs) (hh : h < s.fs.length)
    (hl : s.log.length + (cost kids + cost rest) ≤ 900000) (hf : s.fs.length + (cost kids + cost rest) ≤ 900000) (hM : StS F H bs t cl P clp s) (hp : P.length ≤ 4398046511104) :
    ACalls Tryz.prog 178 [.ptr bs 4 0 0, I i, I h] H fun r H' =>
      r = .agg (rEn (chainR t rest (i + 1 + kids.size) (runF t kids (i + 1) none h s).1 (runF t kids (i + 1) none h s).1 h (runF t kids (i + 1) none h s).2).1) ∧
      StS F H' bs t cl P clp (chainR t rest (i + 1 + kids.size) (runF t kids (i + 1) none h s).1 (runF t kids (i + 1) none h s).1 h (runF t kids (i + 1) none h s).2).2 := by
  have hi := hat.head.1
  obtain ⟨xl, G, clf, hF, hg1, hb, rfl⟩ := id hM
  refine acalls_of1 Tryz.func178 rfl (by kernel_rfl) rfl rfl (awp_sound (fz := fun _ => []) (im := fun _ => false) mixed _ _ _ _ (by kernel_rfl) ?_)
  simp +contextual -dsimp -implicitDefEqProofs (maxSteps := 5000000) only [go_sem, reduceIte, reduceCtorEq, Nat.reduceEqDiff, Nat.reduceBEq, Nat.reduceAdd, Nat.reduceLeDiff, Nat.reduceMul, Nat.reduceLT, Int.reduceEq, Int.reduceLT, Int.reduceLE]
  rintro b6 ⟨n1, n2, hn2⟩
  have hF6 : F b6 = none := grow_none hg1 hn2
  refine acalls_frz (c_chainOf P clp i _ hi hp) fun cl2 => ?_
  rw [chainP_at hat]
  simp +contextual -dsimp -implicitDefEqProofs (maxSteps := 5000000) only [go_sem, reduceIte, reduceCtorEq, Nat.reduceEqDiff, Nat.reduceBEq, Nat.reduceAdd, Nat.reduceLeDiff, Nat.reduceMul, Nat.reduceLT, Int.reduceEq, Int.reduceLT, Int.reduceLE, n1, n2]
  have hgo := goes_run ht kids (i + 1) none (d + 1) h s hk hs hh trivial
  have hgl := hgo.len
  refine (c_sbody ih (by omega) hat hk hok hs hh (by omega) (by omega) (sts_in (K := ⟨2, 140, [[I 0, I 0]]⟩) hM (show (G.set bs _) b6 = none by rw [set_other n1]; exact hn2)) hp).mono ?_
  rintro _ H3 ⟨rfl, hM3⟩
  generalize runF t kids (i + 1) none h s = r at hM3 hgo hgl ⊢
  obtain ⟨⟨ed, v⟩, s0⟩ := r
  dsimp only at hM3 hgo hgl ⊢
  obtain ⟨H4, rfl, hM4, hn4⟩ := sts_out hM3 hF6
  rw [chain_spec rest _ ⟨ed, v⟩ h s0 7 hto]
  obtain ⟨cm, hmg, hmc, hml⟩ := goes_mid ht (e := ⟨ed, v⟩) (h := h) hat.rest hr hokr hgo.ok (by omega) hgo.val
  have hmgl := hmg.len
  simp +contextual -dsimp -implicitDefEqProofs (maxSteps := 5000000) only [go_sem, reduceIte, reduceCtorEq, Nat.reduceEqDiff, Nat.reduceBEq, Nat.reduceAdd, Nat.reduceLeDiff, Nat.reduceMul, Nat.reduceLT, Int.reduceEq, Int.reduceLT, Int.reduceLE, rEn]
  rintro b8 ⟨d1, d2, m8⟩
  have hF8 : F b8 = none := sts_none hM4 m8
  have hrat := hat.rest
  have hcl := chain_len rest (i + 1 + kids.size)
  have hrl := hrat.len
  have e7 : numsF t (.node 7 a b kids rest) d = true → True := fun _ => trivial
  have fin : ∀ (e : En) (s' : RS) (H9 : AHeap), FsOk t s'.fs → s.fs.length ≤ s'.fs.length → (e.ed = 2 → 0 ≤ e.val ∧ e.val < s'.fs.length) → (∀ q ks, lastB rest (i + 1 + kids.size) = some (q, 10, ks) → s'.log.length + cost ks ≤ 900000 ∧ s'.fs.length + cost ks ≤ 900000) → StS F H9 bs t cl P clp s' → H9 b6 = none → H9 b8 = none →
      ACalls Tryz.prog 190 [.ptr bs 4 0 0, .vsl ((toI (i :: chainN rest (i + 1 + kids.size))).map rI) cl2, .agg (rEn e), I h] ((H9.set b6 ⟨2, 140, [[I 0, I 0]]⟩).set b8 ⟨2, 140, [rEn e]⟩) fun x H' => x = .agg (rEn (finR t rest (i + 1 + kids.size) e h s').1) ∧ ∃ H5, H' = (H5.set b6 ⟨2, 140, [[I 0, I 0]]⟩).set b8 ⟨2, 140, [rEn e]⟩ ∧ StS F H5 bs t cl P clp (finR t rest (i + 1 + kids.size) e h s').2 ∧ H5 b6 = none ∧ H5 b8 = none := by
    intro e s' H9 q1 q2 q3 q4 q5 q6 q7
    refine (c_sfinally ht ih cl2 e (by omega) hat rfl hr hokr q1 (by omega) q3 q4 (sts_in (K := ⟨2, 140, [rEn e]⟩) (sts_in (K := ⟨2, 140, [[I 0, I 0]]⟩) q5 q6) (by rw [set_other d1]; exact q7)) hp).mono ?_
    rintro _ H3 ⟨rfl, hM3⟩
    obtain ⟨H5, rfl, w1, w2⟩ := sts_out hM3 (by rw [set_other d1]; exact hF8)
    obtain ⟨H6, rfl, w3, w4⟩ := sts_out w1 hF6
    rw [set_other d1] at w2
    exact ⟨rfl, H6, rfl, w3, w4, w2⟩
  have body : ∀ (e : En) (q : Nat) (k : Int) (ks : Fo) (g : Int), ChainAt t P d lp rest q k ks → g < s0.fs.length →
      ACalls Tryz.prog 189 [.ptr bs 4 0 0, I q, I g] ((H4.set b6 ⟨2, 140, [[I 0, I 0]]⟩).set b8 ⟨2, 140, [rEn e]⟩) fun x H' => x = .agg (rEn (runF t ks (q + 1) none g s0).1) ∧ ∃ H5, H' = (H5.set b6 ⟨2, 140, [[I 0, I 0]]⟩).set b8 ⟨2, 140, [rEn e]⟩ ∧ StS F H5 bs t cl P clp (runF t ks (q + 1) none g s0).2 ∧ H5 b6 = none ∧ H5 b8 = none := by
    intro e q k ks g hc hg
    obtain ⟨⟨a2, b2, re2, hq⟩, c2, c3, c4, c5⟩ := hc
    refine (c_sbody ih (by omega) hq c3 c4 hgo.ok hg (by omega) (by omega) (sts_in (K := ⟨2, 140, [rEn e]⟩) (sts_in (K := ⟨2, 140, [[I 0, I 0]]⟩) hM4 hn4) (by rw [set_other d1]; exact m8)) hp).mono ?_
    rintro _ H3 ⟨rfl, hM3⟩
    obtain ⟨H5, rfl, w1, w2⟩ := sts_out hM3 (by rw [set_other d1]; exact hF8)
    obtain ⟨H6, rfl, w3, w4⟩ := sts_out w1 hF6
    rw [set_other d1] at w2
    exact ⟨rfl, H6, rfl, w3, w4, w2⟩
  obtain ⟨xl4, G4, clf4, hFb4, hg4, hb4, rfl⟩ := id hM4
  have hn4' := hn4
  have m8' := m8
  rw [set_none] at hn4' m8'
  obtain ⟨z1, z2, z3⟩ := hn4'
  obtain ⟨z4, z5, z6⟩ := m8'
  refine aloop mixed (fz := fun _ => []) (im := fun _ => false) (by kernel_rfl) (fun m tm H' => ∃ (g : Fo) (q x : Nat), m = g.size ∧ At P q d g ∧ g.size ≤ rest.size ∧ (chainN rest (i + 1 + kids.size)).drop x = chainN g q ∧ x ≤ (chainN rest (i + 1 + kids.size)).length ∧ H' = ((G4.set bs ⟨4, 138, [[.vsl (t.map rClass) cl, aProg P clp, xl4, .vsl (s0.fs.map rFault) clf4]]⟩).set b6 ⟨2, 140, [[I 0, I 0]]⟩).set b8 ⟨2, 140, [rEn ⟨ed, v⟩]⟩ ∧ (ed = 0 → elseF rest (i + 1 + kids.size) = elseF g q) ∧ tm 0 = .ptr bs 4 0 0 ∧ tm 1 = I i ∧ tm 2 = I h ∧ tm 6 = .ptr b6 2 0 0 ∧ tm 7 = .vsl ((toI (i :: chainN rest (i + 1 + kids.size))).map rI) cl2 ∧ tm 8 = .ptr b8 2 0 0 ∧ tm 9 = I (x + 1 : Nat)) rest.size ⟨rest, i + 1 + kids.size, 0, rfl, hrat, Nat.le_refl _, rfl, Nat.zero_le _, rfl, fun _ => rfl, ?_⟩ ?_
  · simp +contextual -dsimp -implicitDefEqProofs (maxSteps := 5000000) only [go_sem, reduceIte, reduceCtorEq, Nat.reduceEqDiff, Nat.reduceBEq, Nat.reduceAdd, Nat.reduceLeDiff, Nat.reduceMul, Nat.reduceLT, Int.reduceEq, Int.reduceLT, Int.reduceLE, rEn]
    rfl
  · rintro m tm _ ⟨g, q, x, rfl, hgat, hgs, hdx, hxl, rfl, he, t0, t1, t2, t6, t7, t8, t9⟩
    cases hcq : chainN g q with
    | nil =>
      rw [hcq] at hdx
      have hx := drop_nil hdx
      have hx' : ¬ x + 1 < (chainN rest (i + 1 + kids.size)).length + 1 := by omega
      have hno : elseF g q = none := by
        cases g with
        | nil => rfl
        | node k2 a2 b2 ks re =>
          simp only [chainN] at hcq
          split at hcq
          · cases hcq
          · rename_i hk2
            simp only [elseF]; rw [if_neg hk2]
      have bnd0 : ∀ q ks, lastB rest (i + 1 + kids.size) = some (q, 10, ks) → s0.log.length + cost ks ≤ 900000 ∧ s0.fs.length + cost ks ≤ 900000 := fun q ks hq => by have := hml q ks hq; omega
      by_cases e2 : ed = 2
      · subst e2
        have ev := hgo.val rfl
        dsimp only at ev
        have hMc := sts_in (K := ⟨2, 140, [rEn ⟨2, v⟩]⟩) (sts_in (K := ⟨2, 140, [[I 0, I 0]]⟩) hM4 hn4) (show (AHeap.set _ b6 _) b8 = none by rw [set_other d1]; exact m8)
        simp +contextual -dsimp -implicitDefEqProofs (maxSteps := 5000000) only [go_sem, reduceIte, reduceCtorEq, Nat.reduceEqDiff, Nat.reduceBEq, Nat.reduceAdd, Nat.reduceLeDiff, Nat.reduceMul, Nat.reduceLT, Int.reduceEq, Int.reduceLT, Int.reduceLE, rEn, t0, t1, t2, t6, t7, t8, t9, z1, z2, z4, z5, d1, d2, en_ed, en_val, toI_len, List.length_cons, hx']
        refine (c_caught ht cl2 hrat hgo.ok ev.1 ev.2 hMc hp).mono ?_
        rintro _ Hx ⟨rfl, hHx⟩
        subst hHx
        cases hC : catchF t (clsOf s0 v) rest (i + 1 + kids.size) with
        | none =>
          have em : midR t rest (i + 1 + kids.size) ⟨2, v⟩ h s0 = (⟨2, v⟩, s0) := by
            unfold midR; dsimp only; rw [if_neg (by decide), if_pos rfl, hC]
          rw [em]
          have zz : ¬ (0 : Int) ≤ -1 := by omega
          simp +contextual -dsimp -implicitDefEqProofs (maxSteps := 5000000) only [go_sem, reduceIte, reduceCtorEq, Nat.reduceEqDiff, Nat.reduceBEq, Nat.reduceAdd, Nat.reduceLeDiff, Nat.reduceMul, Nat.reduceLT, Int.reduceEq, Int.reduceLT, Int.reduceLE, rEn, t0, t1, t2, t6, t7, t8, t9, z1, z2, z4, z5, d1, d2, en_ed, en_val, zz]
          refine (fin ⟨2, v⟩ s0 _ hgo.ok hgl.1 hgo.val bnd0 hM4 hn4 m8).mono ?_
          rintro _ H' ⟨rfl, H5, rfl, w1, w2, w3⟩
          simp +contextual -dsimp -implicitDefEqProofs (maxSteps := 5000000) only [go_sem, reduceIte, reduceCtorEq, Nat.reduceEqDiff, Nat.reduceBEq, Nat.reduceAdd, Nat.reduceLeDiff, Nat.reduceMul, Nat.reduceLT, Int.reduceEq, Int.reduceLT, Int.reduceLE, rEn, t0, t1, t2, t6, t7, t8, t9, z1, z2, z4, z5, d1, d2, en_ed, en_val]
          refine retR_less (l := [.agg (rEn (finR t rest (i + 1 + kids.size) ⟨2, v⟩ h s0).1)]) (H' := H5) ?_ (le_s1 (le_s1 (AHeap.le_refl _) w2) w3) ⟨rfl, w1⟩
          simp only [resA, go_sem, reduceIte, reduceCtorEq, Nat.reduceEqDiff, Nat.reduceBEq, Nat.reduceAdd, Nat.reduceLeDiff, Nat.reduceMul, Nat.reduceLT, Int.reduceEq, Int.reduceLT, Int.reduceLE, rEn, d1, d2, t6]
        | some y =>
          obtain ⟨q8, ks8⟩ := y
          obtain ⟨y1, y2⟩ := catchF_at (p := P) (lp := lp) rest _ q8 ks8 hrat hr hokr hC
          have em : midR t rest (i + 1 + kids.size) ⟨2, v⟩ h s0 = runF t ks8 (q8 + 1) none v s0 := by
            unfold midR; dsimp only; rw [if_neg (by decide), if_pos rfl, hC]
          rw [em] at hmg hmgl ⊢
          have zz : (0 : Int) ≤ (q8 : Int) := by omega
          simp +contextual -dsimp -implicitDefEqProofs (maxSteps := 5000000) only [go_sem, reduceIte, reduceCtorEq, Nat.reduceEqDiff, Nat.reduceBEq, Nat.reduceAdd, Nat.reduceLeDiff, Nat.reduceMul, Nat.reduceLT, Int.reduceEq, Int.reduceLT, Int.reduceLE, rEn, t0, t1, t2, t6, t7, t8, t9, z1, z2, z4, z5, d1, d2, en_ed, en_val, zz]
          refine (body ⟨2, v⟩ q8 8 ks8 v y1 ev.2).mono ?_
          rintro _ Hy ⟨rfl, H6, rfl, g1, g2, g3⟩
          generalize runF t ks8 (q8 + 1) none v s0 = r8 at hmg hmgl g1 ⊢
          simp +contextual -dsimp -implicitDefEqProofs (maxSteps := 5000000) only [go_sem, reduceIte, reduceCtorEq, Nat.reduceEqDiff, Nat.reduceBEq, Nat.reduceAdd, Nat.reduceLeDiff, Nat.reduceMul, Nat.reduceLT, Int.reduceEq, Int.reduceLT, Int.reduceLE, rEn, t0, t1, t2, t6, t7, t8, t9, z1, z2, z4, z5, d1, d2, en_ed, en_val]
          refine (fin r8.1 r8.2 H6 hmg.ok (by omega) hmg.val (fun q ks hq => by have := hml q ks hq; omega) g1 g2 g3).mono ?_
          rintro _ H' ⟨rfl, H5, rfl, w1, w2, w3⟩
          simp +contextual -dsimp -implicitDefEqProofs (maxSteps := 5000000) only [go_sem, reduceIte, reduceCtorEq, Nat.reduceEqDiff, Nat.reduceBEq, Nat.reduceAdd, Nat.reduceLeDiff, Nat.reduceMul, Nat.reduceLT, Int.reduceEq, Int.reduceLT, Int.reduceLE, rEn, t0, t1, t2, t6, t7, t8, t9, z1, z2, z4, z5, d1, d2, en_ed, en_val]
          refine retR_less (l := [.agg (rEn (finR t rest (i + 1 + kids.size) r8.1 h r8.2).1)]) (H' := H5) ?_ (le_s1 (le_s1 (AHeap.le_refl _) w2) w3) ⟨rfl, w1⟩
          simp only [resA, go_sem, reduceIte, reduceCtorEq, Nat.reduceEqDiff, Nat.reduceBEq, Nat.reduceAdd, Nat.reduceLeDiff, Nat.reduceMul, Nat.reduceLT, Int.reduceEq, Int.reduceLT, Int.reduceLE, rEn, d1, d2, t6]
      · have em : midR t rest (i + 1 + kids.size) ⟨ed, v⟩ h s0 = (⟨ed, v⟩, s0) := by
          unfold midR
          dsimp only
          by_cases e0 : ed = 0
          · rw [if_pos e0, he e0, hno]
          · rw [if_neg e0, if_neg e2]
        rw [em]
        simp +contextual -dsimp -implicitDefEqProofs (maxSteps := 5000000) only [go_sem, reduceIte, reduceCtorEq, Nat.reduceEqDiff, Nat.reduceBEq, Nat.reduceAdd, Nat.reduceLeDiff, Nat.reduceMul, Nat.reduceLT, Int.reduceEq, Int.reduceLT, Int.reduceLE, rEn, t0, t1, t2, t6, t7, t8, t9, z1, z2, z4, z5, d1, d2, en_ed, en_val, toI_len, List.length_cons, hx', e2]
        refine (fin ⟨ed, v⟩ s0 _ hgo.ok hgl.1 hgo.val bnd0 hM4 hn4 m8).mono ?_
        rintro _ H' ⟨rfl, H5, rfl, w1, w2, w3⟩
        simp +contextual -dsimp -implicitDefEqProofs (maxSteps := 5000000) only [go_sem, reduceIte, reduceCtorEq, Nat.reduceEqDiff, Nat.reduceBEq, Nat.reduceAdd, Nat.reduceLeDiff, Nat.reduceMul, Nat.reduceLT, Int.reduceEq, Int.reduceLT, Int.reduceLE, rEn, t0, t1, t2, t6, t7, t8, t9, z1, z2, z4, z5, d1, d2, en_ed, en_val]
        refine retR_less (l := [.agg (rEn (finR t rest (i + 1 + kids.size) ⟨ed, v⟩ h s0).1)]) (H' := H5) ?_ (le_s1 (le_s1 (AHeap.le_refl _) w2) w3) ⟨rfl, w1⟩
        simp only [resA, go_sem, reduceIte, reduceCtorEq, Nat.reduceEqDiff, Nat.reduceBEq, Nat.reduceAdd, Nat.reduceLeDiff, Nat.reduceMul, Nat.reduceLT, Int.reduceEq, Int.reduceLT, Int.reduceLE, rEn, d1, d2, t6]
    | cons q' tl =>
      cases g with
      | nil => simp [chainN] at hcq
      | node k2 a2 b2 ks re =>
        have hk2 : followsK k2 = true := by
          simp only [chainN] at hcq
          split at hcq
          · assumption
          · cases hcq
        have hdx' : (chainN rest (i + 1 + kids.size)).drop x = q :: chainN re (q + 1 + ks.size) := by
          rw [hdx]; simp only [chainN]; rw [if_pos hk2]
        obtain ⟨hx1, hx2, hx3⟩ := drop_cons hdx'
        have hx' : x + 1 < (chainN rest (i + 1 + kids.size)).length + 1 := by omega
        have hh2 := hgat.head
        have szl : ∀ k : Int, re.size < (Fo.node k a2 b2 ks re).size := fun k => by simp only [Fo.size]; omega
        have hsz : (Fo.node k2 a2 b2 ks re).size = 1 + ks.size + re.size := rfl
        have hef : elseF (.node k2 a2 b2 ks re) q = if k2 = 9 then some (q, ks) else elseF re (q + 1 + ks.size) := by
          simp only [elseF]; rw [if_pos hk2]
        simp +contextual -dsimp -implicitDefEqProofs (maxSteps := 5000000) only [go_sem, reduceIte, reduceCtorEq, Nat.reduceEqDiff, Nat.reduceBEq, Nat.reduceAdd, Nat.reduceLeDiff, Nat.reduceMul, Nat.reduceLT, Int.reduceEq, Int.reduceLT, Int.reduceLE, rEn, t0, t1, t2, t6, t7, t8, t9, z1, z2, z4, z5, d1, d2, en_ed, en_val, toI_len, toI_at, toI_cons_at, List.length_cons, hx', hx2, hh2.1, hh2.2]
        refine draw_intro [0, 0, 0, 0, 0, 0, 0, 0, 0, 0, 0, 0, 0, 0, 0, 0, 0] _ (by kernel_rfl) (AHeap.le_refl _) ?_
        by_cases k9 : k2 = 9
        · by_cases e0 : ed = 0
          · subst e0
            rw [if_pos k9] at hef
            have hE := he rfl
            rw [hef] at hE
            obtain ⟨y1, y2⟩ := elseF_at (p := P) (lp := lp) rest _ q ks hrat hr hokr hE
            have em : midR t rest (i + 1 + kids.size) ⟨0, v⟩ h s0 = runF t ks (q + 1) none h s0 := by
              unfold midR; rw [if_pos rfl, hE]
            rw [em] at hmg hmgl ⊢
            simp +contextual -dsimp -implicitDefEqProofs (maxSteps := 5000000) only [go_sem, reduceIte, reduceCtorEq, Nat.reduceEqDiff, Nat.reduceBEq, Nat.reduceAdd, Nat.reduceLeDiff, Nat.reduceMul, Nat.reduceLT, Int.reduceEq, Int.reduceLT, Int.reduceLE, rEn, t0, t1, t2, t6, t7, t8, t9, z1, z2, z4, z5, d1, d2, en_ed, en_val, toI_len, toI_at, toI_cons_at, List.length_cons, hx', hx2, hh2.1, hh2.2, k9]
            refine (body ⟨0, v⟩ q 9 ks h y1 (by omega)).mono ?_
            rintro _ Hy ⟨rfl, H6, rfl, g1, g2, g3⟩
            generalize runF t ks (q + 1) none h s0 = r8 at hmg hmgl g1 ⊢
            simp +contextual -dsimp -implicitDefEqProofs (maxSteps := 5000000) only [go_sem, reduceIte, reduceCtorEq, Nat.reduceEqDiff, Nat.reduceBEq, Nat.reduceAdd, Nat.reduceLeDiff, Nat.reduceMul, Nat.reduceLT, Int.reduceEq, Int.reduceLT, Int.reduceLE, rEn, t0, t1, t2, t6, t7, t8, t9, z1, z2, z4, z5, d1, d2, en_ed, en_val]
            refine (fin r8.1 r8.2 H6 hmg.ok (by omega) hmg.val (fun q ks hq => by have := hml q ks hq; omega) g1 g2 g3).mono ?_
            rintro _ H' ⟨rfl, H5, rfl, w1, w2, w3⟩
            simp +contextual -dsimp -implicitDefEqProofs (maxSteps := 5000000) only [go_sem, reduceIte, reduceCtorEq, Nat.reduceEqDiff, Nat.reduceBEq, Nat.reduceAdd, Nat.reduceLeDiff, Nat.reduceMul, Nat.reduceLT, Int.reduceEq, Int.reduceLT, Int.reduceLE, rEn, t0, t1, t2, t6, t7, t8, t9, z1, z2, z4, z5, d1, d2, en_ed, en_val]
            refine retR_less (l := [.agg (rEn (finR t rest (i + 1 + kids.size) r8.1 h r8.2).1)]) (H' := H5) ?_ (le_s1 (le_s1 (AHeap.le_refl _) w2) w3) ⟨rfl, w1⟩
            simp only [resA, go_sem, reduceIte, reduceCtorEq, Nat.reduceEqDiff, Nat.reduceBEq, Nat.reduceAdd, Nat.reduceLeDiff, Nat.reduceMul, Nat.reduceLT, Int.reduceEq, Int.reduceLT, Int.reduceLE, rEn, d1, d2, t6]
          · simp +contextual -dsimp -implicitDefEqProofs (maxSteps := 5000000) only [go_sem, reduceIte, reduceCtorEq, Nat.reduceEqDiff, Nat.reduceBEq, Nat.reduceAdd, Nat.reduceLeDiff, Nat.reduceMul, Nat.reduceLT, Int.reduceEq, Int.reduceLT, Int.reduceLE, rEn, t0, t1, t2, t6, t7, t8, t9, z1, z2, z4, z5, d1, d2, en_ed, en_val, toI_len, toI_at, toI_cons_at, List.length_cons, hx', hx2, hh2.1, hh2.2, k9, e0]
            exact ⟨re.size, szl 9, re, q + 1 + ks.size, x + 1, rfl, hgat.rest, by omega, hx3, hx1, I_wrap (by omega) (by omega) (by omega)⟩
        · rw [if_neg k9] at hef
          simp +contextual -dsimp -implicitDefEqProofs (maxSteps := 5000000) only [go_sem, reduceIte, reduceCtorEq, Nat.reduceEqDiff, Nat.reduceBEq, Nat.reduceAdd, Nat.reduceLeDiff, Nat.reduceMul, Nat.reduceLT, Int.reduceEq, Int.reduceLT, Int.reduceLE, rEn, t0, t1, t2, t6, t7, t8, t9, z1, z2, z4, z5, d1, d2, en_ed, en_val, toI_len, toI_at, toI_cons_at, List.length_cons, hx', hx2, hh2.1, hh2.2, k9]
          exact ⟨re.size, szl k2, re, q + 1 + ks.size, x + 1, rfl, hgat.rest, by omega, hx3, hx1, fun e0 => by rw [he e0]; exact hef, I_wrap (by omega) (by omega) (by omega)⟩
end
section
open Go Go.Sim
set_option maxRecDepth 100000
set_option maxHeartbeats 4000000

theorem c_snextLine {P : List Line} {clp : Bool} {i : Nat} {d k a b : Int} {kids rest : Fo} (H : AHeap) (hat : At P i d (.node k a b kids rest)) (hp : P.length ≤ 4398046511104) :
    ACalls Tryz.prog 149 [aProg P clp, I i] H fun r H' => r = I (if k = 7 then skipN rest (i + 1 + kids.size) else i + 1 + kids.size : Nat) ∧ H' = H := by
  have hi := hat.head
  have hcl := chain_len rest (i + 1 + kids.size)
  have hrl := hat.rest.len
  by_cases k7 : k = 7
  · subst k7
    rw [if_pos rfl]
    have hce := chain_end rest (i + 1 + kids.size) i hat.rest hat.endP
    have hgl := getD_last i (chainN rest (i + 1 + kids.size))
    have hmem := chainP_mem hi.1 ((i :: chainN rest (i + 1 + kids.size)).getLastD 0) (by
      rw [chainP_at hat, ← hgl, List.getD_eq_getElem?_getD, List.getElem?_eq_getElem (by simp)]
      exact List.getElem_mem _)
    have hwl : IntKind.i64.wrap (((chainN rest (i + 1 + kids.size)).length + 1 : Nat) - 1) = ((chainN rest (i + 1 + kids.size)).length : Int) := by
      rw [w64 (by omega) (by omega)]; omega
    have hlt1 : ((chainN rest (i + 1 + kids.size)).length : Int) < (((chainN rest (i + 1 + kids.size)).length + 1 : Nat) : Int) := by omega
    have hlt2 : (chainN rest (i + 1 + kids.size)).length < (chainN rest (i + 1 + kids.size)).length + 1 := by omega
    refine acalls_of0 Tryz.func149 rfl (by kernel_rfl) rfl rfl (awp_sound (fz := fun _ => []) (im := fun _ => false) mixed _ _ _ _ (by kernel_rfl) ?_)
    simp +contextual -dsimp -implicitDefEqProofs (maxSteps := 5000000) only [go_sem, reduceIte, reduceCtorEq, Nat.reduceEqDiff, Nat.reduceBEq, Nat.reduceAdd, Nat.reduceLeDiff, Nat.reduceMul, Nat.reduceLT, Int.reduceEq, Int.reduceLT, Int.reduceLE, hi.1, hi.2]
    refine acalls_frz (c_chainOf P clp i _ hi.1 hp) fun cl2 => ?_
    rw [chainP_at hat]
    simp +contextual -dsimp -implicitDefEqProofs (maxSteps := 5000000) only [go_sem, reduceIte, reduceCtorEq, Nat.reduceEqDiff, Nat.reduceBEq, Nat.reduceAdd, Nat.reduceLeDiff, Nat.reduceMul, Nat.reduceLT, Int.reduceEq, Int.reduceLT, Int.reduceLE, toI_len, toI_at, List.length_cons, hwl, hgl, hlt1, hlt2]
    refine (c_blockEnd P clp _ _ hmem).det ?_
    rw [hce]
    simp +contextual -dsimp -implicitDefEqProofs (maxSteps := 5000000) only [go_sem, reduceIte, reduceCtorEq, Nat.reduceEqDiff, Nat.reduceBEq, Nat.reduceAdd, Nat.reduceLeDiff, Nat.reduceMul, Nat.reduceLT, Int.reduceEq, Int.reduceLT, Int.reduceLE]
  · rw [if_neg k7]
    refine acalls_of0 Tryz.func149 rfl (by kernel_rfl) rfl rfl (awp_sound (fz := fun _ => []) (im := fun _ => false) mixed _ _ _ _ (by kernel_rfl) ?_)
    simp +contextual -dsimp -implicitDefEqProofs (maxSteps := 5000000) only [go_sem, reduceIte, reduceCtorEq, Nat.reduceEqDiff, Nat.reduceBEq, Nat.reduceAdd, Nat.reduceLeDiff, Nat.reduceMul, Nat.reduceLT, Int.reduceEq, Int.reduceLT, Int.reduceLE, hi.1, hi.2, k7]
    refine (c_blockEnd P clp i _ hi.1).det ?_
    rw [hat.endP]
    simp +contextual -dsimp -implicitDefEqProofs (maxSteps := 5000000) only [go_sem, reduceIte, reduceCtorEq, Nat.reduceEqDiff, Nat.reduceBEq, Nat.reduceAdd, Nat.reduceLeDiff, Nat.reduceMul, Nat.reduceLT, Int.reduceEq, Int.reduceLT, Int.reduceLE]
theorem c_sagain {t : List Class} {cl : Bool} {P : List Line} {clp : Bool} {s : RS} {F H : AHeap} {bs : Nat} (g : Int) (hM : StS F H bs t cl P clp s) (hl : s.fs.length ≤ 999998) (ho : heapOk s.fs) :
    ACalls Tryz.prog 177 [.ptr bs 4 0 0, I g] H fun r H' => r = .agg (rEn (lineS 3 0 0 g s).1) ∧ StS F H' bs t cl P clp (lineS 3 0 0 g s).2 := by
  have e1 : lineS 3 0 0 g s = if g < 0 then (⟨2, s.fs.length⟩, s.raise 0 0 (-1)) else (⟨2, g⟩, s) := by
    unfold lineS; rw [if_neg (by decide), if_neg (by decide), if_pos rfl]
  rw [e1]
  refine acalls_of1 Tryz.func177 rfl (by kernel_rfl) rfl rfl (awp_sound (fz := fun _ => []) (im := fun _ => false) mixed _ _ _ _ (by kernel_rfl) ?_)
  simp +contextual -dsimp -implicitDefEqProofs (maxSteps := 5000000) only [go_sem, reduceIte, reduceCtorEq, Nat.reduceEqDiff, Nat.reduceBEq, Nat.reduceAdd, Nat.reduceLeDiff, Nat.reduceMul, Nat.reduceLT, Int.reduceEq, Int.reduceLT, Int.reduceLE]
  rintro b4 hb4
  have hF4 := sts_none hM hb4
  by_cases h0 : 0 ≤ g
  · rw [if_neg (by omega)]
    simp +contextual -dsimp -implicitDefEqProofs (maxSteps := 5000000) only [go_sem, reduceIte, reduceCtorEq, Nat.reduceEqDiff, Nat.reduceBEq, Nat.reduceAdd, Nat.reduceLeDiff, Nat.reduceMul, Nat.reduceLT, Int.reduceEq, Int.reduceLT, Int.reduceLE, h0]
    refine retR_less (l := [.agg (rEn ⟨2, g⟩)]) (H' := H) ?_ (le_set hb4) ⟨rfl, hM⟩
    simp only [resA, go_sem, reduceIte, reduceCtorEq, Nat.reduceEqDiff, Nat.reduceBEq, Nat.reduceAdd, Nat.reduceLeDiff, Nat.reduceMul, Nat.reduceLT, Int.reduceEq, Int.reduceLT, Int.reduceLE, rEn]
  · rw [if_pos (by omega)]
    simp +contextual -dsimp -implicitDefEqProofs (maxSteps := 5000000) only [go_sem, reduceIte, reduceCtorEq, Nat.reduceEqDiff, Nat.reduceBEq, Nat.reduceAdd, Nat.reduceLeDiff, Nat.reduceMul, Nat.reduceLT, Int.reduceEq, Int.reduceLT, Int.reduceLE, h0]
    refine (c_sraise 0 0 (-1) (sts_in (K := ⟨2, 140, [[I 0, I 0]]⟩) hM hb4) hl ho (by omega)).mono ?_
    rintro _ H9 ⟨rfl, hM9⟩
    obtain ⟨H10, rfl, w1, w2⟩ := sts_out hM9 hF4
    simp +contextual -dsimp -implicitDefEqProofs (maxSteps := 5000000) only [go_sem, reduceIte, reduceCtorEq, Nat.reduceEqDiff, Nat.reduceBEq, Nat.reduceAdd, Nat.reduceLeDiff, Nat.reduceMul, Nat.reduceLT, Int.reduceEq, Int.reduceLT, Int.reduceLE]
    refine retR_less (l := [.agg (rEn ⟨2, s.fs.length⟩)]) (H' := H10) ?_ (le_set w2) ⟨rfl, w1⟩
    simp only [resA, go_sem, reduceIte, reduceCtorEq, Nat.reduceEqDiff, Nat.reduceBEq, Nat.reduceAdd, Nat.reduceLeDiff, Nat.reduceMul, Nat.reduceLT, Int.reduceEq, Int.reduceLT, Int.reduceLE, rEn]
theorem c_sline {t : List Class} {cl : Bool} {P : List Line} {clp : Bool} {n : Nat} (ht : validT t = true) (ih : SBlkOk t cl P clp n) {i : Nat} {d k a b h : Int} {kids rest : Fo} {s : RS} {F H : AHeap} {bs : Nat} {lp : Bool}
    (k7 : k ≠ 7) (hn : kids.size < n) (hat : At P i d (.node k a b kids rest)) (hno : numOk t k a b = true) (hk : numsF t kids (d + 1) = true) (ho11 : k = 11 → okF kids lp false = true) (ho12 : k = 12 → okF kids true false = true) (hs : FsOk t s.fs) (hh : h < s.fs.length)
    (hl : s.log.length + (2 + (if k = 12 then a.toNat * cost kids else cost kids)) ≤ 900000) (hf : s.fs.length + (2 + (if k = 12 then a.toNat * cost kids else cost kids)) ≤ 900000) (hM : StS F H bs t cl P clp s) (hp : P.length ≤ 4398046511104) :
    ACalls Tryz.prog 150 [.ptr bs 4 0 0, I i, I h] H fun r H' => r = .agg (rEn (lineR k a b i h (fun s => runF t kids (i + 1) none h s) s).1) ∧ StS F H' bs t cl P clp (lineR k a b i h (fun s => runF t kids (i + 1) none h s) s).2 := by
  have hi := hat.head.1
  have hx := hat.head.2
  obtain ⟨xl, G, clf, hF, hg1, hb, rfl⟩ := id hM
  have hfl : s.fs.length ≤ 999998 := by omega
  refine acalls_of1 Tryz.func150 rfl (by kernel_rfl) rfl rfl (awp_sound (fz := fun r => if r = 1 then [7] else []) (im := fun _ => false) mixed _ _ _ _ (by kernel_rfl) ?_)
  simp +contextual -dsimp -implicitDefEqProofs (maxSteps := 5000000) only [go_sem, reduceIte, reduceCtorEq, Nat.reduceEqDiff, Nat.reduceBEq, Nat.reduceAdd, Nat.reduceLeDiff, Nat.reduceMul, Nat.reduceLT, Int.reduceEq, Int.reduceLT, Int.reduceLE, hi, hx]
  rintro b6 ⟨n1, n2, hn2⟩
  have hF6 : F b6 = none := grow_none hg1 hn2
  have nb6 : ∀ K, (G.set bs K) b6 = none := fun K => by rw [set_other n1]; exact hn2
  rintro b7 hb7
  have hMin := sts_in (K := ⟨2, 140, [[I 0, I 0]]⟩) hM (nb6 _)
  have e0 : k ≠ 11 → k ≠ 12 → lineR k a b i h (fun s => runF t kids (i + 1) none h s) s = lineS k a b h (s.jump k i) := fun q1 q2 => by unfold lineR; rw [if_neg q1, if_neg q2]
  have sj : (s.jump k i).log = s.log ∧ (s.jump k i).fs = s.fs := by unfold RS.jump; split <;> exact ⟨rfl, rfl⟩
  have stJ : ∀ (H : AHeap) (s1 s2 : RS), s1.log = s2.log → s1.fs = s2.fs → StS F H bs t cl P clp s1 → StS F H bs t cl P clp s2 := by
    rintro H s1 s2 e1 e2 ⟨xl, G, clf, w1, w2, w3, w4⟩
    rw [e1] at w2
    rw [e2] at w4
    exact ⟨xl, G, clf, w1, w2, w3, w4⟩
  by_cases k1 : k = 1
  · have e : lineR k a b i h (fun s => runF t kids (i + 1) none h s) s = (.next, (s.jump k i).tell a) := by
      rw [e0 (by omega) (by omega)]; unfold lineS; rw [if_pos k1]
    rw [e]
    simp +contextual -dsimp -implicitDefEqProofs (maxSteps := 5000000) only [go_sem, reduceIte, reduceCtorEq, Nat.reduceEqDiff, Nat.reduceBEq, Nat.reduceAdd, Nat.reduceLeDiff, Nat.reduceMul, Nat.reduceLT, Int.reduceEq, Int.reduceLT, Int.reduceLE, hi, hx, n1, n2, k1]
    refine draw_intro [0, 0, 0, 0, 0, 0, 0, 0, 2, 0, 0, 2] AHeap.none (by kernel_rfl) none_le ?_
    simp +contextual -dsimp -implicitDefEqProofs (maxSteps := 5000000) only [go_sem, reduceIte, reduceCtorEq, Nat.reduceEqDiff, Nat.reduceBEq, Nat.reduceAdd, Nat.reduceLeDiff, Nat.reduceMul, Nat.reduceLT, Int.reduceEq, Int.reduceLT, Int.reduceLE, hi, hx, n1, n2, k1]
    refine sts_app1 hg1 hb n1 hn2 (by omega) fun x2 G2 y1 y3 y4 y5 => ?_
    obtain ⟨r1, r2⟩ := y5
    simp +contextual -dsimp -implicitDefEqProofs (maxSteps := 5000000) only [go_sem, reduceIte, reduceCtorEq, Nat.reduceEqDiff, Nat.reduceBEq, Nat.reduceAdd, Nat.reduceLeDiff, Nat.reduceMul, Nat.reduceLT, Int.reduceEq, Int.reduceLT, Int.reduceLE, n1, n2, r1, r2]
    have hMt : StS F (G2.set bs ⟨4, 138, [[.vsl (t.map rClass) cl, aProg P clp, x2, .vsl (s.fs.map rFault) clf]]⟩) bs t cl P clp (s.tell a) := ⟨x2, G2, clf, hF, y1, y3, rfl⟩
    refine retR_less (l := [.agg (rEn .next)]) (H' := G2.set bs _) ?_ (le_set (by rw [set_other n1]; exact y4)) ⟨rfl, stJ _ (s.tell a) _ ?_ ?_ hMt⟩
    · simp only [resA, go_sem, reduceIte, reduceCtorEq, Nat.reduceEqDiff, Nat.reduceBEq, Nat.reduceAdd, Nat.reduceLeDiff, Nat.reduceMul, Nat.reduceLT, Int.reduceEq, Int.reduceLT, Int.reduceLE, rEn, En.next]
    · show s.log ++ [a] = (s.jump k i).log ++ [a]
      rw [sj.1]
    · show s.fs = (s.jump k i).fs
      rw [sj.2]
  by_cases k2 : k = 2
  · have e : lineR k a b i h (fun s => runF t kids (i + 1) none h s) s = (⟨2, s.fs.length⟩, (s.jump k i).raise a b h) := by
      rw [e0 (by omega) (by omega)]; unfold lineS; rw [if_neg k1, if_pos k2, sj.2]
    rw [e]
    simp +contextual -dsimp -implicitDefEqProofs (maxSteps := 5000000) only [go_sem, reduceIte, reduceCtorEq, Nat.reduceEqDiff, Nat.reduceBEq, Nat.reduceAdd, Nat.reduceLeDiff, Nat.reduceMul, Nat.reduceLT, Int.reduceEq, Int.reduceLT, Int.reduceLE, hi, hx, n1, n2, k2]
    refine (c_sraise a b h hMin hfl hs.ho hh).mono ?_
    rintro _ H9 ⟨rfl, hM9⟩
    obtain ⟨H10, rfl, w1, w2⟩ := sts_out hM9 hF6
    simp +contextual -dsimp -implicitDefEqProofs (maxSteps := 5000000) only [go_sem, reduceIte, reduceCtorEq, Nat.reduceEqDiff, Nat.reduceBEq, Nat.reduceAdd, Nat.reduceLeDiff, Nat.reduceMul, Nat.reduceLT, Int.reduceEq, Int.reduceLT, Int.reduceLE, n1, n2]
    refine retR_less (l := [.agg (rEn ⟨2, s.fs.length⟩)]) (H' := H10) ?_ (le_set w2) ⟨rfl, stJ _ (s.raise a b h) _ ?_ ?_ w1⟩
    · simp only [resA, go_sem, reduceIte, reduceCtorEq, Nat.reduceEqDiff, Nat.reduceBEq, Nat.reduceAdd, Nat.reduceLeDiff, Nat.reduceMul, Nat.reduceLT, Int.reduceEq, Int.reduceLT, Int.reduceLE, rEn]
    · show s.log = (s.jump k i).log
      rw [sj.1]
    · show raiseF s.fs a b h = raiseF (s.jump k i).fs a b h
      rw [sj.2]
  by_cases k3 : k = 3
  · have e : lineR k a b i h (fun s => runF t kids (i + 1) none h s) s = lineS 3 0 0 h (s.jump k i) := by
      rw [e0 (by omega) (by omega)]
      generalize s.jump k i = s1
      rw [k3]
      simp [lineS]
    rw [e]
    have hMj := stJ _ s (s.jump k i) sj.1.symm sj.2.symm hM
    have key := c_sagain h (sts_in (K := ⟨2, 140, [[I 0, I 0]]⟩) hMj (nb6 _)) (by rw [sj.2]; exact hfl) (by rw [sj.2]; exact hs.ho)
    generalize lineS 3 0 0 h (s.jump k i) = r at key ⊢
    simp +contextual -dsimp -implicitDefEqProofs (maxSteps := 5000000) only [go_sem, reduceIte, reduceCtorEq, Nat.reduceEqDiff, Nat.reduceBEq, Nat.reduceAdd, Nat.reduceLeDiff, Nat.reduceMul, Nat.reduceLT, Int.reduceEq, Int.reduceLT, Int.reduceLE, hi, hx, n1, n2, k3]
    refine key.mono ?_
    rintro _ H9 ⟨rfl, hM9⟩
    obtain ⟨H10, rfl, w1, w2⟩ := sts_out hM9 hF6
    simp +contextual -dsimp -implicitDefEqProofs (maxSteps := 5000000) only [go_sem, reduceIte, reduceCtorEq, Nat.reduceEqDiff, Nat.reduceBEq, Nat.reduceAdd, Nat.reduceLeDiff, Nat.reduceMul, Nat.reduceLT, Int.reduceEq, Int.reduceLT, Int.reduceLE, n1, n2, rEn]
    refine retR_less (l := [.agg (rEn r.1)]) (H' := H10) ?_ (le_set w2) ⟨rfl, w1⟩
    simp only [resA, go_sem, reduceIte, reduceCtorEq, Nat.reduceEqDiff, Nat.reduceBEq, Nat.reduceAdd, Nat.reduceLeDiff, Nat.reduceMul, Nat.reduceLT, Int.reduceEq, Int.reduceLT, Int.reduceLE, rEn]
  by_cases k4 : k = 4
  · subst k4
    have e : lineR 4 a b i h (fun s => runF t kids (i + 1) none h s) s = (⟨1, a⟩, s.jump 4 i) := by
      rw [e0 (by omega) (by omega)]; unfold lineS; rw [if_neg k1, if_neg k2, if_neg k3, if_pos rfl]
    have hMj := stJ _ s (s.jump 4 i) sj.1.symm sj.2.symm hM
    rw [e]
    simp +contextual -dsimp -implicitDefEqProofs (maxSteps := 5000000) only [go_sem, reduceIte, reduceCtorEq, Nat.reduceEqDiff, Nat.reduceBEq, Nat.reduceAdd, Nat.reduceLeDiff, Nat.reduceMul, Nat.reduceLT, Int.reduceEq, Int.reduceLT, Int.reduceLE, hi, hx, n1, n2]
    refine retR_less (l := [.agg (rEn ⟨1, a⟩)]) (H' := G.set bs _) ?_ (le_set (nb6 _)) ⟨rfl, hMj⟩
    simp only [resA, go_sem, reduceIte, reduceCtorEq, Nat.reduceEqDiff, Nat.reduceBEq, Nat.reduceAdd, Nat.reduceLeDiff, Nat.reduceMul, Nat.reduceLT, Int.reduceEq, Int.reduceLT, Int.reduceLE, rEn]
  by_cases k5 : k = 5
  · subst k5
    have e : lineR 5 a b i h (fun s => runF t kids (i + 1) none h s) s = (⟨3, 0⟩, s.jump 5 i) := by
      rw [e0 (by omega) (by omega)]; unfold lineS; rw [if_neg k1, if_neg k2, if_neg k3, if_neg k4, if_pos rfl]
    have hMj := stJ _ s (s.jump 5 i) sj.1.symm sj.2.symm hM
    rw [e]
    simp +contextual -dsimp -implicitDefEqProofs (maxSteps := 5000000) only [go_sem, reduceIte, reduceCtorEq, Nat.reduceEqDiff, Nat.reduceBEq, Nat.reduceAdd, Nat.reduceLeDiff, Nat.reduceMul, Nat.reduceLT, Int.reduceEq, Int.reduceLT, Int.reduceLE, hi, hx, n1, n2]
    refine retR_less (l := [.agg (rEn ⟨3, 0⟩)]) (H' := G.set bs _) ?_ (le_set (nb6 _)) ⟨rfl, hMj⟩
    simp only [resA, go_sem, reduceIte, reduceCtorEq, Nat.reduceEqDiff, Nat.reduceBEq, Nat.reduceAdd, Nat.reduceLeDiff, Nat.reduceMul, Nat.reduceLT, Int.reduceEq, Int.reduceLT, Int.reduceLE, rEn]
  by_cases k6 : k = 6
  · subst k6
    have e : lineR 6 a b i h (fun s => runF t kids (i + 1) none h s) s = (⟨4, 0⟩, s.jump 6 i) := by
      rw [e0 (by omega) (by omega)]; unfold lineS; rw [if_neg k1, if_neg k2, if_neg k3, if_neg k4, if_neg k5, if_pos rfl]
    have hMj := stJ _ s (s.jump 6 i) sj.1.symm sj.2.symm hM
    rw [e]
    simp +contextual -dsimp -implicitDefEqProofs (maxSteps := 5000000) only [go_sem, reduceIte, reduceCtorEq, Nat.reduceEqDiff, Nat.reduceBEq, Nat.reduceAdd, Nat.reduceLeDiff, Nat.reduceMul, Nat.reduceLT, Int.reduceEq, Int.reduceLT, Int.reduceLE, hi, hx, n1, n2]
    refine retR_less (l := [.agg (rEn ⟨4, 0⟩)]) (H' := G.set bs _) ?_ (le_set (nb6 _)) ⟨rfl, hMj⟩
    simp only [resA, go_sem, reduceIte, reduceCtorEq, Nat.reduceEqDiff, Nat.reduceBEq, Nat.reduceAdd, Nat.reduceLeDiff, Nat.reduceMul, Nat.reduceLT, Int.reduceEq, Int.reduceLT, Int.reduceLE, rEn]
  by_cases k11 : k = 11
  · subst k11
    have e : lineR 11 a b i h (fun s => runF t kids (i + 1) none h s) s = withS a b (runF t kids (i + 1) none h (s.tell (100 + a))) := by unfold lineR; rw [if_pos rfl]
    rw [e]
    rw [if_neg (by decide)] at hl hf
    have key := c_swith ht ih hn hat hno hk (ho11 rfl) hs hh hl hf hMin hp
    generalize withS a b (runF t kids (i + 1) none h (s.tell (100 + a))) = r at key ⊢
    simp +contextual -dsimp -implicitDefEqProofs (maxSteps := 5000000) only [go_sem, reduceIte, reduceCtorEq, Nat.reduceEqDiff, Nat.reduceBEq, Nat.reduceAdd, Nat.reduceLeDiff, Nat.reduceMul, Nat.reduceLT, Int.reduceEq, Int.reduceLT, Int.reduceLE, hi, hx, n1, n2]
    refine key.mono ?_
    rintro _ H9 ⟨rfl, hM9⟩
    obtain ⟨H10, rfl, w1, w2⟩ := sts_out hM9 hF6
    simp +contextual -dsimp -implicitDefEqProofs (maxSteps := 5000000) only [go_sem, reduceIte, reduceCtorEq, Nat.reduceEqDiff, Nat.reduceBEq, Nat.reduceAdd, Nat.reduceLeDiff, Nat.reduceMul, Nat.reduceLT, Int.reduceEq, Int.reduceLT, Int.reduceLE, n1, n2, rEn]
    refine retR_less (l := [.agg (rEn r.1)]) (H' := H10) ?_ (le_set w2) ⟨rfl, w1⟩
    simp only [resA, go_sem, reduceIte, reduceCtorEq, Nat.reduceEqDiff, Nat.reduceBEq, Nat.reduceAdd, Nat.reduceLeDiff, Nat.reduceMul, Nat.reduceLT, Int.reduceEq, Int.reduceLT, Int.reduceLE, rEn]
  by_cases k12 : k = 12
  · subst k12
    have e : lineR 12 a b i h (fun s => runF t kids (i + 1) none h s) s = loopS (fun s => runF t kids (i + 1) none h s) a.toNat s := by unfold lineR; rw [if_neg (by decide), if_pos rfl]
    rw [e]
    rw [if_pos rfl] at hl hf
    have key := c_sloop ht ih hn hat hno hk (ho12 rfl) hs hh hl hf hMin hp
    generalize loopS (fun s => runF t kids (i + 1) none h s) a.toNat s = r at key ⊢
    simp +contextual -dsimp -implicitDefEqProofs (maxSteps := 5000000) only [go_sem, reduceIte, reduceCtorEq, Nat.reduceEqDiff, Nat.reduceBEq, Nat.reduceAdd, Nat.reduceLeDiff, Nat.reduceMul, Nat.reduceLT, Int.reduceEq, Int.reduceLT, Int.reduceLE, hi, hx, n1, n2]
    refine key.mono ?_
    rintro _ H9 ⟨rfl, hM9⟩
    obtain ⟨H10, rfl, w1, w2⟩ := sts_out hM9 hF6
    simp +contextual -dsimp -implicitDefEqProofs (maxSteps := 5000000) only [go_sem, reduceIte, reduceCtorEq, Nat.reduceEqDiff, Nat.reduceBEq, Nat.reduceAdd, Nat.reduceLeDiff, Nat.reduceMul, Nat.reduceLT, Int.reduceEq, Int.reduceLT, Int.reduceLE, n1, n2, rEn]
    refine retR_less (l := [.agg (rEn r.1)]) (H' := H10) ?_ (le_set w2) ⟨rfl, w1⟩
    simp only [resA, go_sem, reduceIte, reduceCtorEq, Nat.reduceEqDiff, Nat.reduceBEq, Nat.reduceAdd, Nat.reduceLeDiff, Nat.reduceMul, Nat.reduceLT, Int.reduceEq, Int.reduceLT, Int.reduceLE, rEn]
  have e : lineR k a b i h (fun s => runF t kids (i + 1) none h s) s = (.next, s.jump k i) := by
    rw [e0 k11 k12]; unfold lineS; rw [if_neg k1, if_neg k2, if_neg k3, if_neg k4, if_neg k5, if_neg k6]
  have hMj := stJ _ s (s.jump k i) sj.1.symm sj.2.symm hM
  rw [e]
  simp +contextual -dsimp -implicitDefEqProofs (maxSteps := 5000000) only [go_sem, reduceIte, reduceCtorEq, Nat.reduceEqDiff, Nat.reduceBEq, Nat.reduceAdd, Nat.reduceLeDiff, Nat.reduceMul, Nat.reduceLT, Int.reduceEq, Int.reduceLT, Int.reduceLE, hi, hx, n1, n2, k1, k2, k3, k4, k5, k6, k7, k11, k12]
  refine retR_less (l := [.agg (rEn .next)]) (H' := G.set bs _) ?_ (le_set (nb6 _)) ⟨rfl, hMj⟩
  simp only [resA, go_sem, reduceIte, reduceCtorEq, Nat.reduceEqDiff, Nat.reduceBEq, Nat.reduceAdd, Nat.reduceLeDiff, Nat.reduceMul, Nat.reduceLT, Int.reduceEq, Int.reduceLT, Int.reduceLE, rEn, En.next]
end
end
end Go.Proofs.YtjpfgafdjlkblaaGreat
