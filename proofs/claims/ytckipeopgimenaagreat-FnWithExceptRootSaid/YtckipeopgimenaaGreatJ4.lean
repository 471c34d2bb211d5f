/- Walks and plain laws that the claims of this seat lean on. No condition. -/
import Derived.Test.YtckipeopgimenaaGreatJ3
import Derived.Test.YtckipeopgimenaaGreatJ2
set_option linter.unusedVariables false
set_option linter.unusedSimpArgs false
namespace Go.Proofs.YtckipeopgimenaaGreat
open Go Go.Sim
section
set_option maxRecDepth 100000
attribute [local go_sem ↓] aw_skip aw_ret aw_exit aw_region aw_draw aw_seq aw_block aw_loop aw_cond frz_nil frz_cons sq_normal sq_ret sq_exit exB_normal exB_ret exB_same exB_other retQ_ret retQ_normal ret0_ret ret0_normal ao_nil go1 g_move g_assign g_pick g_build g_load g_binOp g_unOp g_convert g_fieldAddr g_field g_indexAddr g_index g_extract g_lookup g_slice g_nilCheck g_len g_makeFunc h_call h_append h_alloc h_box h_buildSlice h_makeSlice h_store gV i_box i_buildSlice i_move i_assign i_build i_load i_binOp i_unOp i_convert i_fieldAddr i_field i_indexAddr i_index i_extract i_lookup i_makeMap i_mapUpdate i_slice i_nilCheck i_makeFunc i_len i_max i_min i_alloc i_makeSlice i_store i_append i_call i_pick boxI boxA buildSliceI buildSliceA makeSliceA makeMapA allocA storeA p_move p_assign p_pick p_build p_load p_binOp p_unOp p_convert p_fieldAddr p_field p_indexAddr p_index p_extract p_lookup p_makeMap p_mapUpdate p_slice p_nilCheck p_makeFunc p_len p_max p_min p_alloc p_box p_buildSlice p_makeSlice p_store p_append p_call x_nil x_go1 x_g0 x_g1 x_g2 x_g3 x_s0 x_s1 x_s2 x_s3 u_move u_assign u_pick u_build u_load u_binOp u_unOp u_convert u_fieldAddr u_field u_indexAddr u_index u_extract u_lookup u_slice u_nilCheck u_makeFunc u_len u_buildSlice x_s4 x_g4 rq_normal rq_ret rq_exit aw_range
attribute [local go_sem] frzV_sl frzK_some set_none set_other AHeap.set_self set_del set_set cnd_t cnd_f cnd_b retA_one retA_two retA_three retA_four retA_nil gIf_b mrgV_b mrgV_wh mrgV_U gIf_U gIf_wh mrgB_f mrgB_some mrgB_if wh_true wh_false keepA_some keepA_if gD_zero gD_succ gT_some bxA_t bxA_f callA_fn ev_tmp ev_const ev_global ev_func oc_bool oc_int oc_string oc_nil oc_nilptr oc_nilfunc cl_bool cl_int cl_string cl_nil updO_some updO_none upd_same upd_other init_at pickA_b pickA_wh selA_t selA_f selA_and selA_or selA_orn selA_orm selA_bb selA_ii beqt b_add b_sub b_mul b_and b_or b_xor b_eql b_neq b_lss b_leq b_gtr b_geq b_quo b_rem b_shr b_seql b_sneq b_sadd b_beql b_bneq b_aeql b_aneq u_not u_neg isConstOp eqA eqCellV List.getD_cons_zero List.getD_cons_succ List.map_cons List.map_nil List.nil_append List.cons_append List.append_nil if_true if_false Option.map_some Option.map_none ne_eq not_false_eq_true oneA ldv ld1v ld1s wr1s ldRow stRow row_lit row_agg row_vsl row_sl row_ptr row_fn one_I one_B one_S one_vsl one_sl one_ptr one_fn extractA okA rI rS rU rClass rFault rExit rStart rLine Int.toNat_natCast List.length_cons List.length_nil List.length_map List.all_cons List.all_nil Bool.and_true Nat.zero_add List.getElem?_cons_zero List.getElem?_cons_succ List.take_succ_cons List.take_zero List.drop_succ_cons List.drop_zero and_self true_and and_true implies_true decide_eq_true_eq decide_eq_false_iff_not Bool.or_eq_true Bool.or_eq_false_iff Bool.and_eq_true Bool.not_eq_true' Bool.not_eq_false' beq_false decide_true decide_false Int.ofNat_lt Int.ofNat_le Int.natCast_nonneg Bool.or_true Bool.or_false Bool.true_or Bool.false_or beq_self_eq_true List.drop_one Bool.not_true Bool.not_false Bool.not_not Bool.false_eq_true Bool.true_eq_false false_implies true_implies Bool.true_and Bool.false_and Bool.and_false not_true_eq_false Int.natCast_eq_zero Int.natCast_pos Int.natCast_zero false_and and_false or_false false_or or_true true_or Bool.or_self none_le_iff List.replicate_zero Int.toNat_zero List.replicate_succ buildRows List.set_cons_zero List.set_cons_succ List.set_nil List.mapM_nil maxLen_eq Nat.zero_le Nat.mul_one Nat.one_mul bldA fillA spliceA List.take_nil List.drop_nil List.getElem?_nil ld1o wr1o bldSliceA le_same cv_i cvI_t quietT_fn qvd_some ld_o ldO_1 ldO_l wr_o wrO_1 set_2 set_3 set_4 putL_nil putL_cons List.zip_cons_cons List.zip_nil_left List.zip_nil_right List.toList_toArray frzV_set ti1 ti2 tk2 ti3 te3 ts3 tk3 tz3 ti4 tb4 ti5 tk5 tz5 ti9 te9 ts9 tk9 tz9 ti12 tk12 ti13 tp13 tf13_0 tf13_1 ti20 ti21 tk21 tz21 ti22 te22 tz22 ti23 te23 ti24 tp24 tf24_0 ti25 tp25 tf25_0 ti26 te26 ti28 ti29 te29 ti30 te30 ti31 tp31 tf31_0 ti32 tp32 tf32_0 ti33 tp33 tf33_0 tf33_1 tf33_2 tf33_3 ti34 tp34 tf34_0 tf34_1 tf34_2 tf34_3 ti35 ti36 ti37 ti38 ti40 ti42 ti43 ti44 tq44 tp44 tf44_0 tf44_1 tf44_2 ti45 tq45 tp45 tf45_0 tf45_1 tf45_2 ti47 ti48 ti49 tq49 tp49 tf49_0 tf49_1 tf49_2 tf49_3 ti50 tq50 tp50 tf50_0 tf50_1 tf50_2 tf50_3 ti51 ti52 ti54 ti55 ti56 ti57 te57 ti59 ti60 ti61 ti62 ti63 ti64 ti65 ti66 ti67 ti68 tq68 tp68 tf68_0 tf68_1 ti69 tq69 tp69 tf69_0 tf69_1 ti70 ti71 ti72 ti73 ti74 ti75 ti77 ti78 ti79 ti80 ti81 ti82 ti83 ti84 ti85 tq85 tp85 tf85_0 tf85_1 tf85_2 tf85_3 tf85_4 ti86 tq86 tp86 tf86_0 tf86_1 tf86_2 tf86_3 tf86_4 ti87 ti88 ti89 ti90 ti91 ti93 ti94 ti95 ti96 ti97 tq97 tp97 tf97_0 tf97_1 tf97_2 ti98 tq98 tp98 tf98_0 tf98_1 tf98_2 ti99 ti100 ti101 ti102 ti103 ti104 ti105 ti106 ti107 tp107 tf107_0 tf107_1 ti108 tp108 tf108_0 tf108_1 ti109 tp109 tf109_0 tf109_1 tf109_2 tf109_3 tf109_4 ti110 tp110 tf110_0 tf110_1 tf110_2 tf110_3 tf110_4 ti111 ti113 ti114 ti115 ti116 ti117 ti118 ti119 ti120 tp120 tf120_0 tf120_1 tf120_2 tf120_3 ti121 tp121 tf121_0 tf121_1 tf121_2 tf121_3 ti122 tq122 tp122 tf122_0 tf122_1 ti123 tq123 tp123 tf123_0 tf123_1 ti124 ti125 ti126 tq126 tp126 tf126_0 tf126_1 ti127 tq127 tp127 tf127_0 tf127_1 ti128 ti129 ti130 ti131 ti132 ti133 te133 ti134 ti135 ti136 ti137 ti138 ti139 ti140 ti141 ti142 ti143 ti144 tp144 tf144_0 tf144_1 tf144_2 ti145 tp145 tf145_0 tf145_1 tf145_2 ti146 ti147 ti148 ti149 ti150 te150 ti151 ti152 ti153 ti154 ti155 ti156 ti157 ti158 ti159 ti160 ti161 ti162 ti163 ti164 ti165 ti166 ti167 ti168 ti169 ti170 ti171 ti172 ti173 ti174 ti175 tk175 tz175 ti176 ti177 ti178 ti179 ti180 tk180 ti182 ti183 ti184 ti186 ti187 ti188 tk188 tz188 ti189 ti190 tk190 tz190 ti191 tk191 ti192 ti193 ti194 ti195 ti196 ti197 ti199 ti200 ti206 ti210 ti215 fp13_0 fv13_0 fp13_1 fv13_1 fp24_0 fv24_0 fp25_0 fv25_0 fp31_0 fv31_0 fp32_0 fv32_0 fp33_0 fv33_0 fp33_1 fv33_1 fp33_2 fv33_2 fp33_3 fv33_3 fp34_0 fv34_0 fp34_1 fv34_1 fp34_2 fv34_2 fp34_3 fv34_3 fp44_0 fv44_0 fp44_1 fv44_1 fp44_2 fv44_2 fp45_0 fv45_0 fp45_1 fv45_1 fp45_2 fv45_2 fp49_0 fv49_0 fp49_1 fv49_1 fp49_2 fv49_2 fp49_3 fv49_3 fp50_0 fv50_0 fp50_1 fv50_1 fp50_2 fv50_2 fp50_3 fv50_3 fp68_0 fv68_0 fp68_1 fv68_1 fp69_0 fv69_0 fp69_1 fv69_1 fp85_0 fv85_0 fp85_1 fv85_1 fp85_2 fv85_2 fp85_3 fv85_3 fp85_4 fv85_4 fp86_0 fv86_0 fp86_1 fv86_1 fp86_2 fv86_2 fp86_3 fv86_3 fp86_4 fv86_4 fp97_0 fv97_0 fp97_1 fv97_1 fp97_2 fv97_2 fp98_0 fv98_0 fp98_1 fv98_1 fp98_2 fv98_2 fp107_0 fv107_0 fp107_1 fv107_1 fp108_0 fv108_0 fp108_1 fv108_1 fp109_0 fv109_0 fp109_1 fv109_1 fp109_2 fv109_2 fp109_3 fv109_3 fp109_4 fv109_4 fp110_0 fv110_0 fp110_1 fv110_1 fp110_2 fv110_2 fp110_3 fv110_3 fp110_4 fv110_4 fp120_0 fv120_0 fp120_1 fv120_1 fp120_2 fv120_2 fp120_3 fv120_3 fp121_0 fv121_0 fp121_1 fv121_1 fp121_2 fv121_2 fp121_3 fv121_3 fp122_0 fv122_0 fp122_1 fv122_1 fp123_0 fv123_0 fp123_1 fv123_1 fp126_0 fv126_0 fp126_1 fv126_1 fp127_0 fv127_0 fp127_1 fv127_1 fp144_0 fv144_0 fp144_1 fv144_1 fp144_2 fv144_2 fp145_0 fv145_0 fp145_1 fv145_1 fp145_2 fv145_2 lv22 ll22 is22 ix22 sh22 so22 sb22 sm22 sp22 lv23 ll23 is23 ix23 sh23 so23 sb23 sm23 sp23 lv26 ll26 is26 ix26 sh26 so26 sb26 sm26 sp26 lv29 ll29 is29 ix29 sh29 so29 sb29 sm29 sp29 lv30 ll30 is30 ix30 sh30 so30 sb30 sm30 sp30 lv57 ll57 is57 ix57 sh57 so57 sb57 sm57 sp57 lv133 ll133 is133 sp133 lv150 ll150 is150 ix150 sh150 so150 sb150 sm150 sp150 xs9 ls9 sx9 sy9 sz9
section
open Go Go.Sim
set_option maxRecDepth 100000
set_option maxHeartbeats 4000000

section
variable {F H : AHeap} {bm c6 c7 c8 : Nat} {t p : AV} {log : List Int} {fs : List Fault} {first : Int} {K6 K7 K8 : ABlk}
theorem mach_in3 (hM : Mach F H bm t p log fs first) (h6 : H c6 = none) (h7 : H c7 = none) (h8 : H c8 = none) (d67 : ¬ c7 = c6) (d68 : ¬ c8 = c6) (d78 : ¬ c8 = c7) :
    Mach (((F.set c6 K6).set c7 K7).set c8 K8) (((H.set c6 K6).set c7 K7).set c8 K8) bm t p log fs first :=
  mach_in (mach_in (mach_in hM h6) (by rw [set_other d67]; exact h7)) (by rw [set_other d78, set_other d68]; exact h8)
theorem mach_out3 (hM : Mach (((F.set c6 K6).set c7 K7).set c8 K8) H bm t p log fs first) (h6 : F c6 = none) (h7 : F c7 = none) (h8 : F c8 = none) (d67 : ¬ c7 = c6) (d68 : ¬ c8 = c6) (d78 : ¬ c8 = c7) :
    ∃ H', H = ((H'.set c6 K6).set c7 K7).set c8 K8 ∧ Mach F H' bm t p log fs first ∧ H' c6 = none ∧ H' c7 = none ∧ H' c8 = none := by
  obtain ⟨H1, rfl, m1, n1⟩ := mach_out hM (by rw [set_other d78, set_other d68]; exact h8)
  obtain ⟨H2, rfl, m2, n2⟩ := mach_out m1 (by rw [set_other d67]; exact h7)
  obtain ⟨H3, rfl, m3, n3⟩ := mach_out m2 h6
  rw [set_other d78, set_other d68] at n1
  rw [set_other d67] at n2
  exact ⟨H3, rfl, m3, n3, n2, n1⟩
end
theorem c_try {t : List Class} {cl : Bool} {P : List Line} {clp : Bool} {n : Nat} (ht : validT t = true) (ih : LinesOk t cl P clp n) {i : Nat} {d k a b h : Int} {kids rest : Fo} {s : RS} {F H : AHeap} {bm : Nat} (cl2 : Bool)
    (hn : kids.size + rest.size < n) (hat : At P i d (.node k a b kids rest)) (hk : numsF t kids (d + 1) = true) (hr : numsF t rest d = true) (hs : FsOk t s.fs) (hh : h < s.fs.length) (hl : s.log.length + (cost kids + cost rest) ≤ 900000) (hf : s.fs.length + (cost kids + cost rest) ≤ 900000) (hM : MachS F H bm t cl P clp s) (hp : P.length ≤ 4398046511104) :
    ACalls Tryz.prog 79 [.ptr bm 5 0 0, .vsl ((toI (i :: chainN rest (i + 1 + kids.size))).map rI) cl2, I h] H fun r H' =>
      r = .agg (rEn (chainR t rest (i + 1 + kids.size) (runF t kids (i + 1) none h s).1 (runF t kids (i + 1) none h s).1 h (runF t kids (i + 1) none h s).2).1) ∧
      MachS F H' bm t cl P clp (chainR t rest (i + 1 + kids.size) (runF t kids (i + 1) none h s).1 (runF t kids (i + 1) none h s).1 h (runF t kids (i + 1) none h s).2).2 := by
  have ed : ∀ k : Nat, (toI (i :: chainN rest (i + 1 + kids.size))).drop k = toI ((i :: chainN rest (i + 1 + kids.size)).drop k) := fun k => toI_drop _ _
  have e0 : (i :: chainN rest (i + 1 + kids.size)).getD 0 default = i := rfl
  refine acalls_of1 Tryz.func79 rfl (by kernel_rfl) rfl rfl (awp_sound (fz := fun r => if r = 6 then [11] else if r = 19 then [13] else []) (im := fun _ => false) mixed _ _ _ _ (by kernel_rfl) ?_)
  simp +contextual -dsimp -implicitDefEqProofs (maxSteps := 5000000) only [go_sem, reduceIte, reduceCtorEq, Nat.reduceEqDiff, Nat.reduceBEq, Nat.reduceAdd, Nat.reduceLeDiff, Nat.reduceMul, Nat.reduceLT, Int.reduceEq, Int.reduceLT, Int.reduceLE, toI_len, toI_at, List.length_cons, e0]
  intro b6 hb6
  have hF6 := mach_none hM hb6
  have hgo := goes_run ht kids (i + 1) none (d + 1) h s hk hs hh trivial
  have hgl := hgo.len
  refine ⟨by omega, by omega, ?_⟩
  refine (c_block ih (by omega) hat hk hs hh (by omega) (by omega) (mach_in (K := ⟨2, 69, [[I 0, I 0]]⟩) hM hb6) hp).mono ?_
  rintro _ H3 ⟨rfl, hM3⟩
  generalize runF t kids (i + 1) none h s = r at hM3 hgo hgl ⊢
  obtain ⟨H4, rfl, hM4, hn4⟩ := mach_out hM3 hF6
  simp +contextual -dsimp -implicitDefEqProofs (maxSteps := 5000000) only [go_sem, reduceIte, reduceCtorEq, Nat.reduceEqDiff, Nat.reduceBEq, Nat.reduceAdd, Nat.reduceLeDiff, Nat.reduceMul, Nat.reduceLT, Int.reduceEq, Int.reduceLT, Int.reduceLE, rEn]
  rintro b7 ⟨d76, d67, n7⟩ b8 ⟨d87, d78, d86, d68, n8⟩
  rw [show (1 : Int).toNat = 1 from rfl, ed, List.drop_succ_cons, List.drop_zero, toI_len]
  refine ⟨by rw [List.length_cons]; omega, ?_⟩
  have hrat := hat.rest
  have hF7 : F b7 = none := mach_none hM4 n7
  have hF8 : F b8 = none := mach_none hM4 n8
  generalize i + 1 + kids.size = j at hrat ⊢
  have hch := chain_len rest j
  have hrl := hrat.len
  refine aloop mixed (fz := fun r => if r = 6 then [11] else if r = 19 then [13] else []) (im := fun _ => false) (by kernel_rfl) (fun m tm H' => ∃ (g : Fo) (q x : Nat) (st e : En) (s' : RS) (H'' : AHeap), m = g.size ∧ At P q d g ∧ numsF t g d = true ∧ g.size ≤ rest.size ∧ (chainN rest j).drop x = chainN g q ∧ x ≤ (chainN rest j).length ∧ FsOk t s'.fs ∧ s.fs.length ≤ s'.fs.length ∧ PdOk s' (some (st, e)) ∧ s'.log.length + cost g ≤ 900000 ∧ s'.fs.length + cost g ≤ 900000 ∧ chainR t rest j r.1 r.1 h r.2 = chainR t g q st e h s' ∧
      H' = ((H''.set b6 ⟨2, 69, [[I 0, I 0]]⟩).set b7 ⟨2, 69, [rEn e]⟩).set b8 ⟨2, 69, [rEn st]⟩ ∧ H'' b6 = none ∧ H'' b7 = none ∧ H'' b8 = none ∧ MachS F H'' bm t cl P clp s' ∧
      tm 0 = .ptr bm 5 0 0 ∧ tm 2 = I h ∧ tm 6 = .ptr b6 2 0 0 ∧ tm 7 = .ptr b7 2 0 0 ∧ tm 8 = .ptr b8 2 0 0 ∧ tm 22 = .vsl ((toI (chainN rest j)).map rI) cl2 ∧ tm 23 = I (chainN rest j).length ∧ tm 24 = I x) rest.size ⟨rest, j, 0, r.1, r.1, r.2, H4, rfl, hrat, hr, Nat.le_refl _, rfl, Nat.zero_le _, hgo.ok, hgl.1, ⟨hgo.val, hgo.val⟩, by omega, by omega, rfl, rfl, hn4, n7, n8, hM4, ?_⟩ ?_
  · simp +contextual -dsimp -implicitDefEqProofs (maxSteps := 5000000) only [go_sem, reduceIte, reduceCtorEq, Nat.reduceEqDiff, Nat.reduceBEq, Nat.reduceAdd, Nat.reduceLeDiff, Nat.reduceMul, Nat.reduceLT, Int.reduceEq, Int.reduceLT, Int.reduceLE, rEn]
    rw [toI_len]
  · rintro m tm _ ⟨g, q, x, st, e, s', H'', rfl, hgat, hgn, hgs, hdx, hxl, hs', hsl, hpd, bl, bf, he, rfl, h6, h7, h8, hM', t0, t2, t6, t7, t8, t22, t23, t24⟩
    have hexit : chainN g q = [] → chainR t g q st e h s' = (e, s') := by
      intro hq
      cases g with
      | nil => rfl
      | node k2 a2 b2 ks re =>
        simp only [chainN] at hq
        split at hq
        · cases hq
        · rename_i hk2
          simp only [chainR]; rw [if_neg hk2]
    cases hcq : chainN g q with
    | nil =>
      rw [hcq] at hdx
      have hx := drop_nil hdx
      rw [he, hexit hcq]
      simp +contextual -dsimp -implicitDefEqProofs (maxSteps := 5000000) only [go_sem, reduceIte, reduceCtorEq, Nat.reduceEqDiff, Nat.reduceBEq, Nat.reduceAdd, Nat.reduceLeDiff, Nat.reduceMul, Nat.reduceLT, Int.reduceEq, Int.reduceLT, Int.reduceLE, rEn, d76, d67, d87, d78, d86, d68, t0, t2, t6, t7, t8, t22, t23, t24, hx]
      refine retR_less (l := [.agg (rEn e)]) (H' := H'') ?_ (le_s1 (le_s1 (le_s1 (AHeap.le_refl _) h6) h7) h8) ⟨rfl, hM'⟩
      simp only [resA, go_sem, reduceIte, reduceCtorEq, Nat.reduceEqDiff, Nat.reduceBEq, Nat.reduceAdd, Nat.reduceLeDiff, Nat.reduceMul, Nat.reduceLT, Int.reduceEq, Int.reduceLT, Int.reduceLE, rEn, d76, d67, d87, d78, d86, d68, t6]
    | cons q' tl =>
      cases g with
      | nil => simp [chainN] at hcq
      | node k2 a2 b2 ks re =>
        have hk2 : followsK k2 = true := by
          simp only [chainN] at hcq
          split at hcq
          · assumption
          · cases hcq
        have hdx' : (chainN rest j).drop x = q :: chainN re (q + 1 + ks.size) := by
          rw [hdx]; simp only [chainN]; rw [if_pos hk2]
        obtain ⟨hx1, hx2, hx3⟩ := drop_cons hdx'
        have hf' := hk2
        simp only [followsK, inR, Bool.and_eq_true, decide_eq_true_eq] at hf'
        obtain ⟨n1, n2, n3, n4, n5⟩ := numsF_node hgn
        have hc := cost_node_le (k := k2) (a := a2) (b := b2) (kids := ks) (rest := re) (by omega)
        have hh2 := hgat.head
        have hsz : (Fo.node k2 a2 b2 ks re).size = 1 + ks.size + re.size := rfl
        have hch2 : chainR t (.node k2 a2 b2 ks re) q st e h s' = chainR t (.node k2 a2 b2 ks re) q st e h s' := rfl
        conv at hch2 => rhs; simp only [chainR]; rw [if_pos hk2]
        obtain ⟨xl, xf, H1, H2, hFm, hg1, hg2, hb, rfl⟩ := id hM'
        have h6' := h6
        have h7' := h7
        have h8' := h8
        rw [set_none] at h6' h7' h8'
        obtain ⟨m1, m2, m3⟩ := h6'
        obtain ⟨m4, m5, m6⟩ := h7'
        obtain ⟨m7, m8, m9⟩ := h8'
        have hgol : h < s'.fs.length := by omega
        have adv : ∀ (SZ : Nat) (st' e' : En) (s'' : RS) (H3 : AHeap), re.size < SZ → chainR t (.node k2 a2 b2 ks re) q st e h s' = chainR t re (q + 1 + ks.size) st' e' h s'' → FsOk t s''.fs → s.fs.length ≤ s''.fs.length → PdOk s'' (some (st', e')) → s''.log.length + cost re ≤ 900000 → s''.fs.length + cost re ≤ 900000 → H3 b6 = none → H3 b7 = none → H3 b8 = none → MachS F H3 bm t cl P clp s'' →
            ∃ m', m' < SZ ∧ ∃ (g : Fo) (q x_1 : Nat) (st_1 e_1 : En) (s'_1 : RS) (H'' : AHeap), m' = g.size ∧ At P q d g ∧ numsF t g d = true ∧ g.size ≤ rest.size ∧ (chainN rest j).drop x_1 = chainN g q ∧ x_1 ≤ (chainN rest j).length ∧ FsOk t s'_1.fs ∧ s.fs.length ≤ s'_1.fs.length ∧ PdOk s'_1 (some (st_1, e_1)) ∧ s'_1.log.length + cost g ≤ 900000 ∧ s'_1.fs.length + cost g ≤ 900000 ∧ chainR t rest j r.1 r.1 h r.2 = chainR t g q st_1 e_1 h s'_1 ∧
              ((H3.set b6 ⟨2, 69, [[I 0, I 0]]⟩).set b7 ⟨2, 69, [[I e'.ed, I e'.val]]⟩).set b8 ⟨2, 69, [[I st'.ed, I st'.val]]⟩ = ((H''.set b6 ⟨2, 69, [[I 0, I 0]]⟩).set b7 ⟨2, 69, [[I e_1.ed, I e_1.val]]⟩).set b8 ⟨2, 69, [[I st_1.ed, I st_1.val]]⟩ ∧ H'' b6 = none ∧ H'' b7 = none ∧ H'' b8 = none ∧ MachS F H'' bm t cl P clp s'_1 ∧ AV.lit (.int .i64 (IntKind.i64.wrap ((x : Int) + 1))) = I x_1 :=
          fun SZ st' e' s'' H3 q1 q2 q3 q4 q5 q6 q7 q8 q9 q10 q11 => ⟨re.size, q1, re, q + 1 + ks.size, x + 1, st', e', s'', H3, rfl, hgat.rest, n5, by omega, hx3, hx1, q3, q4, q5, q6, q7, by rw [he]; exact q2, rfl, q8, q9, q10, q11, I_wrap (by omega) (by omega) (by omega)⟩
        have szl : ∀ k : Int, re.size < (Fo.node k a2 b2 ks re).size := fun k => by simp only [Fo.size]; omega
        by_cases k9 : k2 = 9
        · rw [if_neg (by omega), if_pos k9] at hch2
          by_cases c0 : st.ed = 0
          · rw [if_pos c0] at hch2
            simp +contextual -dsimp -implicitDefEqProofs (maxSteps := 5000000) only [go_sem, reduceIte, reduceCtorEq, Nat.reduceEqDiff, Nat.reduceBEq, Nat.reduceAdd, Nat.reduceLeDiff, Nat.reduceMul, Nat.reduceLT, Int.reduceEq, Int.reduceLT, Int.reduceLE, rEn, d76, d67, d87, d78, d86, d68, m1, m2, m4, m5, m7, m8, t0, t2, t6, t7, t8, t22, t23, t24, toI_len, toI_at, hx1, hx2, hh2.1, hh2.2, k9, c0]
            rintro b11 hb11
            have hgo2 := goes_run ht ks (q + 1) none (d + 1) h s' n4 hs' hgol trivial
            have hgl2 := hgo2.len
            refine (c_block ih (by omega) hgat n4 hs' hgol (by omega) (by omega) (mach_in3 (K6 := ⟨2, 69, [[I 0, I 0]]⟩) (K7 := ⟨2, 69, [rEn e]⟩) (K8 := ⟨2, 69, [[I 0, I st.val]]⟩) hM' h6 h7 h8 d76 d86 d87) hp).mono ?_
            rintro _ H3 ⟨rfl, hM3⟩
            generalize runF t ks (q + 1) none h s' = r2 at hM3 hgo2 hgl2 hch2
            obtain ⟨H5, rfl, hM5, w6, w7, w8⟩ := mach_out3 hM3 hF6 hF7 hF8 d76 d86 d87
            simp +contextual -dsimp -implicitDefEqProofs (maxSteps := 5000000) only [go_sem, reduceIte, reduceCtorEq, Nat.reduceEqDiff, Nat.reduceBEq, Nat.reduceAdd, Nat.reduceLeDiff, Nat.reduceMul, Nat.reduceLT, Int.reduceEq, Int.reduceLT, Int.reduceLE, rEn, d76, d67, d87, d78, d86, d68, m1, m2, m4, m5, m7, m8, t0, t2, t6, t7, t8, t22, t23, t24, toI_len, toI_at, hx1, hx2, hh2.1, hh2.2, k9, c0]
            have fin := adv _ st r2.1 r2.2 H5 (szl 9) hch2 hgo2.ok (by omega) ⟨fun z => absurd (show st.ed = 2 from z) (by omega), hgo2.val⟩ (by omega) (by omega) w6 w7 w8 hM5
            rw [c0] at fin
            exact fin
          · rw [if_neg c0] at hch2
            simp +contextual -dsimp -implicitDefEqProofs (maxSteps := 5000000) only [go_sem, reduceIte, reduceCtorEq, Nat.reduceEqDiff, Nat.reduceBEq, Nat.reduceAdd, Nat.reduceLeDiff, Nat.reduceMul, Nat.reduceLT, Int.reduceEq, Int.reduceLT, Int.reduceLE, rEn, d76, d67, d87, d78, d86, d68, m1, m2, m4, m5, m7, m8, t0, t2, t6, t7, t8, t22, t23, t24, toI_len, toI_at, hx1, hx2, hh2.1, hh2.2, k9, c0]
            rintro b11 hb11
            exact adv _ st e s' _ (szl 9) hch2 hs' hsl hpd (by omega) (by omega) h6 h7 h8 hM'
        · by_cases k8 : k2 = 8
          · rw [if_pos k8] at hch2
            by_cases c2 : st.ed = 2
            · have hsv := hpd.1 c2
              simp only at hsv
              have sv0 := hsv.1
              have sv1 := hsv.2
              have sv2 : st.val.toNat < s'.fs.length := by omega
              have hcl := (hs'.cls st.val.toNat sv2).1
              have hcl2 := hasF_spec hcl
              simp +contextual -dsimp -implicitDefEqProofs (maxSteps := 5000000) only [go_sem, reduceIte, reduceCtorEq, Nat.reduceEqDiff, Nat.reduceBEq, Nat.reduceAdd, Nat.reduceLeDiff, Nat.reduceMul, Nat.reduceLT, Int.reduceEq, Int.reduceLT, Int.reduceLE, rEn, d76, d67, d87, d78, d86, d68, m1, m2, m4, m5, m7, m8, t0, t2, t6, t7, t8, t22, t23, t24, toI_len, toI_at, hx1, hx2, hh2.1, hh2.2, k8, c2]
              rintro b11 hb11
              refine draw_intro [0, 0, 0, 0, 0, 0, 0, 0, 0, 0, 0, 0, 0, 0, 0, 0, 0, 0, 0, 0, 2, 0] AHeap.none (by kernel_rfl) none_le ?_
              rcases hg2 with ⟨ee, _, _⟩ | ⟨bf, clf, hbf, rfl, rfl⟩
              · rw [ee] at sv1; simp at sv1; omega
              have ub := hb
              have u6 := m3
              have u7 := m6
              have u8 := m9
              rw [set_none] at ub u6 u7 u8
              obtain ⟨v1, v2, _⟩ := ub
              obtain ⟨v3, v4, _⟩ := u6
              obtain ⟨v5, v6, _⟩ := u7
              obtain ⟨v7, v8, _⟩ := u8
              simp +contextual -dsimp -implicitDefEqProofs (maxSteps := 5000000) only [go_sem, reduceIte, reduceCtorEq, Nat.reduceEqDiff, Nat.reduceBEq, Nat.reduceAdd, Nat.reduceLeDiff, Nat.reduceMul, Nat.reduceLT, Int.reduceEq, Int.reduceLT, Int.reduceLE, rEn, d76, d67, d87, d78, d86, d68, m1, m2, m4, m5, m7, m8, t0, t2, t6, t7, t8, t22, t23, t24, toI_len, toI_at, hx1, hx2, hh2.1, hh2.2, k8, c2, v1, v2, v3, v4, v5, v6, v7, v8, sv0, sv1, sv2]
              refine (c_is t cl _ a2 _ ht hcl2.2).det ?_
              simp +contextual -dsimp -implicitDefEqProofs (maxSteps := 5000000) only [go_sem, reduceIte, reduceCtorEq, Nat.reduceEqDiff, Nat.reduceBEq, Nat.reduceAdd, Nat.reduceLeDiff, Nat.reduceMul, Nat.reduceLT, Int.reduceEq, Int.reduceLT, Int.reduceLE, rEn, d76, d67, d87, d78, d86, d68, m1, m2, m4, m5, m7, m8, t0, t2, t6, t7, t8, t22, t23, t24, toI_len, toI_at, hx1, hx2, hh2.1, hh2.2, k8, c2, v1, v2, v3, v4, v5, v6, v7, v8, sv0, sv1, sv2]
              refine ⟨fun hq => ?_, fun hq => ?_⟩
              · rw [if_pos ⟨c2, hq⟩] at hch2
                have hgo2 := goes_run ht ks (q + 1) none (d + 1) st.val s' n4 hs' sv1 trivial
                have hgl2 := hgo2.len
                refine (c_block ih (by omega) hgat n4 hs' sv1 (by omega) (by omega) (mach_in3 (K6 := ⟨2, 69, [[I 0, I 0]]⟩) (K7 := ⟨2, 69, [rEn e]⟩) (K8 := ⟨2, 69, [[I 2, I st.val]]⟩) hM' h6 h7 h8 d76 d86 d87) hp).mono ?_
                rintro _ H3 ⟨rfl, hM3⟩
                generalize runF t ks (q + 1) none st.val s' = r2 at hM3 hgo2 hgl2 hch2
                obtain ⟨H5, rfl, hM5, w6, w7, w8⟩ := mach_out3 hM3 hF6 hF7 hF8 d76 d86 d87
                simp +contextual -dsimp -implicitDefEqProofs (maxSteps := 5000000) only [go_sem, reduceIte, reduceCtorEq, Nat.reduceEqDiff, Nat.reduceBEq, Nat.reduceAdd, Nat.reduceLeDiff, Nat.reduceMul, Nat.reduceLT, Int.reduceEq, Int.reduceLT, Int.reduceLE, rEn, d76, d67, d87, d78, d86, d68, m1, m2, m4, m5, m7, m8, t0, t2, t6, t7, t8, t22, t23, t24, toI_len, toI_at, hx1, hx2, hh2.1, hh2.2, k8, c2]
                exact adv _ ⟨-1, 0⟩ r2.1 r2.2 H5 (szl 8) hch2 hgo2.ok (by omega) ⟨(fun z => by cases z), hgo2.val⟩ (by omega) (by omega) w6 w7 w8 hM5
              · rw [if_neg (fun z => by have := z.2; unfold isF clsOf at this; rw [hq] at this; cases this)] at hch2
                have fin := adv _ st e s' _ (szl 8) hch2 hs' hsl hpd (by omega) (by omega) h6 h7 h8 hM'
                rw [c2] at fin
                exact fin
            · rw [if_neg (fun z => c2 z.1)] at hch2
              simp +contextual -dsimp -implicitDefEqProofs (maxSteps := 5000000) only [go_sem, reduceIte, reduceCtorEq, Nat.reduceEqDiff, Nat.reduceBEq, Nat.reduceAdd, Nat.reduceLeDiff, Nat.reduceMul, Nat.reduceLT, Int.reduceEq, Int.reduceLT, Int.reduceLE, rEn, d76, d67, d87, d78, d86, d68, m1, m2, m4, m5, m7, m8, t0, t2, t6, t7, t8, t22, t23, t24, toI_len, toI_at, hx1, hx2, hh2.1, hh2.2, k8, c2]
              rintro b11 hb11
              refine draw_intro [0, 0, 0, 0, 0, 0, 0, 0, 0, 0, 0, 0, 0, 0, 0, 0, 0, 0, 0, 0, 2, 0] AHeap.none (by kernel_rfl) none_le ?_
              simp +contextual -dsimp -implicitDefEqProofs (maxSteps := 5000000) only [go_sem, reduceIte, reduceCtorEq, Nat.reduceEqDiff, Nat.reduceBEq, Nat.reduceAdd, Nat.reduceLeDiff, Nat.reduceMul, Nat.reduceLT, Int.reduceEq, Int.reduceLT, Int.reduceLE, rEn, d76, d67, d87, d78, d86, d68, m1, m2, m4, m5, m7, m8, t0, t2, t6, t7, t8, t22, t23, t24, toI_len, toI_at, hx1, hx2, hh2.1, hh2.2, k8, c2]
              exact adv _ st e s' _ (szl 8) hch2 hs' hsl hpd (by omega) (by omega) h6 h7 h8 hM'
          · have k10 : k2 = 10 := by omega
            rw [if_neg k8, if_neg k9] at hch2
            by_cases c2 : e.ed = 2
            · have hev := hpd.2 c2
              simp only at hev
              rw [if_pos c2] at hch2
              simp +contextual -dsimp -implicitDefEqProofs (maxSteps := 5000000) only [go_sem, reduceIte, reduceCtorEq, Nat.reduceEqDiff, Nat.reduceBEq, Nat.reduceAdd, Nat.reduceLeDiff, Nat.reduceMul, Nat.reduceLT, Int.reduceEq, Int.reduceLT, Int.reduceLE, rEn, d76, d67, d87, d78, d86, d68, m1, m2, m4, m5, m7, m8, t0, t2, t6, t7, t8, t22, t23, t24, toI_len, toI_at, hx1, hx2, hh2.1, hh2.2, k10, c2]
              rintro b11 hb11
              have hgo2 := goes_run ht ks (q + 1) none (d + 1) e.val s' n4 hs' hev.2 trivial
              have hgl2 := hgo2.len
              refine (c_block ih (by omega) hgat n4 hs' hev.2 (by omega) (by omega) (mach_in3 (K6 := ⟨2, 69, [[I 0, I 0]]⟩) (K7 := ⟨2, 69, [[I 2, I e.val]]⟩) (K8 := ⟨2, 69, [rEn st]⟩) hM' h6 h7 h8 d76 d86 d87) hp).mono ?_
              rintro _ H3 ⟨rfl, hM3⟩
              generalize runF t ks (q + 1) none e.val s' = r2 at hM3 hgo2 hgl2 hch2
              obtain ⟨H5, rfl, hM5, w6, w7, w8⟩ := mach_out3 hM3 hF6 hF7 hF8 d76 d86 d87
              by_cases c0 : r2.1.ed = 0
              · rw [if_pos c0] at hch2
                simp +contextual -dsimp -implicitDefEqProofs (maxSteps := 5000000) only [go_sem, reduceIte, reduceCtorEq, Nat.reduceEqDiff, Nat.reduceBEq, Nat.reduceAdd, Nat.reduceLeDiff, Nat.reduceMul, Nat.reduceLT, Int.reduceEq, Int.reduceLT, Int.reduceLE, rEn, d76, d67, d87, d78, d86, d68, m1, m2, m4, m5, m7, m8, t0, t2, t6, t7, t8, t22, t23, t24, toI_len, toI_at, hx1, hx2, hh2.1, hh2.2, k10, c2, c0]
                rintro b13 hb13
                have fin := adv _ st e r2.2 H5 (szl 10) hch2 hgo2.ok (by omega) ⟨fun z => by have := hpd.1 z; simp only at this; show 0 ≤ st.val ∧ st.val < (r2.2.fs.length : Int); omega, fun z => by have := hpd.2 z; simp only at this; show 0 ≤ e.val ∧ e.val < (r2.2.fs.length : Int); omega⟩ (by omega) (by omega) w6 w7 w8 hM5
                rw [c2] at fin
                exact fin
              · rw [if_neg c0] at hch2
                simp +contextual -dsimp -implicitDefEqProofs (maxSteps := 5000000) only [go_sem, reduceIte, reduceCtorEq, Nat.reduceEqDiff, Nat.reduceBEq, Nat.reduceAdd, Nat.reduceLeDiff, Nat.reduceMul, Nat.reduceLT, Int.reduceEq, Int.reduceLT, Int.reduceLE, rEn, d76, d67, d87, d78, d86, d68, m1, m2, m4, m5, m7, m8, t0, t2, t6, t7, t8, t22, t23, t24, toI_len, toI_at, hx1, hx2, hh2.1, hh2.2, k10, c2, c0]
                rintro b13 hb13
                exact adv _ st r2.1 r2.2 H5 (szl 10) hch2 hgo2.ok (by omega) ⟨fun z => by have := hpd.1 z; simp only at this; show 0 ≤ st.val ∧ st.val < (r2.2.fs.length : Int); omega, hgo2.val⟩ (by omega) (by omega) w6 w7 w8 hM5
            · rw [if_neg c2] at hch2
              simp +contextual -dsimp -implicitDefEqProofs (maxSteps := 5000000) only [go_sem, reduceIte, reduceCtorEq, Nat.reduceEqDiff, Nat.reduceBEq, Nat.reduceAdd, Nat.reduceLeDiff, Nat.reduceMul, Nat.reduceLT, Int.reduceEq, Int.reduceLT, Int.reduceLE, rEn, d76, d67, d87, d78, d86, d68, m1, m2, m4, m5, m7, m8, t0, t2, t6, t7, t8, t22, t23, t24, toI_len, toI_at, hx1, hx2, hh2.1, hh2.2, k10, c2]
              rintro b11 hb11
              have hgo2 := goes_run ht ks (q + 1) none (d + 1) h s' n4 hs' hgol trivial
              have hgl2 := hgo2.len
              refine (c_block ih (by omega) hgat n4 hs' hgol (by omega) (by omega) (mach_in3 (K6 := ⟨2, 69, [[I 0, I 0]]⟩) (K7 := ⟨2, 69, [rEn e]⟩) (K8 := ⟨2, 69, [rEn st]⟩) hM' h6 h7 h8 d76 d86 d87) hp).mono ?_
              rintro _ H3 ⟨rfl, hM3⟩
              generalize runF t ks (q + 1) none h s' = r2 at hM3 hgo2 hgl2 hch2
              obtain ⟨H5, rfl, hM5, w6, w7, w8⟩ := mach_out3 hM3 hF6 hF7 hF8 d76 d86 d87
              by_cases c0 : r2.1.ed = 0
              · rw [if_pos c0] at hch2
                simp +contextual -dsimp -implicitDefEqProofs (maxSteps := 5000000) only [go_sem, reduceIte, reduceCtorEq, Nat.reduceEqDiff, Nat.reduceBEq, Nat.reduceAdd, Nat.reduceLeDiff, Nat.reduceMul, Nat.reduceLT, Int.reduceEq, Int.reduceLT, Int.reduceLE, rEn, d76, d67, d87, d78, d86, d68, m1, m2, m4, m5, m7, m8, t0, t2, t6, t7, t8, t22, t23, t24, toI_len, toI_at, hx1, hx2, hh2.1, hh2.2, k10, c2, c0]
                rintro b13 hb13
                exact adv _ st e r2.2 H5 (szl 10) hch2 hgo2.ok (by omega) ⟨fun z => by have := hpd.1 z; simp only at this; show 0 ≤ st.val ∧ st.val < (r2.2.fs.length : Int); omega, fun z => absurd z c2⟩ (by omega) (by omega) w6 w7 w8 hM5
              · rw [if_neg c0] at hch2
                simp +contextual -dsimp -implicitDefEqProofs (maxSteps := 5000000) only [go_sem, reduceIte, reduceCtorEq, Nat.reduceEqDiff, Nat.reduceBEq, Nat.reduceAdd, Nat.reduceLeDiff, Nat.reduceMul, Nat.reduceLT, Int.reduceEq, Int.reduceLT, Int.reduceLE, rEn, d76, d67, d87, d78, d86, d68, m1, m2, m4, m5, m7, m8, t0, t2, t6, t7, t8, t22, t23, t24, toI_len, toI_at, hx1, hx2, hh2.1, hh2.2, k10, c2, c0]
                rintro b13 hb13
                exact adv _ st r2.1 r2.2 H5 (szl 10) hch2 hgo2.ok (by omega) ⟨fun z => by have := hpd.1 z; simp only at this; show 0 ≤ st.val ∧ st.val < (r2.2.fs.length : Int); omega, hgo2.val⟩ (by omega) (by omega) w6 w7 w8 hM5
end
section
open Go Go.Sim
set_option maxRecDepth 100000
set_option maxHeartbeats 4000000

theorem goes_chain {t : List Class} (ht : validT t = true) : ∀ (f : Fo) (i : Nat) (st e : En) (d h : Int) (s : RS), numsF t f d = true → FsOk t s.fs → h < s.fs.length → PdOk s (some (st, e)) →
    ∃ c, c + cost (skipF f) ≤ cost f ∧ Goes t c s (chainR t f i st e h s).1 (chainR t f i st e h s).2
  | .nil, i, st, e, d, h, s, _, hs, _, hp => ⟨0, Nat.le_refl _, goes_self hs hp.2⟩
  | .node k a b kids rest, i, st, e, d, h, s, hn, hs, hh, hp => by
    obtain ⟨n1, n2, n3, n4, n5⟩ := numsF_node hn
    simp only [chainR, skipF]
    by_cases hk : followsK k = true
    · simp only [hk, if_true]
      have hk' := hk
      simp only [followsK, inR, Bool.and_eq_true, decide_eq_true_eq] at hk'
      have hc := cost_node_le (k := k) (a := a) (b := b) (kids := kids) (rest := rest) (by omega)
      have pass : ∀ (q : En × En), PdOk s (some q) → ∃ c, c + cost (skipF rest) ≤ cost (.node k a b kids rest) ∧ Goes t c s (chainR t rest (i + 1 + kids.size) q.1 q.2 h s).1 (chainR t rest (i + 1 + kids.size) q.1 q.2 h s).2 := by
        intro q hq
        obtain ⟨c, h1, h2⟩ := goes_chain ht rest (i + 1 + kids.size) q.1 q.2 d h s n5 hs hh hq
        exact ⟨c, by omega, h2⟩
      have go : ∀ (g : Int) (st : En) (e : En × RS → En), g < s.fs.length → (st.ed = 2 → 0 ≤ st.val ∧ st.val < s.fs.length) → (∀ r : En × RS, (r.1.ed = 2 → 0 ≤ r.1.val ∧ r.1.val < r.2.fs.length) → s.fs.length ≤ r.2.fs.length → (e r).ed = 2 → 0 ≤ (e r).val ∧ (e r).val < r.2.fs.length) →
          ∃ c, c + cost (skipF rest) ≤ cost (.node k a b kids rest) ∧ Goes t c s ((fun r : En × RS => chainR t rest (i + 1 + kids.size) st (e r) h r.2) (runF t kids (i + 1) none g s)).1 ((fun r : En × RS => chainR t rest (i + 1 + kids.size) st (e r) h r.2) (runF t kids (i + 1) none g s)).2 := by
        intro g st e hg hst he
        have h1 := goes_run ht kids (i + 1) none (d + 1) g s n4 hs hg trivial
        generalize runF t kids (i + 1) none g s = r at h1 ⊢
        have hl := h1.len
        obtain ⟨c, h2, h3⟩ := goes_chain ht rest (i + 1 + kids.size) st (e r) d h r.2 n5 h1.ok (by omega) ⟨fun q => by have := hst q; show 0 ≤ st.val ∧ st.val < (r.2.fs.length : Int); omega, he r h1.val hl.1⟩
        exact ⟨cost kids + c, by omega, h1.trans h3 (Nat.le_refl _)⟩
      split
      · split
        · rename_i hq
          exact go st.val ⟨-1, 0⟩ (fun r => r.1) (hp.1 hq.1).2 (fun q => by cases q) (fun r hr _ => hr)
        · exact pass (st, e) hp
      · split
        · split
          · exact go h st (fun r => r.1) hh hp.1 (fun r hr _ => hr)
          · exact pass (st, e) hp
        · refine go _ st (fun r => if r.1.ed = 0 then e else r.1) ?_ hp.1 (fun r hr hl => ?_)
          · split
            · exact (hp.2 ‹_›).2
            · exact hh
          · split
            · exact fun z => by have := hp.2 z; simp only at this; omega
            · exact hr
    · rw [if_neg hk, if_neg hk]
      exact ⟨0, by omega, goes_self hs hp.2⟩
theorem numsF_skip {t : List Class} {d : Int} : ∀ (f : Fo), numsF t f d = true → numsF t (skipF f) d = true
  | .nil, h => h
  | .node k a b kids rest, h => by
    simp only [skipF]
    split
    · exact numsF_skip rest (numsF_node h).2.2.2.2
    · exact h
theorem getD_last (i : Nat) (l : List Nat) : (i :: l).getD l.length default = (i :: l).getLastD 0 := by
  rw [List.getLastD_cons]
  induction l generalizing i with
  | nil => rfl
  | cons x l ih => rw [List.length_cons, List.getD_cons_succ, List.getLastD_cons]; exact ih x
theorem c_linesStep {t : List Class} {cl : Bool} {P : List Line} {clp : Bool} {n : Nat} (ht : validT t = true) (hp : P.length ≤ 4398046511104) (ih : LinesOk t cl P clp n) : LinesOk t cl P clp (n + 1) := by
  intro f i d h s F H bm hfn hat hnf hs hh hl hf hM
  have hfl := hat.len
  refine acalls_of1 Tryz.func36 rfl (by kernel_rfl) rfl rfl (awp_sound (fz := fun r => if r = 12 then [11] else []) (im := fun _ => false) mixed _ _ _ _ (by kernel_rfl) ?_)
  simp +contextual -dsimp -implicitDefEqProofs (maxSteps := 5000000) only [go_sem, reduceIte, reduceCtorEq, Nat.reduceEqDiff, Nat.reduceBEq, Nat.reduceAdd, Nat.reduceLeDiff, Nat.reduceMul, Nat.reduceLT, Int.reduceEq, Int.reduceLT, Int.reduceLE]
  intro b8 hb8
  have hF8 := mach_none hM hb8
  refine aloop mixed (fz := fun r => if r = 12 then [11] else []) (im := fun _ => false) (by kernel_rfl) (fun m tm H' => ∃ (g : Fo) (q : Nat) (s' : RS) (H'' : AHeap), m = g.size ∧ At P q d g ∧ numsF t g d = true ∧ g.size ≤ f.size ∧ q + g.size = i + f.size ∧ FsOk t s'.fs ∧ s.fs.length ≤ s'.fs.length ∧ s'.log.length + cost g ≤ 900000 ∧ s'.fs.length + cost g ≤ 900000 ∧ runF t f i none h s = runF t g q none h s' ∧ H' = H''.set b8 ⟨2, 69, [[I 0, I 0]]⟩ ∧ H'' b8 = none ∧ MachS F H'' bm t cl P clp s' ∧ tm 0 = .ptr bm 5 0 0 ∧ tm 2 = I (i + f.size : Nat) ∧ tm 3 = I h ∧ tm 8 = .ptr b8 2 0 0 ∧ tm 9 = I q) f.size ⟨f, i, s, H, rfl, hat, hnf, Nat.le_refl _, rfl, hs, Nat.le_refl _, hl, hf, rfl, rfl, hb8, hM, ?_⟩ ?_
  · simp +contextual -dsimp -implicitDefEqProofs (maxSteps := 5000000) only [go_sem, reduceIte, reduceCtorEq, Nat.reduceEqDiff, Nat.reduceBEq, Nat.reduceAdd, Nat.reduceLeDiff, Nat.reduceMul, Nat.reduceLT, Int.reduceEq, Int.reduceLT, Int.reduceLE]
  · rintro m tm _ ⟨g, q, s', H'', rfl, hgat, hgn, hgs, hgq, hs', hsl, bl, bf, he, rfl, h8, hM', t0, t2, t3, t8, t9⟩
    cases g with
    | nil =>
      have z : ¬ q < i + f.size := by simp only [Fo.size] at hgq; omega
      rw [he]
      simp +contextual -dsimp -implicitDefEqProofs (maxSteps := 5000000) only [go_sem, reduceIte, reduceCtorEq, Nat.reduceEqDiff, Nat.reduceBEq, Nat.reduceAdd, Nat.reduceLeDiff, Nat.reduceMul, Nat.reduceLT, Int.reduceEq, Int.reduceLT, Int.reduceLE, t0, t2, t3, t8, t9, z]
      refine retR_less (l := [.agg (rEn .next)]) (H' := H'') ?_ (le_set h8) ⟨rfl, hM'⟩
      simp only [resA, go_sem, reduceIte, reduceCtorEq, Nat.reduceEqDiff, Nat.reduceBEq, Nat.reduceAdd, Nat.reduceLeDiff, Nat.reduceMul, Nat.reduceLT, Int.reduceEq, Int.reduceLT, Int.reduceLE, rEn, En.next, t8]
    | node k a b kids rest =>
      have hsz : (Fo.node k a b kids rest).size = 1 + kids.size + rest.size := rfl
      have z : q < i + f.size := by omega
      have hq := hgat.head
      obtain ⟨xl, xf, H1, H2, hFm, hg1, hg2, hb, rfl⟩ := id hM'
      have h8' := h8
      rw [set_none] at h8'
      obtain ⟨m1, m2, m3⟩ := h8'
      obtain ⟨n1, n2, n3, n4, n5⟩ := numsF_node hgn
      simp +contextual -dsimp -implicitDefEqProofs (maxSteps := 5000000) only [go_sem, reduceIte, reduceCtorEq, Nat.reduceEqDiff, Nat.reduceBEq, Nat.reduceAdd, Nat.reduceLeDiff, Nat.reduceMul, Nat.reduceLT, Int.reduceEq, Int.reduceLT, Int.reduceLE, t0, t2, t3, t8, t9, z, m1, m2]
      refine (c_endOf P clp q _ hq.1).det ?_
      rw [hgat.endP]
      simp +contextual -dsimp -implicitDefEqProofs (maxSteps := 5000000) only [go_sem, reduceIte, reduceCtorEq, Nat.reduceEqDiff, Nat.reduceBEq, Nat.reduceAdd, Nat.reduceLeDiff, Nat.reduceMul, Nat.reduceLT, Int.reduceEq, Int.reduceLT, Int.reduceLE, t0, t2, t3, t8, t9, z, m1, m2, hq.1, hq.2]
      rintro b11 ⟨d1, d2, d3, d4, m4⟩
      have h11 : (H2.set bm ⟨5, 110, [[.vsl (t.map rClass) cl, aProg P clp, xl, xf, I s'.first]]⟩) b11 = none := by rw [set_other d3]; exact m4
      have hF11 := mach_none hM' h11
      have adv : ∀ (SZ : Nat) (g' : Fo) (q' : Nat) (s'' : RS) (H3 : AHeap), g'.size < SZ → g'.size ≤ rest.size → At P q' d g' → numsF t g' d = true → q' + g'.size = i + f.size → runF t (.node k a b kids rest) q none h s' = runF t g' q' none h s'' → FsOk t s''.fs → s.fs.length ≤ s''.fs.length → s''.log.length + cost g' ≤ 900000 → s''.fs.length + cost g' ≤ 900000 → H3 b8 = none → MachS F H3 bm t cl P clp s'' →
          ∃ m', m' < SZ ∧ ∃ (g : Fo) (q : Nat) (s' : RS) (H'' : AHeap), m' = g.size ∧ At P q d g ∧ numsF t g d = true ∧ g.size ≤ f.size ∧ q + g.size = i + f.size ∧ FsOk t s'.fs ∧ s.fs.length ≤ s'.fs.length ∧ s'.log.length + cost g ≤ 900000 ∧ s'.fs.length + cost g ≤ 900000 ∧ runF t f i none h s = runF t g q none h s' ∧ H3.set b8 ⟨2, 69, [[I 0, I 0]]⟩ = H''.set b8 ⟨2, 69, [[I 0, I 0]]⟩ ∧ H'' b8 = none ∧ MachS F H'' bm t cl P clp s' ∧ I q' = I q :=
        fun SZ g' q' s'' H3 w1 w0 w2 w3 w4 w5 w6 w7 w8 w9 w10 w11 => ⟨g'.size, w1, g', q', s'', H3, rfl, w2, w3, by omega, w4, w6, w7, w8, w9, by rw [he]; exact w5, rfl, w10, w11, rfl⟩
      have hMin := mach_in (K := ⟨2, 69, [[I 0, I 0]]⟩) (mach_in (K := ⟨2, 69, [[I 0, I 0]]⟩) hM' h8) (show ((H2.set bm _).set b8 _) b11 = none by rw [set_other d1]; exact h11)
      have mout : ∀ (s'' : RS) (H3 : AHeap), MachS ((F.set b8 ⟨2, 69, [[I 0, I 0]]⟩).set b11 ⟨2, 69, [[I 0, I 0]]⟩) H3 bm t cl P clp s'' → ∃ H4, H3 = (H4.set b8 ⟨2, 69, [[I 0, I 0]]⟩).set b11 ⟨2, 69, [[I 0, I 0]]⟩ ∧ MachS F H4 bm t cl P clp s'' ∧ H4 b8 = none ∧ H4 b11 = none := by
        intro s'' H3 hM3
        obtain ⟨H4, rfl, hM4, w1⟩ := mach_out hM3 (by rw [set_other d1]; exact hF11)
        obtain ⟨H5, rfl, hM5, w2⟩ := mach_out hM4 hF8
        rw [set_other d1] at w1
        exact ⟨H5, rfl, hM5, w2, w1⟩
      by_cases k7 : k = 7
      · subst k7
        have hc : cost (.node 7 a b kids rest) = 2 + cost kids + cost rest := cost_node_le (by omega)
        simp +contextual -dsimp -implicitDefEqProofs (maxSteps := 5000000) only [go_sem, reduceIte, reduceCtorEq, Nat.reduceEqDiff, Nat.reduceBEq, Nat.reduceAdd, Nat.reduceLeDiff, Nat.reduceMul, Nat.reduceLT, Int.reduceEq, Int.reduceLT, Int.reduceLE, t0, t2, t3, t8, t9, z, m1, m2, hq.1, hq.2, d1, d2, d3, d4]
        refine acalls_frz (c_tryFrom P clp q _ hq.1 hp) fun cl2 => ?_
        rw [chainP_at hgat]
        simp +contextual -dsimp -implicitDefEqProofs (maxSteps := 5000000) only [go_sem, reduceIte, reduceCtorEq, Nat.reduceEqDiff, Nat.reduceBEq, Nat.reduceAdd, Nat.reduceLeDiff, Nat.reduceMul, Nat.reduceLT, Int.reduceEq, Int.reduceLT, Int.reduceLE, t0, t2, t3, t8, t9, z, m1, m2, hq.1, hq.2, d1, d2, d3, d4]
        refine draw_intro [0, 0, 0, 0, 0, 0, 0, 0, 0, 0, 2, 0] AHeap.none (by kernel_rfl) none_le ?_
        have hce := chain_end rest (q + 1 + kids.size) q hgat.rest hgat.endP
        have hgl := getD_last q (chainN rest (q + 1 + kids.size))
        have hmem := chainP_mem hq.1 ((q :: chainN rest (q + 1 + kids.size)).getLastD 0) (by
          rw [chainP_at hgat, ← hgl, List.getD_eq_getElem?_getD, List.getElem?_eq_getElem (by simp)]
          exact List.getElem_mem _)
        have hwl : IntKind.i64.wrap (((chainN rest (q + 1 + kids.size)).length + 1 : Nat) - 1) = ((chainN rest (q + 1 + kids.size)).length : Int) := by
          have := chain_len rest (q + 1 + kids.size)
          rw [w64 (by omega) (by omega)]; omega
        have hlt1 : ((chainN rest (q + 1 + kids.size)).length : Int) < (((chainN rest (q + 1 + kids.size)).length + 1 : Nat) : Int) := by omega
        have hlt2 : (chainN rest (q + 1 + kids.size)).length < (chainN rest (q + 1 + kids.size)).length + 1 := by omega
        simp +contextual -dsimp -implicitDefEqProofs (maxSteps := 5000000) only [go_sem, reduceIte, reduceCtorEq, Nat.reduceEqDiff, Nat.reduceBEq, Nat.reduceAdd, Nat.reduceLeDiff, Nat.reduceMul, Nat.reduceLT, Int.reduceEq, Int.reduceLT, Int.reduceLE, t0, t2, t3, t8, t9, z, m1, m2, hq.1, hq.2, d1, d2, d3, d4, toI_len, toI_at, List.length_cons, hwl, hgl, hlt1, hlt2]
        refine (c_endOf P clp _ _ hmem).det ?_
        rw [hce]
        simp +contextual -dsimp -implicitDefEqProofs (maxSteps := 5000000) only [go_sem, reduceIte, reduceCtorEq, Nat.reduceEqDiff, Nat.reduceBEq, Nat.reduceAdd, Nat.reduceLeDiff, Nat.reduceMul, Nat.reduceLT, Int.reduceEq, Int.reduceLT, Int.reduceLE, t0, t2, t3, t8, t9, z, m1, m2, hq.1, hq.2, d1, d2, d3, d4]
        have hgo0 := goes_run ht kids (q + 1) none (d + 1) h s' n4 hs' (by omega) trivial
        have hgl0 := hgo0.len
        have hss := skipN_add rest (q + 1 + kids.size)
        have hsf := skipF_size rest
        refine (c_try ht ih cl2 (by omega) hgat n4 n5 hs' (by omega) (by omega) (by omega) hMin hp).mono ?_
        rintro _ H3 ⟨rfl, hM3⟩
        have hrun := runF_try (t := t) (a := a) (b := b) (kids := kids) (rest := rest) (i := q) (h := h) (s := s')
        simp only [runF_some] at hrun
        generalize runF t kids (q + 1) none h s' = r0 at hM3 hgo0 hgl0 hrun ⊢
        obtain ⟨c, hc1, hgo⟩ := goes_chain ht rest (q + 1 + kids.size) r0.1 r0.1 d h r0.2 n5 hgo0.ok (by omega) ⟨hgo0.val, hgo0.val⟩
        have hgl := hgo.len
        generalize chainR t rest (q + 1 + kids.size) r0.1 r0.1 h r0.2 = r at hM3 hgo hgl hrun ⊢
        obtain ⟨H4, rfl, hM4, w1, w2⟩ := mout _ _ hM3
        by_cases c0 : r.1.ed = 0
        · simp only [c0, if_true] at hrun
          simp +contextual -dsimp -implicitDefEqProofs (maxSteps := 5000000) only [go_sem, reduceIte, reduceCtorEq, Nat.reduceEqDiff, Nat.reduceBEq, Nat.reduceAdd, Nat.reduceLeDiff, Nat.reduceMul, Nat.reduceLT, Int.reduceEq, Int.reduceLT, Int.reduceLE, rEn, t0, t2, t3, t8, t9, z, m1, m2, hq.1, hq.2, d1, d2, d3, d4, c0, w2]
          exact adv _ (skipF rest) (skipN rest (q + 1 + kids.size)) r.2 H4 (by simp only [Fo.size]; omega) hsf hgat.rest.skip (numsF_skip rest n5) (by omega) hrun hgo.ok (by omega) (by omega) (by omega) w1 hM4
        · simp only [c0, if_false] at hrun
          simp +contextual -dsimp -implicitDefEqProofs (maxSteps := 5000000) only [go_sem, reduceIte, reduceCtorEq, Nat.reduceEqDiff, Nat.reduceBEq, Nat.reduceAdd, Nat.reduceLeDiff, Nat.reduceMul, Nat.reduceLT, Int.reduceEq, Int.reduceLT, Int.reduceLE, rEn, t0, t2, t3, t8, t9, z, m1, m2, hq.1, hq.2, d1, d2, d3, d4, c0]
          rw [he, hrun]
          refine retR_less (l := [.agg (rEn r.1)]) (H' := H4) ?_ (le_s1 (le_s1 (AHeap.le_refl _) w1) w2) ⟨rfl, hM4⟩
          simp only [resA, go_sem, reduceIte, reduceCtorEq, Nat.reduceEqDiff, Nat.reduceBEq, Nat.reduceAdd, Nat.reduceLeDiff, Nat.reduceMul, Nat.reduceLT, Int.reduceEq, Int.reduceLT, Int.reduceLE, rEn, d1, d2, t8]
      · have hgo := goes_lineR (h := h) (i := q) (body := fun s => runF t kids (q + 1) none h s) (n := cost kids) ht hs' n1 (by omega) (fun s2 hs2 hl2 => goes_run ht kids (q + 1) none (d + 1) h s2 n4 hs2 (by omega) trivial)
        have hgl := hgo.len
        have hrun := runF_line (t := t) (a := a) (b := b) (kids := kids) (rest := rest) (i := q) (h := h) (s := s') k7
        have hcn : cost (.node k a b kids rest) = 2 + (if k = 12 then a.toNat * cost kids else cost kids) + cost rest := rfl
        simp +contextual -dsimp -implicitDefEqProofs (maxSteps := 5000000) only [go_sem, reduceIte, reduceCtorEq, Nat.reduceEqDiff, Nat.reduceBEq, Nat.reduceAdd, Nat.reduceLeDiff, Nat.reduceMul, Nat.reduceLT, Int.reduceEq, Int.reduceLT, Int.reduceLE, t0, t2, t3, t8, t9, z, m1, m2, hq.1, hq.2, d1, d2, d3, d4, k7]
        refine (c_line ht ih (by omega) hgat n1 n4 hs' (by omega) (by omega) (by omega) hMin hp).mono ?_
        rintro _ H3 ⟨rfl, hM3⟩
        generalize lineR k a b q h (fun s => runF t kids (q + 1) none h s) s' = r at hM3 hgo hgl hrun ⊢
        obtain ⟨H4, rfl, hM4, w1, w2⟩ := mout _ _ hM3
        by_cases c0 : r.1.ed = 0
        · simp only [c0, if_true] at hrun
          simp +contextual -dsimp -implicitDefEqProofs (maxSteps := 5000000) only [go_sem, reduceIte, reduceCtorEq, Nat.reduceEqDiff, Nat.reduceBEq, Nat.reduceAdd, Nat.reduceLeDiff, Nat.reduceMul, Nat.reduceLT, Int.reduceEq, Int.reduceLT, Int.reduceLE, rEn, t0, t2, t3, t8, t9, z, m1, m2, hq.1, hq.2, d1, d2, d3, d4, c0, w2]
          exact adv _ rest (q + 1 + kids.size) r.2 H4 (by simp only [Fo.size]; omega) (Nat.le_refl _) hgat.rest n5 (by omega) hrun hgo.ok (by omega) (by omega) (by omega) w1 hM4
        · simp only [c0, if_false] at hrun
          simp +contextual -dsimp -implicitDefEqProofs (maxSteps := 5000000) only [go_sem, reduceIte, reduceCtorEq, Nat.reduceEqDiff, Nat.reduceBEq, Nat.reduceAdd, Nat.reduceLeDiff, Nat.reduceMul, Nat.reduceLT, Int.reduceEq, Int.reduceLT, Int.reduceLE, rEn, t0, t2, t3, t8, t9, z, m1, m2, hq.1, hq.2, d1, d2, d3, d4, c0]
          rw [he, hrun]
          refine retR_less (l := [.agg (rEn r.1)]) (H' := H4) ?_ (le_s1 (le_s1 (AHeap.le_refl _) w1) w2) ⟨rfl, hM4⟩
          simp only [resA, go_sem, reduceIte, reduceCtorEq, Nat.reduceEqDiff, Nat.reduceBEq, Nat.reduceAdd, Nat.reduceLeDiff, Nat.reduceMul, Nat.reduceLT, Int.reduceEq, Int.reduceLT, Int.reduceLE, rEn, d1, d2, t8]
theorem c_linesAll {t : List Class} {cl : Bool} {P : List Line} {clp : Bool} (ht : validT t = true) (hp : P.length ≤ 4398046511104) : ∀ n, LinesOk t cl P clp n
  | 0 => fun f i d h s F H bm hn => by omega
  | n + 1 => c_linesStep ht hp (c_linesAll ht hp n)
end
section
open Go Go.Sim
set_option maxRecDepth 100000
set_option maxHeartbeats 4000000

/-- The lines of a program, with their blocks. -/
noncomputable def forestP (p : List Line) : Fo := @dite _ (∃ f : Fo, p = f.flat 0) (Classical.propDecidable _) (fun h => h.choose) (fun _ => .nil)
theorem forestP_flat (f : Fo) : forestP (f.flat 0) = f := by
  have h : ∃ g : Fo, f.flat 0 = g.flat 0 := ⟨f, rfl⟩
  unfold forestP
  rw [dif_pos h]
  exact (flat_one h.choose_spec).symm
def rs0 : RS := ⟨[], [], -1⟩
noncomputable def runP (t : List Class) (p : List Line) : En × RS := runF t (forestP p) 0 none (-1) rs0
/-- The result of a run, as the program tells it. -/
def resOf (r : En × RS) : Res :=
  if r.1.ed = 2 then ⟨r.2.log, 2, idxF (fun x => decide (r.1.val = x)) (sortI (bfsF r.2.fs r.1.val)), isoL r.2.fs (sortI (bfsF r.2.fs r.1.val))⟩ else ⟨r.2.log, r.1.ed, r.1.val, []⟩
theorem validP_forest {t : List Class} {p : List Line} (h : ValidP t p) : validT t = true ∧ p = (forestP p).flat 0 ∧ numsF t (forestP p) 0 = true ∧ okF (forestP p) false false = true ∧ (forestP p).size = p.length ∧ (forestP p).size ≤ 24 := by
  obtain ⟨h1, h2, f, rfl, h3, h4⟩ := h
  rw [forestP_flat]
  rw [flat_len] at h2
  exact ⟨h1, rfl, h3, h4, (flat_len f 0).symm, h2⟩
theorem runP_goes {t : List Class} {p : List Line} (h : ValidP t p) : Goes t 34992 rs0 (runP t p).1 (runP t p).2 := by
  obtain ⟨h1, h2, h3, h4, h5, h6⟩ := validP_forest h
  exact (goes_run h1 (forestP p) 0 none 0 (-1) rs0 h3 (fsOk_nil t) (by show (-1 : Int) < 0; omega) trivial).le (cost_small h3 h6)
theorem c_mRunProgram (t : List Class) (cl : Bool) (p : List Line) (cl' : Bool) (H : AHeap) (hn : namesOk t) (hp : p.length ≤ 4398046511104) :
    ACalls Tryz.prog 10 [aTree t cl, aProg p cl'] H fun r H' => OwnRes H H' r (if validB t p = true then resOf (runP t p) else res0) := by
  refine acalls_of1 Tryz.func10 rfl (by kernel_rfl) rfl rfl (awp_sound (fz := fun _ => []) (im := fun s => s == 2) mixed _ _ _ _ (by kernel_rfl) ?_)
  simp +contextual -dsimp -implicitDefEqProofs (maxSteps := 5000000) only [go_sem, reduceIte, reduceCtorEq, Nat.reduceEqDiff, Nat.reduceBEq, Nat.reduceAdd, Nat.reduceLeDiff, Nat.reduceMul, Nat.reduceLT, Int.reduceEq, Int.reduceLT, Int.reduceLE]
  intro b4 hb4
  refine (c_ValidProgram t cl p cl' _ hn hp).det ?_
  cases hv : validB t p
  · simp +contextual -dsimp -implicitDefEqProofs (maxSteps := 5000000) only [go_sem, reduceIte, reduceCtorEq, Nat.reduceEqDiff, Nat.reduceBEq, Nat.reduceAdd, Nat.reduceLeDiff, Nat.reduceMul, Nat.reduceLT, Int.reduceEq, Int.reduceLT, Int.reduceLE]
    refine retR_less (l := [.agg [.vsl [] true, I 0, I 0, .vsl [] true]]) (H' := H) ?_ (le_set hb4) (own0 H)
    simp only [resA, go_sem, reduceIte, reduceCtorEq, Nat.reduceEqDiff, Nat.reduceBEq, Nat.reduceAdd, Nat.reduceLeDiff, Nat.reduceMul, Nat.reduceLT, Int.reduceEq, Int.reduceLT, Int.reduceLE]
  · have hval := validB_true.1 hv
    obtain ⟨h1, h2, h3, h4, h5, h6⟩ := validP_forest hval
    have hgo := runP_goes hval
    have hgl := hgo.len
    have hat := at_top h2
    have hcs := cost_small h3 h6
    have hlen : ((0 + (forestP p).size : Nat) : Int) = (p.length : Int) := by omega
    simp +contextual -dsimp -implicitDefEqProofs (maxSteps := 5000000) only [go_sem, reduceIte, reduceCtorEq, Nat.reduceEqDiff, Nat.reduceBEq, Nat.reduceAdd, Nat.reduceLeDiff, Nat.reduceMul, Nat.reduceLT, Int.reduceEq, Int.reduceLT, Int.reduceLE]
    refine (c_machineOf t cl _ (p.map rLine) cl').mono ?_
    rintro _ H1 ⟨bm, rfl, hM⟩
    simp +contextual -dsimp -implicitDefEqProofs (maxSteps := 5000000) only [go_sem, reduceIte, reduceCtorEq, Nat.reduceEqDiff, Nat.reduceBEq, Nat.reduceAdd, Nat.reduceLeDiff, Nat.reduceMul, Nat.reduceLT, Int.reduceEq, Int.reduceLT, Int.reduceLE]
    have key := c_linesAll (cl := cl) (P := p) (clp := cl') h1 hp ((forestP p).size + 1) (forestP p) 0 0 (-1) rs0 (H.set b4 ⟨4, 34, [[.vsl [] true, I 0, I 0, .vsl [] true]]⟩) H1 bm (by omega) hat h3 (fsOk_nil t) (by show (-1 : Int) < 0; omega) (by show 0 + _ ≤ _; omega) (by show 0 + _ ≤ _; omega) hM
    rw [hlen, show ((0 : Nat) : Int) = 0 from rfl] at key
    refine key.mono ?_
    rintro _ H2 ⟨rfl, hM2⟩
    have er : runF t (forestP p) 0 none (-1) rs0 = runP t p := rfl
    rw [er] at hM2 ⊢
    generalize runP t p = r at hM2 hgo hgl ⊢
    simp +contextual -dsimp -implicitDefEqProofs (maxSteps := 5000000) only [go_sem, reduceIte, reduceCtorEq, Nat.reduceEqDiff, Nat.reduceBEq, Nat.reduceAdd, Nat.reduceLeDiff, Nat.reduceMul, Nat.reduceLT, Int.reduceEq, Int.reduceLT, Int.reduceLE, rEn]
    refine (c_mresult _ H2 bm _ _ r.2.log r.2.fs r.2.first r.1.ed r.1.val hM2 hgo.ok.ho (by have : (rs0 : RS).fs.length = 0 := rfl; omega) hgo.val).mono ?_
    rintro x H3 hr
    have hr' : OwnRes (H.set b4 ⟨4, 34, [[.vsl [] true, I 0, I 0, .vsl [] true]]⟩) H3 x (resOf r) := by
      obtain ⟨xl, xh, G1, e1, e2, e3⟩ := hr
      refine ⟨xl, xh, G1, ?_, ?_, ?_⟩
      · rw [e1]; unfold resOf; split
        · rename_i q; rw [q]
        · rfl
      · unfold resOf; split <;> exact e2
      · unfold resOf; split
        · rename_i q; rw [if_pos q] at e3; exact e3
        · rename_i q; rw [if_neg q] at e3; exact e3
    obtain ⟨H4, rfl, hown, hn4⟩ := own_out hr' hb4
    obtain ⟨xl, xh, rfl, o1, o2⟩ := own_row hown
    simp +contextual -dsimp -implicitDefEqProofs (maxSteps := 5000000) only [go_sem, reduceIte, reduceCtorEq, Nat.reduceEqDiff, Nat.reduceBEq, Nat.reduceAdd, Nat.reduceLeDiff, Nat.reduceMul, Nat.reduceLT, Int.reduceEq, Int.reduceLT, Int.reduceLE, o1, o2]
    refine retR_less (l := [.agg [xl, I (resOf r).ed, I (resOf r).val, xh]]) (H' := H4) ?_ (le_set hn4) hown
    simp only [resA, go_sem, reduceIte, reduceCtorEq, Nat.reduceEqDiff, Nat.reduceBEq, Nat.reduceAdd, Nat.reduceLeDiff, Nat.reduceMul, Nat.reduceLT, Int.reduceEq, Int.reduceLT, Int.reduceLE]
end
section
open Go Go.Sim
set_option maxRecDepth 100000
set_option maxHeartbeats 4000000

theorem At.sub {p : List Line} {i : Nat} {d : Int} {f : Fo} (h : At p i d f) : (p.take (i + f.size)).drop i = f.flat d := by
  obtain ⟨pre, post, rfl, rfl, _⟩ := h
  have e1 : (pre ++ (f.flat d ++ post)).take (pre.length + f.size) = pre ++ f.flat d := by
    rw [← List.append_assoc, ← flat_len f d, ← List.length_append, List.take_left]
  rw [e1, List.drop_left]
theorem line_eq (x y : Line) : (decide (x.depth = y.depth) && (decide (x.kind = y.kind) && (decide (x.a = y.a) && decide (x.b = y.b)))) = decide (x = y) := by
  rw [Bool.eq_iff_iff]
  simp only [Bool.and_eq_true, decide_eq_true_eq]
  constructor
  · rintro ⟨h1, h2, h3, h4⟩
    cases x; cases y; simp_all
  · rintro rfl; simp
theorem c_equalLines (a b : List Line) (ca cb : Bool) (H : AHeap) : ACalls Tryz.prog 17 [aProg a ca, aProg b cb] H fun r H' => r = B (decide (a = b)) ∧ H' = H := by
  refine acalls_len (by kernel_rfl) (List.mem_cons_self ..) fun hl => ?_
  rw [List.length_map] at hl
  refine acalls_of0 Tryz.func17 rfl (by kernel_rfl) rfl rfl (awp_sound (fz := fun _ => []) (im := fun _ => false) mixed _ _ _ _ (by kernel_rfl) ?_)
  by_cases hab : a.length = b.length
  · simp +contextual -dsimp -implicitDefEqProofs (maxSteps := 5000000) only [go_sem, reduceIte, reduceCtorEq, Nat.reduceEqDiff, Nat.reduceBEq, Nat.reduceAdd, Nat.reduceLeDiff, Nat.reduceMul, Nat.reduceLT, Int.reduceEq, Int.reduceLT, Int.reduceLE, hab]
    refine aloop mixed (fz := fun _ => []) (im := fun _ => false) (by kernel_rfl) (fun m tm H' => ∃ k : Nat, m = a.length - k ∧ k ≤ a.length ∧ H' = H ∧ tm 0 = aProg a ca ∧ tm 1 = aProg b cb ∧ tm 5 = I k ∧ ∀ i, i < k → i < a.length → a.getD i default = b.getD i default) a.length ⟨0, by omega, by omega, rfl, ?_⟩ ?_
    · simp +contextual -dsimp -implicitDefEqProofs (maxSteps := 5000000) only [go_sem, reduceIte, reduceCtorEq, Nat.reduceEqDiff, Nat.reduceBEq, Nat.reduceAdd, Nat.reduceLeDiff, Nat.reduceMul, Nat.reduceLT, Int.reduceEq, Int.reduceLT, Int.reduceLE]
      exact fun i hi => by omega
    · rintro m tm H ⟨k, rfl, hk, rfl, h0, h1, h5, he⟩
      by_cases h : k < a.length
      · have h' : k < b.length := by omega
        simp +contextual -dsimp -implicitDefEqProofs (maxSteps := 5000000) only [go_sem, reduceIte, reduceCtorEq, Nat.reduceEqDiff, Nat.reduceBEq, Nat.reduceAdd, Nat.reduceLeDiff, Nat.reduceMul, Nat.reduceLT, Int.reduceEq, Int.reduceLT, Int.reduceLE, h0, h1, h5, h]
        refine draw_intro [0, 0, 0, 0, 0, 0, 0, 0, 0] AHeap.none (by kernel_rfl) none_le ?_
        simp +contextual -dsimp -implicitDefEqProofs (maxSteps := 5000000) only [go_sem, reduceIte, reduceCtorEq, Nat.reduceEqDiff, Nat.reduceBEq, Nat.reduceAdd, Nat.reduceLeDiff, Nat.reduceMul, Nat.reduceLT, Int.reduceEq, Int.reduceLT, Int.reduceLE, h0, h1, h5, h, h', line_eq]
        refine ⟨fun hb => ?_, fun hb => ⟨_, ?_, k + 1, rfl, h, I_wrap (by omega) (by omega) (by omega), ?_⟩⟩
        · rw [decide_eq_false (fun e => hb (by rw [e]))]
        · omega
        · intro i hi hi'
          rcases Nat.lt_or_ge i k with q | q
          · exact he i q hi'
          · have : i = k := by omega
            subst this; exact hb
      · simp +contextual -dsimp -implicitDefEqProofs (maxSteps := 5000000) only [go_sem, reduceIte, reduceCtorEq, Nat.reduceEqDiff, Nat.reduceBEq, Nat.reduceAdd, Nat.reduceLeDiff, Nat.reduceMul, Nat.reduceLT, Int.reduceEq, Int.reduceLT, Int.reduceLE, h0, h1, h5, h]
        rw [decide_eq_true (list_eq_of hab (Nat.le_of_not_lt h) he)]
  · have hab' : ¬ (a.length : Int) = b.length := by omega
    simp +contextual -dsimp -implicitDefEqProofs (maxSteps := 5000000) only [go_sem, reduceIte, reduceCtorEq, Nat.reduceEqDiff, Nat.reduceBEq, Nat.reduceAdd, Nat.reduceLeDiff, Nat.reduceMul, Nat.reduceLT, Int.reduceEq, Int.reduceLT, Int.reduceLE, hab']
    rw [decide_eq_false (fun e => hab (by rw [e]))]
theorem app_lines {H0 H : AHeap} {x : AV} {out m : List Line} {es : List (List AV)} {cl : Bool} {K : AV → AHeap → Prop} {g : Tag (H, K)} (hg : Grow rLine 4 50 H0 H x out) (hb : out.length + m.length ≤ 1000000) (he : es = m.map rLine) (k : ∀ x' H', Grow rLine 4 50 H0 H' x' (out ++ m) → K x' H') : appT Tryz.prog H 26 x (.vsl es cl) K g :=
  grow_append (m := m) te26 ti50 rLine_len (by decide) hg (by show (out.length + m.length) * 32 ≤ _; omega) (by omega) he fun x' H'' hg' => k x' H'' hg'
end
section
open Go Go.Sim
set_option maxRecDepth 100000
set_option maxHeartbeats 4000000

/-- A function that draws lines into a block of their own. -/
def Drawn (f : FuncId) (p : Nat) (d : Int) : Prop := ∀ (F : AHeap) (br n : Nat) (K : ABlk) (t : List Class) (cl : Bool) (lp : Bool), RdK n K → F br = none → n + p < 600000000 →
  ACalls Tryz.prog f [.ptr br 2 0 0, aTree t cl, I d, B lp] (F.set br K) fun r H' => ∃ (l : List Line) (G : AHeap) (K' : ABlk), Grow rLine 4 50 F G r l ∧ G br = none ∧ H' = G.set br K' ∧ RdK (n + p) K' ∧ 1 ≤ l.length ∧ l.length ≤ p
/-- The same, told when nobody writes them any more. -/
def DrawnF (f : FuncId) (p : Nat) (d : Int) : Prop := ∀ (F : AHeap) (br n : Nat) (K : ABlk) (t : List Class) (cl : Bool) (lp : Bool), RdK n K → F br = none → n + p < 600000000 →
  ACalls Tryz.prog f [.ptr br 2 0 0, aTree t cl, I d, B lp] (F.set br K) fun r H' => ∃ (l : List Line) (cl' : Bool) (K' : ABlk), r = .vsl (l.map rLine) cl' ∧ H' = F.set br K' ∧ RdK (n + p) K' ∧ 1 ≤ l.length ∧ l.length ≤ p
theorem Drawn.frz {f : FuncId} {p : Nat} {d : Int} (h : Drawn f p d) : DrawnF f p d := by
  intro F br n K t cl lp hK hF hn
  refine acalls_fz (h F br n K t cl lp hK hF hn) ?_
  rintro x _ ⟨l, G, K', hg, hr, rfl, hK', h1, h2⟩
  have hg' := grow_in (K := K') hg hr
  obtain ⟨cl', hz⟩ := grow_fz hg'
  exact ⟨_, F.set br K', grow_le hg', hz, l, cl', K', rfl, rfl, hK', h1, h2⟩
/-- Lines put behind a line that stands alone. -/
theorem app_lit {H : AHeap} {y : Line} {l : List Line} {cl : Bool} {d : AV} {K : AV → AHeap → Prop} {g : Tag (H, K)} (hd : d = .vsl [rLine y] true) (hl : 1 ≤ l.length) (hb : l.length ≤ 1000000) (k : ∀ x' H', Grow rLine 4 50 H H' x' (y :: l) → K x' H') : appT Tryz.prog H 26 d (.vsl (l.map rLine) cl) K g := by
  subst hd
  show appendA Tryz.prog H 26 (.vsl [rLine y] true) (.vsl (l.map rLine) cl) K
  have hmax : maxLen = 9223372036854775807 := rfl
  unfold appendA
  simp only [te26, ti50, rowsOf]
  refine ⟨by decide, fun r hr => by simp at hr; obtain ⟨y, _, rfl⟩ := hr; rfl, fun r hr => by simp at hr; subst hr; rfl, by simp; omega, by simp; omega, fun e => ?_, fun e => ⟨trivial, fun b' hb' => ?_⟩⟩
  · have : l = [] := by simpa using e
    rw [this] at hl; simp at hl
  · refine k _ _ (.inr ⟨b', false, hb', by simp [Nat.add_comm], by simp⟩)
theorem c_aBlock {d : Int} {p : Nat} (hp : p ≤ 300000) (hS : DrawnF 148 p d) : Drawn 117 (1 + 3 * p) d := by
  intro F br n K t cl lp hK hF hn
  refine acalls_of1 Tryz.func117 rfl (by kernel_rfl) rfl rfl (awp_sound (fz := fun _ => []) (im := fun s => s == 5 || s == 11 || s == 13) mixed _ _ _ _ (by kernel_rfl) ?_)
  simp +contextual -dsimp -implicitDefEqProofs (maxSteps := 5000000) only [go_sem, reduceIte, reduceCtorEq, Nat.reduceEqDiff, Nat.reduceBEq, Nat.reduceAdd, Nat.reduceLeDiff, Nat.reduceMul, Nat.reduceLT, Int.reduceEq, Int.reduceLT, Int.reduceLE]
  refine k_one [1, 2, 1, 2, 3] _ hK hF (by omega) (by simp) rfl rfl fun v K1 hv hK1 => ?_
  have hv3 : 1 ≤ v ∧ v ≤ 3 := by simp at hv; omega
  simp +contextual -dsimp -implicitDefEqProofs (maxSteps := 5000000) only [go_sem, reduceIte, reduceCtorEq, Nat.reduceEqDiff, Nat.reduceBEq, Nat.reduceAdd, Nat.reduceLeDiff, Nat.reduceMul, Nat.reduceLT, Int.reduceEq, Int.reduceLT, Int.reduceLE]
  refine aloop mixed (fz := fun _ => []) (im := fun s => s == 5 || s == 11 || s == 13) (by kernel_rfl) (fun m tm H' => ∃ (l : List Line) (G : AHeap) (x : AV) (K : ABlk) (i : Nat), m = (v - i).toNat ∧ i ≤ v ∧ Grow rLine 4 50 F G x l ∧ G br = none ∧ RdK (n + 1 + i * p) K ∧ i ≤ l.length ∧ l.length ≤ i * p ∧ H' = G.set br K ∧ tm 0 = .ptr br 2 0 0 ∧ tm 5 = .vptr [[.vsl (t.map rClass) cl]] 0 0 ∧ tm 2 = I d ∧ tm 3 = B lp ∧ tm 9 = x ∧ tm 10 = I (v - i)) v.toNat ⟨[], F, .vsl [] true, K1, 0, by simp, by omega, grow_nil, hF, by simpa using hK1, by simp, by simp, rfl, ?_⟩ ?_
  · simp +contextual -dsimp -implicitDefEqProofs (maxSteps := 5000000) only [go_sem, reduceIte, reduceCtorEq, Nat.reduceEqDiff, Nat.reduceBEq, Nat.reduceAdd, Nat.reduceLeDiff, Nat.reduceMul, Nat.reduceLT, Int.reduceEq, Int.reduceLT, Int.reduceLE]
    simp
  · rintro m tm H' ⟨l, G, x, K, i, rfl, hiv, hg, fr, hK, hl1, hl2, rfl, t0, t5, t2, t3, t9, t10⟩
    have hm3 : i * p ≤ 3 * p := Nat.mul_le_mul_right p (by omega)
    have hs : (i + 1) * p = i * p + p := Nat.succ_mul i p
    by_cases hlt : (0 : Int) < v - i
    · simp +contextual -dsimp -implicitDefEqProofs (maxSteps := 5000000) only [go_sem, reduceIte, reduceCtorEq, Nat.reduceEqDiff, Nat.reduceBEq, Nat.reduceAdd, Nat.reduceLeDiff, Nat.reduceMul, Nat.reduceLT, Int.reduceEq, Int.reduceLT, Int.reduceLE, t0, t2, t3, t5, t9, t10, hlt]
      have hm4 : (i + 1) * p ≤ 3 * p := Nat.mul_le_mul_right p (by omega)
      refine (hS G br _ K t cl lp hK fr (by omega)).mono ?_
      rintro _ H' ⟨l2, cl2, K2, rfl, rfl, hK2, h1, h2⟩
      simp +contextual -dsimp -implicitDefEqProofs (maxSteps := 5000000) only [go_sem, reduceIte, reduceCtorEq, Nat.reduceEqDiff, Nat.reduceBEq, Nat.reduceAdd, Nat.reduceLeDiff, Nat.reduceMul, Nat.reduceLT, Int.reduceEq, Int.reduceLT, Int.reduceLE, t0, t2, t3, t5, t9, t10, hlt]
      refine app_lines (m := l2) (grow_in hg fr) (by omega) rfl fun x' H' hg' => ?_
      obtain ⟨G1, hg1, rfl, u1⟩ := grow_out hg' (grow_none hg fr)
      simp +contextual -dsimp -implicitDefEqProofs (maxSteps := 5000000) only [go_sem, reduceIte, reduceCtorEq, Nat.reduceEqDiff, Nat.reduceBEq, Nat.reduceAdd, Nat.reduceLeDiff, Nat.reduceMul, Nat.reduceLT, Int.reduceEq, Int.reduceLT, Int.reduceLE, t0, t2, t3, t5, t9, t10, hlt]
      exact ⟨_, by omega, l ++ l2, G1, x', K2, i + 1, rfl, by omega, hg1, u1, rdk_mono hK2 (by omega), by simp; omega, by simp; omega, rfl, rfl, I_wrap (by omega) (by omega) (by omega)⟩
    · simp +contextual -dsimp -implicitDefEqProofs (maxSteps := 5000000) only [go_sem, reduceIte, reduceCtorEq, Nat.reduceEqDiff, Nat.reduceBEq, Nat.reduceAdd, Nat.reduceLeDiff, Nat.reduceMul, Nat.reduceLT, Int.reduceEq, Int.reduceLT, Int.reduceLE, t0, t2, t3, t5, t9, t10, hlt]
      have hi1 : 1 ≤ i := by omega
      refine retR_less (l := [x]) (H' := G.set br K) ?_ (AHeap.le_refl _) ⟨l, G, K, hg, fr, rfl, rdk_mono hK (by omega), by omega, by omega⟩
      simp only [resA, go_sem, reduceIte, reduceCtorEq, Nat.reduceEqDiff, Nat.reduceBEq, Nat.reduceAdd, Nat.reduceLeDiff, Nat.reduceMul, Nat.reduceLT, Int.reduceEq, Int.reduceLT, Int.reduceLE]
theorem c_aTry {d : Int} {p : Nat} (hd : 0 ≤ d ∧ d ≤ 10) (hp : p ≤ 100000) (hB : DrawnF 117 p (d + 1)) : Drawn 116 (10 + 5 * p) d := by
  intro F br n K t cl lp hK hF hn
  have hwd : IntKind.i64.wrap (d + 1) = d + 1 := w64 (by omega) (by omega)
  refine acalls_of1 Tryz.func116 rfl (by kernel_rfl) rfl rfl (awp_sound (fz := fun _ => []) (im := fun s => s == 5 || s == 14 || s == 23 || s == 38 || s == 41 || s == 61 || s == 81) mixed _ _ _ _ (by kernel_rfl) ?_)
  simp +contextual -dsimp -implicitDefEqProofs (maxSteps := 5000000) only [go_sem, reduceIte, reduceCtorEq, Nat.reduceEqDiff, Nat.reduceBEq, Nat.reduceAdd, Nat.reduceLeDiff, Nat.reduceMul, Nat.reduceLT, Int.reduceEq, Int.reduceLT, Int.reduceLE, hwd]
  refine (hB F br _ K t cl lp hK hF (by omega)).mono ?_
  rintro _ H' ⟨l0, cl0, K0, rfl, rfl, hK0, h1, h2⟩
  simp +contextual -dsimp -implicitDefEqProofs (maxSteps := 5000000) only [go_sem, reduceIte, reduceCtorEq, Nat.reduceEqDiff, Nat.reduceBEq, Nat.reduceAdd, Nat.reduceLeDiff, Nat.reduceMul, Nat.reduceLT, Int.reduceEq, Int.reduceLT, Int.reduceLE]
  refine app_lit (y := ⟨d, 7, 0, 0⟩) rfl h1 (by omega) fun x H' hg => ?_
  obtain ⟨G, hg0, rfl, u0⟩ := grow_out hg hF
  simp +contextual -dsimp -implicitDefEqProofs (maxSteps := 5000000) only [go_sem, reduceIte, reduceCtorEq, Nat.reduceEqDiff, Nat.reduceBEq, Nat.reduceAdd, Nat.reduceLeDiff, Nat.reduceMul, Nat.reduceLT, Int.reduceEq, Int.reduceLT, Int.reduceLE]
  refine k_one [1, 2, 0, 1] _ hK0 u0 (by omega) (by simp) rfl rfl fun v K1 hv hK1 => ?_
  have hv2 : 0 ≤ v ∧ v ≤ 2 := by simp at hv; omega
  simp +contextual -dsimp -implicitDefEqProofs (maxSteps := 5000000) only [go_sem, reduceIte, reduceCtorEq, Nat.reduceEqDiff, Nat.reduceBEq, Nat.reduceAdd, Nat.reduceLeDiff, Nat.reduceMul, Nat.reduceLT, Int.reduceEq, Int.reduceLT, Int.reduceLE]
  refine aloop mixed (fz := fun _ => []) (im := fun s => s == 5 || s == 14 || s == 23 || s == 38 || s == 41 || s == 61 || s == 81) (by kernel_rfl) (fun m tm H' => ∃ (l : List Line) (G : AHeap) (x : AV) (K : ABlk) (i : Nat), m = (v - i).toNat ∧ i ≤ v ∧ Grow rLine 4 50 F G x l ∧ G br = none ∧ RdK (n + p + 1 + i * (p + 2)) K ∧ 1 ≤ l.length ∧ l.length ≤ 1 + p + i * (p + 2) ∧ H' = G.set br K ∧ tm 0 = .ptr br 2 0 0 ∧ tm 5 = .vptr [[.vsl (t.map rClass) cl]] 0 0 ∧ tm 2 = I d ∧ tm 3 = B lp ∧ tm 9 = x ∧ tm 10 = I v ∧ tm 11 = I (v - i)) v.toNat ⟨_, G, x, K1, 0, by simp, by omega, hg0, u0, by simpa using hK1, by simp, by simp; omega, rfl, ?_⟩ ?_
  · simp +contextual -dsimp -implicitDefEqProofs (maxSteps := 5000000) only [go_sem, reduceIte, reduceCtorEq, Nat.reduceEqDiff, Nat.reduceBEq, Nat.reduceAdd, Nat.reduceLeDiff, Nat.reduceMul, Nat.reduceLT, Int.reduceEq, Int.reduceLT, Int.reduceLE]
    simp
  · rintro m tm H' ⟨l, G, x, K, i, rfl, hiv, hg, fr, hK, hl1, hl2, rfl, t0, t5, t2, t3, t9, t10, t11⟩
    have hi2 : i * (p + 2) ≤ 2 * (p + 2) := Nat.mul_le_mul_right (p + 2) (by omega)
    have hs : (i + 1) * (p + 2) = i * (p + 2) + (p + 2) := Nat.succ_mul i (p + 2)
    by_cases hlt : (0 : Int) < v - i
    · have hi3 : (i + 1) * (p + 2) ≤ 2 * (p + 2) := Nat.mul_le_mul_right (p + 2) (by omega)
      simp +contextual -dsimp -implicitDefEqProofs (maxSteps := 5000000) only [go_sem, reduceIte, reduceCtorEq, Nat.reduceEqDiff, Nat.reduceBEq, Nat.reduceAdd, Nat.reduceLeDiff, Nat.reduceMul, Nat.reduceLT, Int.reduceEq, Int.reduceLT, Int.reduceLE, t0, t2, t3, t5, t9, t10, t11, hlt, hwd]
      refine k_pick t.length hK fr (by omega) rfl fun a K2 _ _ _ hK2 => ?_
      simp +contextual -dsimp -implicitDefEqProofs (maxSteps := 5000000) only [go_sem, reduceIte, reduceCtorEq, Nat.reduceEqDiff, Nat.reduceBEq, Nat.reduceAdd, Nat.reduceLeDiff, Nat.reduceMul, Nat.reduceLT, Int.reduceEq, Int.reduceLT, Int.reduceLE, t0, t2, t3, t5, t9, t10, t11, hlt, hwd]
      refine k_one [a, 0] _ hK2 fr (by omega) (by simp) rfl rfl fun a K3 _ hK3 => ?_
      simp +contextual -dsimp -implicitDefEqProofs (maxSteps := 5000000) only [go_sem, reduceIte, reduceCtorEq, Nat.reduceEqDiff, Nat.reduceBEq, Nat.reduceAdd, Nat.reduceLeDiff, Nat.reduceMul, Nat.reduceLT, Int.reduceEq, Int.reduceLT, Int.reduceLE, t0, t2, t3, t5, t9, t10, t11, hlt, hwd]
      refine app_lines (m := [⟨d, 8, a, 0⟩]) (grow_in hg fr) (by simp; omega) rfl fun x' H' hg' => ?_
      obtain ⟨G1, hg1, rfl, u1⟩ := grow_out hg' (grow_none hg fr)
      simp +contextual -dsimp -implicitDefEqProofs (maxSteps := 5000000) only [go_sem, reduceIte, reduceCtorEq, Nat.reduceEqDiff, Nat.reduceBEq, Nat.reduceAdd, Nat.reduceLeDiff, Nat.reduceMul, Nat.reduceLT, Int.reduceEq, Int.reduceLT, Int.reduceLE, t0, t2, t3, t5, t9, t10, t11, hlt, hwd]
      refine (hB G1 br _ K3 t cl lp hK3 u1 (by omega)).mono ?_
      rintro _ H' ⟨l2, cl2, K4, rfl, rfl, hK4, h3, h4⟩
      simp +contextual -dsimp -implicitDefEqProofs (maxSteps := 5000000) only [go_sem, reduceIte, reduceCtorEq, Nat.reduceEqDiff, Nat.reduceBEq, Nat.reduceAdd, Nat.reduceLeDiff, Nat.reduceMul, Nat.reduceLT, Int.reduceEq, Int.reduceLT, Int.reduceLE, t0, t2, t3, t5, t9, t10, t11, hlt, hwd]
      refine app_lines (m := l2) (grow_in hg1 u1) (by simp; omega) rfl fun x' H' hg' => ?_
      obtain ⟨G2, hg2, rfl, u2⟩ := grow_out hg' (grow_none hg1 u1)
      simp +contextual -dsimp -implicitDefEqProofs (maxSteps := 5000000) only [go_sem, reduceIte, reduceCtorEq, Nat.reduceEqDiff, Nat.reduceBEq, Nat.reduceAdd, Nat.reduceLeDiff, Nat.reduceMul, Nat.reduceLT, Int.reduceEq, Int.reduceLT, Int.reduceLE, t0, t2, t3, t5, t9, t10, t11, hlt, hwd]
      exact ⟨_, by omega, _, G2, x', K4, i + 1, rfl, by omega, hg2, u2, rdk_mono hK4 (by omega), by simp; omega, by simp; omega, rfl, rfl, I_wrap (by omega) (by omega) (by omega)⟩
    · simp +contextual -dsimp -implicitDefEqProofs (maxSteps := 5000000) only [go_sem, reduceIte, reduceCtorEq, Nat.reduceEqDiff, Nat.reduceBEq, Nat.reduceAdd, Nat.reduceLeDiff, Nat.reduceMul, Nat.reduceLT, Int.reduceEq, Int.reduceLT, Int.reduceLE, t0, t2, t3, t5, t9, t10, t11, hlt, hwd]
      refine ⟨fun v1 => ?_, fun v1 => ⟨fun v0 => absurd v1 (by omega), fun v0 => ?_⟩⟩
      · have v0 : ¬ v = 0 := by omega
        refine k_pick 3 hK fr (by omega) rfl fun a K2 _ _ _ hK2 => ?_
        simp +contextual -dsimp -implicitDefEqProofs (maxSteps := 5000000) only [go_sem, reduceIte, reduceCtorEq, Nat.reduceEqDiff, Nat.reduceBEq, Nat.reduceAdd, Nat.reduceLeDiff, Nat.reduceMul, Nat.reduceLT, Int.reduceEq, Int.reduceLT, Int.reduceLE, t0, t2, t3, t5, t9, t10, t11, hlt, hwd, v0, v1]
        refine ⟨fun _ => ?_, fun _ => ?_⟩
        · refine app_lines (m := [⟨d, 9, 0, 0⟩]) (grow_in hg fr) (by simp; omega) rfl fun x' H' hg' => ?_
          obtain ⟨G1, hg1, rfl, u1⟩ := grow_out hg' (grow_none hg fr)
          simp +contextual -dsimp -implicitDefEqProofs (maxSteps := 5000000) only [go_sem, reduceIte, reduceCtorEq, Nat.reduceEqDiff, Nat.reduceBEq, Nat.reduceAdd, Nat.reduceLeDiff, Nat.reduceMul, Nat.reduceLT, Int.reduceEq, Int.reduceLT, Int.reduceLE, t0, t2, t3, t5, t9, t10, t11, hlt, hwd, v0, v1]
          refine (hB G1 br _ _ t cl lp hK2 u1 (by omega)).mono ?_
          rintro _ H' ⟨l2, cl2, K4, rfl, rfl, hK4, h3, h4⟩
          simp +contextual -dsimp -implicitDefEqProofs (maxSteps := 5000000) only [go_sem, reduceIte, reduceCtorEq, Nat.reduceEqDiff, Nat.reduceBEq, Nat.reduceAdd, Nat.reduceLeDiff, Nat.reduceMul, Nat.reduceLT, Int.reduceEq, Int.reduceLT, Int.reduceLE, t0, t2, t3, t5, t9, t10, t11, hlt, hwd, v0, v1]
          refine app_lines (m := l2) (grow_in hg1 u1) (by simp; omega) rfl fun x2 H' hg' => ?_
          obtain ⟨G2, hg2, rfl, u2⟩ := grow_out hg' (grow_none hg1 u1)
          simp +contextual -dsimp -implicitDefEqProofs (maxSteps := 5000000) only [go_sem, reduceIte, reduceCtorEq, Nat.reduceEqDiff, Nat.reduceBEq, Nat.reduceAdd, Nat.reduceLeDiff, Nat.reduceMul, Nat.reduceLT, Int.reduceEq, Int.reduceLT, Int.reduceLE, t0, t2, t3, t5, t9, t10, t11, hlt, hwd, v0, v1]
          refine k_pick 2 hK4 u2 (by omega) rfl fun b K7 _ _ _ hK7 => ?_
          simp +contextual -dsimp -implicitDefEqProofs (maxSteps := 5000000) only [go_sem, reduceIte, reduceCtorEq, Nat.reduceEqDiff, Nat.reduceBEq, Nat.reduceAdd, Nat.reduceLeDiff, Nat.reduceMul, Nat.reduceLT, Int.reduceEq, Int.reduceLT, Int.reduceLE, t0, t2, t3, t5, t9, t10, t11, hlt, hwd, v0, v1]
          refine ⟨fun _ => ?_, fun _ => ?_⟩
          · skip
            refine app_lines (m := [⟨d, 10, 0, 0⟩]) (grow_in hg2 u2) (by simp; omega) rfl fun x' H' hg' => ?_
            obtain ⟨G8, hg8, rfl, u8⟩ := grow_out hg' (grow_none hg2 u2)
            simp +contextual -dsimp -implicitDefEqProofs (maxSteps := 5000000) only [go_sem, reduceIte, reduceCtorEq, Nat.reduceEqDiff, Nat.reduceBEq, Nat.reduceAdd, Nat.reduceLeDiff, Nat.reduceMul, Nat.reduceLT, Int.reduceEq, Int.reduceLT, Int.reduceLE, t0, t2, t3, t5, t9, t10, t11, hlt, hwd, v0, v1]
            refine (hB G8 br _ _ t cl lp hK7 u8 (by omega)).mono ?_
            rintro _ H' ⟨l8, cl8, K8, rfl, rfl, hK8, h8, h9⟩
            simp +contextual -dsimp -implicitDefEqProofs (maxSteps := 5000000) only [go_sem, reduceIte, reduceCtorEq, Nat.reduceEqDiff, Nat.reduceBEq, Nat.reduceAdd, Nat.reduceLeDiff, Nat.reduceMul, Nat.reduceLT, Int.reduceEq, Int.reduceLT, Int.reduceLE, t0, t2, t3, t5, t9, t10, t11, hlt, hwd, v0, v1]
            refine app_lines (m := l8) (grow_in hg8 u8) (by simp; omega) rfl fun x' H' hg' => ?_
            obtain ⟨G9, hg9, rfl, u9⟩ := grow_out hg' (grow_none hg8 u8)
            simp +contextual -dsimp -implicitDefEqProofs (maxSteps := 5000000) only [go_sem, reduceIte, reduceCtorEq, Nat.reduceEqDiff, Nat.reduceBEq, Nat.reduceAdd, Nat.reduceLeDiff, Nat.reduceMul, Nat.reduceLT, Int.reduceEq, Int.reduceLT, Int.reduceLE, t0, t2, t3, t5, t9, t10, t11, hlt, hwd, v0, v1]
            refine retR_less (l := [x']) (H' := G9.set br K8) ?_ (AHeap.le_refl _) ⟨_, G9, K8, hg9, u9, rfl, rdk_mono hK8 (by omega), by first | omega | (simp; omega), by first | omega | (simp; omega)⟩
            simp only [resA, go_sem, reduceIte, reduceCtorEq, Nat.reduceEqDiff, Nat.reduceBEq, Nat.reduceAdd, Nat.reduceLeDiff, Nat.reduceMul, Nat.reduceLT, Int.reduceEq, Int.reduceLT, Int.reduceLE]
          · refine retR_less (l := [x2]) (H' := AHeap.set _ br K7) ?_ (AHeap.le_refl _) ⟨_, _, K7, hg2, u2, rfl, rdk_mono hK7 (by omega), by first | omega | (simp; omega), by first | omega | (simp; omega)⟩
            simp only [resA, go_sem, reduceIte, reduceCtorEq, Nat.reduceEqDiff, Nat.reduceBEq, Nat.reduceAdd, Nat.reduceLeDiff, Nat.reduceMul, Nat.reduceLT, Int.reduceEq, Int.reduceLT, Int.reduceLE, t9]
        · skip
          refine k_pick 2 hK2 fr (by omega) rfl fun b K7 _ _ _ hK7 => ?_
          simp +contextual -dsimp -implicitDefEqProofs (maxSteps := 5000000) only [go_sem, reduceIte, reduceCtorEq, Nat.reduceEqDiff, Nat.reduceBEq, Nat.reduceAdd, Nat.reduceLeDiff, Nat.reduceMul, Nat.reduceLT, Int.reduceEq, Int.reduceLT, Int.reduceLE, t0, t2, t3, t5, t9, t10, t11, hlt, hwd, v0, v1]
          refine ⟨fun _ => ?_, fun _ => ?_⟩
          · skip
            refine app_lines (m := [⟨d, 10, 0, 0⟩]) (grow_in hg fr) (by simp; omega) rfl fun x' H' hg' => ?_
            obtain ⟨G8, hg8, rfl, u8⟩ := grow_out hg' (grow_none hg fr)
            simp +contextual -dsimp -implicitDefEqProofs (maxSteps := 5000000) only [go_sem, reduceIte, reduceCtorEq, Nat.reduceEqDiff, Nat.reduceBEq, Nat.reduceAdd, Nat.reduceLeDiff, Nat.reduceMul, Nat.reduceLT, Int.reduceEq, Int.reduceLT, Int.reduceLE, t0, t2, t3, t5, t9, t10, t11, hlt, hwd, v0, v1]
            refine (hB G8 br _ _ t cl lp hK7 u8 (by omega)).mono ?_
            rintro _ H' ⟨l8, cl8, K8, rfl, rfl, hK8, h8, h9⟩
            simp +contextual -dsimp -implicitDefEqProofs (maxSteps := 5000000) only [go_sem, reduceIte, reduceCtorEq, Nat.reduceEqDiff, Nat.reduceBEq, Nat.reduceAdd, Nat.reduceLeDiff, Nat.reduceMul, Nat.reduceLT, Int.reduceEq, Int.reduceLT, Int.reduceLE, t0, t2, t3, t5, t9, t10, t11, hlt, hwd, v0, v1]
            refine app_lines (m := l8) (grow_in hg8 u8) (by simp; omega) rfl fun x' H' hg' => ?_
            obtain ⟨G9, hg9, rfl, u9⟩ := grow_out hg' (grow_none hg8 u8)
            simp +contextual -dsimp -implicitDefEqProofs (maxSteps := 5000000) only [go_sem, reduceIte, reduceCtorEq, Nat.reduceEqDiff, Nat.reduceBEq, Nat.reduceAdd, Nat.reduceLeDiff, Nat.reduceMul, Nat.reduceLT, Int.reduceEq, Int.reduceLT, Int.reduceLE, t0, t2, t3, t5, t9, t10, t11, hlt, hwd, v0, v1]
            refine retR_less (l := [x']) (H' := G9.set br K8) ?_ (AHeap.le_refl _) ⟨_, G9, K8, hg9, u9, rfl, rdk_mono hK8 (by omega), by first | omega | (simp; omega), by first | omega | (simp; omega)⟩
            simp only [resA, go_sem, reduceIte, reduceCtorEq, Nat.reduceEqDiff, Nat.reduceBEq, Nat.reduceAdd, Nat.reduceLeDiff, Nat.reduceMul, Nat.reduceLT, Int.reduceEq, Int.reduceLT, Int.reduceLE]
          · refine retR_less (l := [x]) (H' := AHeap.set _ br K7) ?_ (AHeap.le_refl _) ⟨_, _, K7, hg, fr, rfl, rdk_mono hK7 (by omega), by first | omega | (simp; omega), by first | omega | (simp; omega)⟩
            simp only [resA, go_sem, reduceIte, reduceCtorEq, Nat.reduceEqDiff, Nat.reduceBEq, Nat.reduceAdd, Nat.reduceLeDiff, Nat.reduceMul, Nat.reduceLT, Int.reduceEq, Int.reduceLT, Int.reduceLE, t9]
      · skip
        refine app_lines (m := [⟨d, 10, 0, 0⟩]) (grow_in hg fr) (by simp; omega) rfl fun x' H' hg' => ?_
        obtain ⟨G8, hg8, rfl, u8⟩ := grow_out hg' (grow_none hg fr)
        simp +contextual -dsimp -implicitDefEqProofs (maxSteps := 5000000) only [go_sem, reduceIte, reduceCtorEq, Nat.reduceEqDiff, Nat.reduceBEq, Nat.reduceAdd, Nat.reduceLeDiff, Nat.reduceMul, Nat.reduceLT, Int.reduceEq, Int.reduceLT, Int.reduceLE, t0, t2, t3, t5, t9, t10, t11, hlt, hwd, v0, v1]
        refine (hB G8 br _ _ t cl lp hK u8 (by omega)).mono ?_
        rintro _ H' ⟨l8, cl8, K8, rfl, rfl, hK8, h8, h9⟩
        simp +contextual -dsimp -implicitDefEqProofs (maxSteps := 5000000) only [go_sem, reduceIte, reduceCtorEq, Nat.reduceEqDiff, Nat.reduceBEq, Nat.reduceAdd, Nat.reduceLeDiff, Nat.reduceMul, Nat.reduceLT, Int.reduceEq, Int.reduceLT, Int.reduceLE, t0, t2, t3, t5, t9, t10, t11, hlt, hwd, v0, v1]
        refine app_lines (m := l8) (grow_in hg8 u8) (by simp; omega) rfl fun x' H' hg' => ?_
        obtain ⟨G9, hg9, rfl, u9⟩ := grow_out hg' (grow_none hg8 u8)
        simp +contextual -dsimp -implicitDefEqProofs (maxSteps := 5000000) only [go_sem, reduceIte, reduceCtorEq, Nat.reduceEqDiff, Nat.reduceBEq, Nat.reduceAdd, Nat.reduceLeDiff, Nat.reduceMul, Nat.reduceLT, Int.reduceEq, Int.reduceLT, Int.reduceLE, t0, t2, t3, t5, t9, t10, t11, hlt, hwd, v0, v1]
        refine retR_less (l := [x']) (H' := G9.set br K8) ?_ (AHeap.le_refl _) ⟨_, G9, K8, hg9, u9, rfl, rdk_mono hK8 (by omega), by first | omega | (simp; omega), by first | omega | (simp; omega)⟩
        simp only [resA, go_sem, reduceIte, reduceCtorEq, Nat.reduceEqDiff, Nat.reduceBEq, Nat.reduceAdd, Nat.reduceLeDiff, Nat.reduceMul, Nat.reduceLT, Int.reduceEq, Int.reduceLT, Int.reduceLE]
end
section
open Go Go.Sim
set_option maxRecDepth 100000
set_option maxHeartbeats 4000000

theorem c_aStatement {d : Int} {p p1 p2 : Nat} (hd : 0 ≤ d ∧ d ≤ 3) (h6 : 6 ≤ p) (hp1 : p1 + 6 ≤ p) (hp2 : p2 + 6 ≤ p) (hp : p ≤ 300000) (hB : d < 3 → DrawnF 117 p1 (d + 1)) (hT : d < 3 → DrawnF 116 p2 d) : DrawnF 148 p d := by
  intro F br n K t cl lp hK hF hn
  have hwd : IntKind.i64.wrap (d + 1) = d + 1 := w64 (by omega) (by omega)
  refine acalls_of1 Tryz.func148 rfl (by kernel_rfl) rfl rfl (awp_sound (fz := fun _ => []) (im := fun s => s == 5 || s == 29 || s == 43 || s == 57 || s == 65 || s == 96 || s == 108) mixed _ _ _ _ (by kernel_rfl) ?_)
  simp +contextual -dsimp -implicitDefEqProofs (maxSteps := 5000000) only [go_sem, reduceIte, reduceCtorEq, Nat.reduceEqDiff, Nat.reduceBEq, Nat.reduceAdd, Nat.reduceLeDiff, Nat.reduceMul, Nat.reduceLT, Int.reduceEq, Int.reduceLT, Int.reduceLE]
  refine k_pick 16 hK hF (by omega) rfl fun k0 K0 q0 q1 _ hK0 => ?_
  simp +contextual -dsimp -implicitDefEqProofs (maxSteps := 5000000) only [go_sem, reduceIte, reduceCtorEq, Nat.reduceEqDiff, Nat.reduceBEq, Nat.reduceAdd, Nat.reduceLeDiff, Nat.reduceMul, Nat.reduceLT, Int.reduceEq, Int.reduceLT, Int.reduceLE]
  refine ⟨fun h3 => ?_, fun h3 => ?_⟩
  · refine k_pick 9 hK0 hF (by omega) rfl fun k K1 r0 r1 _ hK1 => ?_
    simp +contextual -dsimp -implicitDefEqProofs (maxSteps := 5000000) only [go_sem, reduceIte, reduceCtorEq, Nat.reduceEqDiff, Nat.reduceBEq, Nat.reduceAdd, Nat.reduceLeDiff, Nat.reduceMul, Nat.reduceLT, Int.reduceEq, Int.reduceLT, Int.reduceLE]
    skip
    rintro b10 ⟨n1, n2, hb⟩
    simp only [br_out n1]
    have nb : ∀ K, (F.set b10 K) br = none := fun K => by rw [set_other n2]; exact hF
    have le : ∀ K K', AHeap.le (F.set br K') ((F.set b10 K).set br K') := fun K K' => le_ch (le_s1 (AHeap.le_refl _) hb)
    by_cases c4 : k < 4
    · simp +contextual -dsimp -implicitDefEqProofs (maxSteps := 5000000) only [go_sem, reduceIte, reduceCtorEq, Nat.reduceEqDiff, Nat.reduceBEq, Nat.reduceAdd, Nat.reduceLeDiff, Nat.reduceMul, Nat.reduceLT, Int.reduceEq, Int.reduceLT, Int.reduceLE, c4, n1, n2]
      refine k_one [1, 2, 3, 4, 5] _ hK1 (nb _) (by omega) (by simp) rfl rfl fun v K1 _ hK1 => ?_
      simp +contextual -dsimp -implicitDefEqProofs (maxSteps := 5000000) only [go_sem, reduceIte, reduceCtorEq, Nat.reduceEqDiff, Nat.reduceBEq, Nat.reduceAdd, Nat.reduceLeDiff, Nat.reduceMul, Nat.reduceLT, Int.reduceEq, Int.reduceLT, Int.reduceLE, c4, n1, n2]
      refine retR_less (l := [.vsl [rLine ⟨d, 1, v, 0⟩] true]) (H' := F.set br K1) ?_ (le _ _) ⟨[⟨d, 1, v, 0⟩], true, K1, rfl, rfl, rdk_mono hK1 (by omega), by simp, by simp; omega⟩
      simp only [resA, go_sem, reduceIte, reduceCtorEq, Nat.reduceEqDiff, Nat.reduceBEq, Nat.reduceAdd, Nat.reduceLeDiff, Nat.reduceMul, Nat.reduceLT, Int.reduceEq, Int.reduceLT, Int.reduceLE]
    by_cases c6 : k < 6
    · simp +contextual -dsimp -implicitDefEqProofs (maxSteps := 5000000) only [go_sem, reduceIte, reduceCtorEq, Nat.reduceEqDiff, Nat.reduceBEq, Nat.reduceAdd, Nat.reduceLeDiff, Nat.reduceMul, Nat.reduceLT, Int.reduceEq, Int.reduceLT, Int.reduceLE, c4, c6, n1, n2]
      refine k_pick t.length hK1 (nb _) (by omega) rfl fun a K1 _ _ _ hK1 => ?_
      simp +contextual -dsimp -implicitDefEqProofs (maxSteps := 5000000) only [go_sem, reduceIte, reduceCtorEq, Nat.reduceEqDiff, Nat.reduceBEq, Nat.reduceAdd, Nat.reduceLeDiff, Nat.reduceMul, Nat.reduceLT, Int.reduceEq, Int.reduceLT, Int.reduceLE, c4, c6, n1, n2]
      refine k_one [1, 2, 3] _ hK1 (nb _) (by omega) (by simp) rfl rfl fun v K2 _ hK2 => ?_
      simp +contextual -dsimp -implicitDefEqProofs (maxSteps := 5000000) only [go_sem, reduceIte, reduceCtorEq, Nat.reduceEqDiff, Nat.reduceBEq, Nat.reduceAdd, Nat.reduceLeDiff, Nat.reduceMul, Nat.reduceLT, Int.reduceEq, Int.reduceLT, Int.reduceLE, c4, c6, n1, n2]
      refine retR_less (l := [.vsl [rLine ⟨d, 2, a, v⟩] true]) (H' := F.set br K2) ?_ (le _ _) ⟨[⟨d, 2, a, v⟩], true, K2, rfl, rfl, rdk_mono hK2 (by omega), by simp, by simp; omega⟩
      simp only [resA, go_sem, reduceIte, reduceCtorEq, Nat.reduceEqDiff, Nat.reduceBEq, Nat.reduceAdd, Nat.reduceLeDiff, Nat.reduceMul, Nat.reduceLT, Int.reduceEq, Int.reduceLT, Int.reduceLE]
    by_cases e6 : k = 6
    · simp +contextual -dsimp -implicitDefEqProofs (maxSteps := 5000000) only [go_sem, reduceIte, reduceCtorEq, Nat.reduceEqDiff, Nat.reduceBEq, Nat.reduceAdd, Nat.reduceLeDiff, Nat.reduceMul, Nat.reduceLT, Int.reduceEq, Int.reduceLT, Int.reduceLE, c4, c6, e6, n1, n2]
      refine retR_less (l := [.vsl [rLine ⟨d, 3, 0, 0⟩] true]) (H' := AHeap.set F br _) ?_ (le _ _) ⟨[⟨d, 3, 0, 0⟩], true, _, rfl, rfl, rdk_mono hK1 (by omega), by simp, by simp; omega⟩
      simp only [resA, go_sem, reduceIte, reduceCtorEq, Nat.reduceEqDiff, Nat.reduceBEq, Nat.reduceAdd, Nat.reduceLeDiff, Nat.reduceMul, Nat.reduceLT, Int.reduceEq, Int.reduceLT, Int.reduceLE]
    by_cases e7 : k = 7
    · cases lp
      · simp +contextual -dsimp -implicitDefEqProofs (maxSteps := 5000000) only [go_sem, reduceIte, reduceCtorEq, Nat.reduceEqDiff, Nat.reduceBEq, Nat.reduceAdd, Nat.reduceLeDiff, Nat.reduceMul, Nat.reduceLT, Int.reduceEq, Int.reduceLT, Int.reduceLE, c4, c6, e6, e7, n1, n2]
        refine k_one [7, 8] _ hK1 (nb _) (by omega) (by simp) rfl rfl fun v K1 _ hK1 => ?_
        simp +contextual -dsimp -implicitDefEqProofs (maxSteps := 5000000) only [go_sem, reduceIte, reduceCtorEq, Nat.reduceEqDiff, Nat.reduceBEq, Nat.reduceAdd, Nat.reduceLeDiff, Nat.reduceMul, Nat.reduceLT, Int.reduceEq, Int.reduceLT, Int.reduceLE, c4, c6, e6, e7, n1, n2]
        refine retR_less (l := [.vsl [rLine ⟨d, 4, v, 0⟩] true]) (H' := F.set br K1) ?_ (le _ _) ⟨[⟨d, 4, v, 0⟩], true, K1, rfl, rfl, rdk_mono hK1 (by omega), by simp, by simp; omega⟩
        simp only [resA, go_sem, reduceIte, reduceCtorEq, Nat.reduceEqDiff, Nat.reduceBEq, Nat.reduceAdd, Nat.reduceLeDiff, Nat.reduceMul, Nat.reduceLT, Int.reduceEq, Int.reduceLT, Int.reduceLE]
      · simp +contextual -dsimp -implicitDefEqProofs (maxSteps := 5000000) only [go_sem, reduceIte, reduceCtorEq, Nat.reduceEqDiff, Nat.reduceBEq, Nat.reduceAdd, Nat.reduceLeDiff, Nat.reduceMul, Nat.reduceLT, Int.reduceEq, Int.reduceLT, Int.reduceLE, c4, c6, e6, e7, n1, n2]
        refine k_one [5, 6] _ hK1 (nb _) (by omega) (by simp) rfl rfl fun v K1 _ hK1 => ?_
        simp +contextual -dsimp -implicitDefEqProofs (maxSteps := 5000000) only [go_sem, reduceIte, reduceCtorEq, Nat.reduceEqDiff, Nat.reduceBEq, Nat.reduceAdd, Nat.reduceLeDiff, Nat.reduceMul, Nat.reduceLT, Int.reduceEq, Int.reduceLT, Int.reduceLE, c4, c6, e6, e7, n1, n2]
        refine retR_less (l := [.vsl [rLine ⟨d, v, 0, 0⟩] true]) (H' := F.set br K1) ?_ (le _ _) ⟨[⟨d, v, 0, 0⟩], true, K1, rfl, rfl, rdk_mono hK1 (by omega), by simp, by simp; omega⟩
        simp only [resA, go_sem, reduceIte, reduceCtorEq, Nat.reduceEqDiff, Nat.reduceBEq, Nat.reduceAdd, Nat.reduceLeDiff, Nat.reduceMul, Nat.reduceLT, Int.reduceEq, Int.reduceLT, Int.reduceLE]
    by_cases e8 : k = 8
    · simp +contextual -dsimp -implicitDefEqProofs (maxSteps := 5000000) only [go_sem, reduceIte, reduceCtorEq, Nat.reduceEqDiff, Nat.reduceBEq, Nat.reduceAdd, Nat.reduceLeDiff, Nat.reduceMul, Nat.reduceLT, Int.reduceEq, Int.reduceLT, Int.reduceLE, c4, c6, e6, e7, e8, n1, n2]
      refine retR_less (l := [.vsl [rLine ⟨d, 0, 0, 0⟩] true]) (H' := AHeap.set F br _) ?_ (le _ _) ⟨[⟨d, 0, 0, 0⟩], true, _, rfl, rfl, rdk_mono hK1 (by omega), by simp, by simp; omega⟩
      simp only [resA, go_sem, reduceIte, reduceCtorEq, Nat.reduceEqDiff, Nat.reduceBEq, Nat.reduceAdd, Nat.reduceLeDiff, Nat.reduceMul, Nat.reduceLT, Int.reduceEq, Int.reduceLT, Int.reduceLE]
    omega
  · skip
    rintro b10 ⟨n1, n2, hb⟩
    simp only [br_out n1]
    have nb : ∀ K, (F.set b10 K) br = none := fun K => by rw [set_other n2]; exact hF
    have le : ∀ K K', AHeap.le (F.set br K') ((F.set b10 K).set br K') := fun K K' => le_ch (le_s1 (AHeap.le_refl _) hb)
    by_cases c4 : k0 < 4
    · simp +contextual -dsimp -implicitDefEqProofs (maxSteps := 5000000) only [go_sem, reduceIte, reduceCtorEq, Nat.reduceEqDiff, Nat.reduceBEq, Nat.reduceAdd, Nat.reduceLeDiff, Nat.reduceMul, Nat.reduceLT, Int.reduceEq, Int.reduceLT, Int.reduceLE, c4, n1, n2]
      refine k_one [1, 2, 3, 4, 5] _ hK0 (nb _) (by omega) (by simp) rfl rfl fun v K1 _ hK1 => ?_
      simp +contextual -dsimp -implicitDefEqProofs (maxSteps := 5000000) only [go_sem, reduceIte, reduceCtorEq, Nat.reduceEqDiff, Nat.reduceBEq, Nat.reduceAdd, Nat.reduceLeDiff, Nat.reduceMul, Nat.reduceLT, Int.reduceEq, Int.reduceLT, Int.reduceLE, c4, n1, n2]
      refine retR_less (l := [.vsl [rLine ⟨d, 1, v, 0⟩] true]) (H' := F.set br K1) ?_ (le _ _) ⟨[⟨d, 1, v, 0⟩], true, K1, rfl, rfl, rdk_mono hK1 (by omega), by simp, by simp; omega⟩
      simp only [resA, go_sem, reduceIte, reduceCtorEq, Nat.reduceEqDiff, Nat.reduceBEq, Nat.reduceAdd, Nat.reduceLeDiff, Nat.reduceMul, Nat.reduceLT, Int.reduceEq, Int.reduceLT, Int.reduceLE]
    by_cases c6 : k0 < 6
    · simp +contextual -dsimp -implicitDefEqProofs (maxSteps := 5000000) only [go_sem, reduceIte, reduceCtorEq, Nat.reduceEqDiff, Nat.reduceBEq, Nat.reduceAdd, Nat.reduceLeDiff, Nat.reduceMul, Nat.reduceLT, Int.reduceEq, Int.reduceLT, Int.reduceLE, c4, c6, n1, n2]
      refine k_pick t.length hK0 (nb _) (by omega) rfl fun a K1 _ _ _ hK1 => ?_
      simp +contextual -dsimp -implicitDefEqProofs (maxSteps := 5000000) only [go_sem, reduceIte, reduceCtorEq, Nat.reduceEqDiff, Nat.reduceBEq, Nat.reduceAdd, Nat.reduceLeDiff, Nat.reduceMul, Nat.reduceLT, Int.reduceEq, Int.reduceLT, Int.reduceLE, c4, c6, n1, n2]
      refine k_one [1, 2, 3] _ hK1 (nb _) (by omega) (by simp) rfl rfl fun v K2 _ hK2 => ?_
      simp +contextual -dsimp -implicitDefEqProofs (maxSteps := 5000000) only [go_sem, reduceIte, reduceCtorEq, Nat.reduceEqDiff, Nat.reduceBEq, Nat.reduceAdd, Nat.reduceLeDiff, Nat.reduceMul, Nat.reduceLT, Int.reduceEq, Int.reduceLT, Int.reduceLE, c4, c6, n1, n2]
      refine retR_less (l := [.vsl [rLine ⟨d, 2, a, v⟩] true]) (H' := F.set br K2) ?_ (le _ _) ⟨[⟨d, 2, a, v⟩], true, K2, rfl, rfl, rdk_mono hK2 (by omega), by simp, by simp; omega⟩
      simp only [resA, go_sem, reduceIte, reduceCtorEq, Nat.reduceEqDiff, Nat.reduceBEq, Nat.reduceAdd, Nat.reduceLeDiff, Nat.reduceMul, Nat.reduceLT, Int.reduceEq, Int.reduceLT, Int.reduceLE]
    by_cases e6 : k0 = 6
    · simp +contextual -dsimp -implicitDefEqProofs (maxSteps := 5000000) only [go_sem, reduceIte, reduceCtorEq, Nat.reduceEqDiff, Nat.reduceBEq, Nat.reduceAdd, Nat.reduceLeDiff, Nat.reduceMul, Nat.reduceLT, Int.reduceEq, Int.reduceLT, Int.reduceLE, c4, c6, e6, n1, n2]
      refine retR_less (l := [.vsl [rLine ⟨d, 3, 0, 0⟩] true]) (H' := AHeap.set F br _) ?_ (le _ _) ⟨[⟨d, 3, 0, 0⟩], true, _, rfl, rfl, rdk_mono hK0 (by omega), by simp, by simp; omega⟩
      simp only [resA, go_sem, reduceIte, reduceCtorEq, Nat.reduceEqDiff, Nat.reduceBEq, Nat.reduceAdd, Nat.reduceLeDiff, Nat.reduceMul, Nat.reduceLT, Int.reduceEq, Int.reduceLT, Int.reduceLE]
    by_cases e7 : k0 = 7
    · cases lp
      · simp +contextual -dsimp -implicitDefEqProofs (maxSteps := 5000000) only [go_sem, reduceIte, reduceCtorEq, Nat.reduceEqDiff, Nat.reduceBEq, Nat.reduceAdd, Nat.reduceLeDiff, Nat.reduceMul, Nat.reduceLT, Int.reduceEq, Int.reduceLT, Int.reduceLE, c4, c6, e6, e7, n1, n2]
        refine k_one [7, 8] _ hK0 (nb _) (by omega) (by simp) rfl rfl fun v K1 _ hK1 => ?_
        simp +contextual -dsimp -implicitDefEqProofs (maxSteps := 5000000) only [go_sem, reduceIte, reduceCtorEq, Nat.reduceEqDiff, Nat.reduceBEq, Nat.reduceAdd, Nat.reduceLeDiff, Nat.reduceMul, Nat.reduceLT, Int.reduceEq, Int.reduceLT, Int.reduceLE, c4, c6, e6, e7, n1, n2]
        refine retR_less (l := [.vsl [rLine ⟨d, 4, v, 0⟩] true]) (H' := F.set br K1) ?_ (le _ _) ⟨[⟨d, 4, v, 0⟩], true, K1, rfl, rfl, rdk_mono hK1 (by omega), by simp, by simp; omega⟩
        simp only [resA, go_sem, reduceIte, reduceCtorEq, Nat.reduceEqDiff, Nat.reduceBEq, Nat.reduceAdd, Nat.reduceLeDiff, Nat.reduceMul, Nat.reduceLT, Int.reduceEq, Int.reduceLT, Int.reduceLE]
      · simp +contextual -dsimp -implicitDefEqProofs (maxSteps := 5000000) only [go_sem, reduceIte, reduceCtorEq, Nat.reduceEqDiff, Nat.reduceBEq, Nat.reduceAdd, Nat.reduceLeDiff, Nat.reduceMul, Nat.reduceLT, Int.reduceEq, Int.reduceLT, Int.reduceLE, c4, c6, e6, e7, n1, n2]
        refine k_one [5, 6] _ hK0 (nb _) (by omega) (by simp) rfl rfl fun v K1 _ hK1 => ?_
        simp +contextual -dsimp -implicitDefEqProofs (maxSteps := 5000000) only [go_sem, reduceIte, reduceCtorEq, Nat.reduceEqDiff, Nat.reduceBEq, Nat.reduceAdd, Nat.reduceLeDiff, Nat.reduceMul, Nat.reduceLT, Int.reduceEq, Int.reduceLT, Int.reduceLE, c4, c6, e6, e7, n1, n2]
        refine retR_less (l := [.vsl [rLine ⟨d, v, 0, 0⟩] true]) (H' := F.set br K1) ?_ (le _ _) ⟨[⟨d, v, 0, 0⟩], true, K1, rfl, rfl, rdk_mono hK1 (by omega), by simp, by simp; omega⟩
        simp only [resA, go_sem, reduceIte, reduceCtorEq, Nat.reduceEqDiff, Nat.reduceBEq, Nat.reduceAdd, Nat.reduceLeDiff, Nat.reduceMul, Nat.reduceLT, Int.reduceEq, Int.reduceLT, Int.reduceLE]
    by_cases e8 : k0 = 8
    · simp +contextual -dsimp -implicitDefEqProofs (maxSteps := 5000000) only [go_sem, reduceIte, reduceCtorEq, Nat.reduceEqDiff, Nat.reduceBEq, Nat.reduceAdd, Nat.reduceLeDiff, Nat.reduceMul, Nat.reduceLT, Int.reduceEq, Int.reduceLT, Int.reduceLE, c4, c6, e6, e7, e8, n1, n2]
      refine retR_less (l := [.vsl [rLine ⟨d, 0, 0, 0⟩] true]) (H' := AHeap.set F br _) ?_ (le _ _) ⟨[⟨d, 0, 0, 0⟩], true, _, rfl, rfl, rdk_mono hK0 (by omega), by simp, by simp; omega⟩
      simp only [resA, go_sem, reduceIte, reduceCtorEq, Nat.reduceEqDiff, Nat.reduceBEq, Nat.reduceAdd, Nat.reduceLeDiff, Nat.reduceMul, Nat.reduceLT, Int.reduceEq, Int.reduceLT, Int.reduceLE]
    have h3' : d < 3 := by omega
    have hB := hB h3'
    have hT := hT h3'
    have nb : ∀ K, (F.set b10 K) br = none := fun K => by rw [set_other n2]; exact hF
    have le : ∀ K K', AHeap.le (F.set br K') ((F.set b10 K).set br K') := fun K K' => le_ch (le_s1 (AHeap.le_refl _) hb)
    by_cases c11 : k0 < 11
    · simp +contextual -dsimp -implicitDefEqProofs (maxSteps := 5000000) only [go_sem, reduceIte, reduceCtorEq, Nat.reduceEqDiff, Nat.reduceBEq, Nat.reduceAdd, Nat.reduceLeDiff, Nat.reduceMul, Nat.reduceLT, Int.reduceEq, Int.reduceLT, Int.reduceLE, c4, c6, e6, e7, e8, c11, n1, n2]
      refine k_pick 4 hK0 (nb _) (by omega) rfl fun a K1 _ _ _ hK1 => ?_
      simp +contextual -dsimp -implicitDefEqProofs (maxSteps := 5000000) only [go_sem, reduceIte, reduceCtorEq, Nat.reduceEqDiff, Nat.reduceBEq, Nat.reduceAdd, Nat.reduceLeDiff, Nat.reduceMul, Nat.reduceLT, Int.reduceEq, Int.reduceLT, Int.reduceLE, c4, c6, e6, e7, e8, c11, n1, n2]
      refine k_pick 2 hK1 (nb _) (by omega) rfl fun b K2 _ _ _ hK2 => ?_
      simp +contextual -dsimp -implicitDefEqProofs (maxSteps := 5000000) only [go_sem, reduceIte, reduceCtorEq, Nat.reduceEqDiff, Nat.reduceBEq, Nat.reduceAdd, Nat.reduceLeDiff, Nat.reduceMul, Nat.reduceLT, Int.reduceEq, Int.reduceLT, Int.reduceLE, c4, c6, e6, e7, e8, c11, n1, n2]
      refine draw_intro [1, 0, 0, 0, 0, 0, 0, 3, 2, 0] _ (by kernel_rfl) (le_set (nb _)) ?_
      simp +contextual -dsimp -implicitDefEqProofs (maxSteps := 5000000) only [go_sem, reduceIte, reduceCtorEq, Nat.reduceEqDiff, Nat.reduceBEq, Nat.reduceAdd, Nat.reduceLeDiff, Nat.reduceMul, Nat.reduceLT, Int.reduceEq, Int.reduceLT, Int.reduceLE, c4, c6, e6, e7, e8, c11, n1, n2, hwd]
      refine (hB _ br _ _ t cl lp hK2 (nb _) (by omega)).mono ?_
      rintro _ H' ⟨l2, cl2, K4, rfl, rfl, hK4, h3, h4⟩
      refine ⟨le_set (nb _), ?_⟩
      simp +contextual -dsimp -implicitDefEqProofs (maxSteps := 5000000) only [go_sem, reduceIte, reduceCtorEq, Nat.reduceEqDiff, Nat.reduceBEq, Nat.reduceAdd, Nat.reduceLeDiff, Nat.reduceMul, Nat.reduceLT, Int.reduceEq, Int.reduceLT, Int.reduceLE, c4, c6, e6, e7, e8, c11, n1, n2, hwd]
      refine app_lit (y := ⟨d, 11, a, b⟩) rfl h3 (by omega) fun x' H' hg => ?_
      obtain ⟨G, hg0, rfl, u0⟩ := grow_out hg (nb _)
      have hg0' := grow_in (K := K4) hg0 u0
      obtain ⟨G2, hg2, rfl, u2⟩ := grow_out hg0 hb
      have u2r : G2 br = none := by rw [set_none] at u0; exact u0.2.2
      simp +contextual -dsimp -implicitDefEqProofs (maxSteps := 5000000) only [go_sem, reduceIte, reduceCtorEq, Nat.reduceEqDiff, Nat.reduceBEq, Nat.reduceAdd, Nat.reduceLeDiff, Nat.reduceMul, Nat.reduceLT, Int.reduceEq, Int.reduceLT, Int.reduceLE, c4, c6, e6, e7, e8, c11, n1, n2, hwd]
      refine grow_frz (t := 8) hg0' fun cl3 => ?_
      refine retR_less (l := [.vsl ((⟨d, 11, a, b⟩ :: l2).map rLine) cl3]) (H' := F.set br K4) ?_ (le _ _) ⟨⟨d, 11, a, b⟩ :: l2, cl3, K4, rfl, rfl, rdk_mono hK4 (by omega), by simp, by simp; omega⟩
      simp only [resA, go_sem, reduceIte, reduceCtorEq, Nat.reduceEqDiff, Nat.reduceBEq, Nat.reduceAdd, Nat.reduceLeDiff, Nat.reduceMul, Nat.reduceLT, Int.reduceEq, Int.reduceLT, Int.reduceLE]
    by_cases e11 : k0 = 11
    · simp +contextual -dsimp -implicitDefEqProofs (maxSteps := 5000000) only [go_sem, reduceIte, reduceCtorEq, Nat.reduceEqDiff, Nat.reduceBEq, Nat.reduceAdd, Nat.reduceLeDiff, Nat.reduceMul, Nat.reduceLT, Int.reduceEq, Int.reduceLT, Int.reduceLE, c4, c6, e6, e7, e8, c11, e11, n1, n2]
      refine k_one [2, 1, 3, 0] _ hK0 (nb _) (by omega) (by simp) rfl rfl fun a K2 _ hK2 => ?_
      simp +contextual -dsimp -implicitDefEqProofs (maxSteps := 5000000) only [go_sem, reduceIte, reduceCtorEq, Nat.reduceEqDiff, Nat.reduceBEq, Nat.reduceAdd, Nat.reduceLeDiff, Nat.reduceMul, Nat.reduceLT, Int.reduceEq, Int.reduceLT, Int.reduceLE, c4, c6, e6, e7, e8, c11, e11, n1, n2]
      refine draw_intro [1, 0, 0, 0, 0, 0, 3, 2, 0] _ (by kernel_rfl) (le_set (nb _)) ?_
      simp +contextual -dsimp -implicitDefEqProofs (maxSteps := 5000000) only [go_sem, reduceIte, reduceCtorEq, Nat.reduceEqDiff, Nat.reduceBEq, Nat.reduceAdd, Nat.reduceLeDiff, Nat.reduceMul, Nat.reduceLT, Int.reduceEq, Int.reduceLT, Int.reduceLE, c4, c6, e6, e7, e8, c11, n1, n2, e11, hwd]
      refine (hB _ br _ _ t cl true hK2 (nb _) (by omega)).mono ?_
      rintro _ H' ⟨l2, cl2, K4, rfl, rfl, hK4, h3, h4⟩
      refine ⟨le_set (nb _), ?_⟩
      simp +contextual -dsimp -implicitDefEqProofs (maxSteps := 5000000) only [go_sem, reduceIte, reduceCtorEq, Nat.reduceEqDiff, Nat.reduceBEq, Nat.reduceAdd, Nat.reduceLeDiff, Nat.reduceMul, Nat.reduceLT, Int.reduceEq, Int.reduceLT, Int.reduceLE, c4, c6, e6, e7, e8, c11, n1, n2, e11, hwd]
      refine app_lit (y := ⟨d, 12, a, 0⟩) rfl h3 (by omega) fun x' H' hg => ?_
      obtain ⟨G, hg0, rfl, u0⟩ := grow_out hg (nb _)
      have hg0' := grow_in (K := K4) hg0 u0
      obtain ⟨G2, hg2, rfl, u2⟩ := grow_out hg0 hb
      have u2r : G2 br = none := by rw [set_none] at u0; exact u0.2.2
      simp +contextual -dsimp -implicitDefEqProofs (maxSteps := 5000000) only [go_sem, reduceIte, reduceCtorEq, Nat.reduceEqDiff, Nat.reduceBEq, Nat.reduceAdd, Nat.reduceLeDiff, Nat.reduceMul, Nat.reduceLT, Int.reduceEq, Int.reduceLT, Int.reduceLE, c4, c6, e6, e7, e8, c11, n1, n2, e11, hwd]
      refine grow_frz (t := 8) hg0' fun cl3 => ?_
      refine retR_less (l := [.vsl ((⟨d, 12, a, 0⟩ :: l2).map rLine) cl3]) (H' := F.set br K4) ?_ (le _ _) ⟨⟨d, 12, a, 0⟩ :: l2, cl3, K4, rfl, rfl, rdk_mono hK4 (by omega), by simp, by simp; omega⟩
      simp only [resA, go_sem, reduceIte, reduceCtorEq, Nat.reduceEqDiff, Nat.reduceBEq, Nat.reduceAdd, Nat.reduceLeDiff, Nat.reduceMul, Nat.reduceLT, Int.reduceEq, Int.reduceLT, Int.reduceLE]
    · simp +contextual -dsimp -implicitDefEqProofs (maxSteps := 5000000) only [go_sem, reduceIte, reduceCtorEq, Nat.reduceEqDiff, Nat.reduceBEq, Nat.reduceAdd, Nat.reduceLeDiff, Nat.reduceMul, Nat.reduceLT, Int.reduceEq, Int.reduceLT, Int.reduceLE, c4, c6, e6, e7, e8, c11, e11, n1, n2]
      refine (hT _ br _ _ t cl lp hK0 (nb _) (by omega)).mono ?_
      rintro _ H' ⟨l2, cl2, K4, rfl, rfl, hK4, h3, h4⟩
      simp +contextual -dsimp -implicitDefEqProofs (maxSteps := 5000000) only [go_sem, reduceIte, reduceCtorEq, Nat.reduceEqDiff, Nat.reduceBEq, Nat.reduceAdd, Nat.reduceLeDiff, Nat.reduceMul, Nat.reduceLT, Int.reduceEq, Int.reduceLT, Int.reduceLE, c4, c6, e6, e7, e8, c11, e11, n1, n2]
      refine retR_less (l := [.vsl (l2.map rLine) cl2]) (H' := F.set br K4) ?_ (le _ _) ⟨l2, cl2, K4, rfl, rfl, rdk_mono hK4 (by omega), h3, by omega⟩
      simp only [resA, go_sem, reduceIte, reduceCtorEq, Nat.reduceEqDiff, Nat.reduceBEq, Nat.reduceAdd, Nat.reduceLeDiff, Nat.reduceMul, Nat.reduceLT, Int.reduceEq, Int.reduceLT, Int.reduceLE]
end
section
open Go Go.Sim
set_option maxRecDepth 100000
set_option maxHeartbeats 4000000

theorem st3 : DrawnF 148 6 3 := c_aStatement (p1 := 0) (p2 := 0) (by omega) (by omega) (by omega) (by omega) (by omega) (fun h => absurd h (by omega)) (fun h => absurd h (by omega))
theorem blk3 : Drawn 117 19 3 := c_aBlock (by omega) st3
theorem try2 : Drawn 116 105 2 := c_aTry (p := 19) (by omega) (by omega) blk3.frz
theorem st2 : DrawnF 148 111 2 := c_aStatement (p1 := 19) (p2 := 105) (by omega) (by omega) (by omega) (by omega) (by omega) (fun _ => blk3.frz) (fun _ => try2.frz)
theorem blk2 : Drawn 117 334 2 := c_aBlock (by omega) st2
theorem try1 : Drawn 116 1680 1 := c_aTry (p := 334) (by omega) (by omega) blk2.frz
theorem st1 : DrawnF 148 1686 1 := c_aStatement (p1 := 334) (p2 := 1680) (by omega) (by omega) (by omega) (by omega) (by omega) (fun _ => blk2.frz) (fun _ => try1.frz)
theorem blk1 : Drawn 117 5059 1 := c_aBlock (by omega) st1
theorem try0 : Drawn 116 25305 0 := c_aTry (p := 5059) (by omega) (by omega) blk1.frz
theorem st0 : DrawnF 148 25311 0 := c_aStatement (p1 := 5059) (p2 := 25305) (by omega) (by omega) (by omega) (by omega) (by omega) (fun _ => blk1.frz) (fun _ => try0.frz)
theorem blk0 : Drawn 117 75934 0 := c_aBlock (by omega) st0
/-- What is told beside blocks that nobody needs. -/
theorem grow_drop {α : Type} {f : α → List AV} {sz : Nat} {ty : TypeId} {F F0 G : AHeap} {x : AV} {l : List α} (hg : Grow f sz ty F0 G x l) (hle : F.le F0) : ∃ G', Grow f sz ty F G' x l ∧ G'.le G := by
  rcases hg with ⟨rfl, rfl, rfl⟩ | ⟨b, cl, hb, rfl, rfl⟩
  · exact ⟨F, .inl ⟨rfl, rfl, rfl⟩, hle⟩
  · have hb' : F b = none := by
      cases h : F b with
      | none => rfl
      | some k => rw [hle b k h] at hb; cases hb
    exact ⟨_, .inr ⟨b, cl, hb', rfl, rfl⟩, le_ch hle⟩
theorem le_none {F G : AHeap} {b : Nat} (h : F.le G) (hb : G b = none) : F b = none := by
  cases hq : F b with
  | none => rfl
  | some k => rw [h b k hq] at hb; cases hb
theorem c_goodProgram (F : AHeap) (br n : Nat) (K : ABlk) (t : List Class) (cl : Bool) (h : RdK n K) (hF : F br = none) (hn : n < 500000000) : ACalls Tryz.prog 74 [.ptr br 2 0 0, aTree t cl] (F.set br K) fun r H' =>
    ∃ (l : List Line) (G : AHeap) (K' : ABlk), Grow rLine 4 50 F G r l ∧ G br = none ∧ H' = G.set br K' ∧ RdK (n + 900000) K' ∧ 1 ≤ l.length ∧ l.length ≤ 24 := by
  refine acalls_of1 Tryz.func74 rfl (by kernel_rfl) rfl rfl (awp_sound (fz := fun _ => []) (im := fun s => s == 3) mixed _ _ _ _ (by kernel_rfl) ?_)
  simp +contextual -dsimp -implicitDefEqProofs (maxSteps := 5000000) only [go_sem, reduceIte, reduceCtorEq, Nat.reduceEqDiff, Nat.reduceBEq, Nat.reduceAdd, Nat.reduceLeDiff, Nat.reduceMul, Nat.reduceLT, Int.reduceEq, Int.reduceLT, Int.reduceLE]
  refine aloop mixed (fz := fun _ => []) (im := fun s => s == 3) (by kernel_rfl) (fun m tm H' => ∃ (F0 : AHeap) (K : ABlk) (i : Nat), m = 4 - i ∧ i ≤ 4 ∧ F.le F0 ∧ F0 br = none ∧ RdK (n + i * 180000) K ∧ H' = F0.set br K ∧ tm 0 = .ptr br 2 0 0 ∧ tm 3 = .vptr [[.vsl (t.map rClass) cl]] 0 0 ∧ tm 5 = I i) 4 ⟨F, K, 0, rfl, by omega, AHeap.le_refl _, hF, by simpa using h, rfl, ?_⟩ ?_
  · simp +contextual -dsimp -implicitDefEqProofs (maxSteps := 5000000) only [go_sem, reduceIte, reduceCtorEq, Nat.reduceEqDiff, Nat.reduceBEq, Nat.reduceAdd, Nat.reduceLeDiff, Nat.reduceMul, Nat.reduceLT, Int.reduceEq, Int.reduceLT, Int.reduceLE]
  · rintro m tm H' ⟨F0, K, i, rfl, hi, hle, fr, hK, rfl, t0, t3, t5⟩
    by_cases hlt : (i : Int) < 4
    · have hi4 : i < 4 := by omega
      simp +contextual -dsimp -implicitDefEqProofs (maxSteps := 5000000) only [go_sem, reduceIte, reduceCtorEq, Nat.reduceEqDiff, Nat.reduceBEq, Nat.reduceAdd, Nat.reduceLeDiff, Nat.reduceMul, Nat.reduceLT, Int.reduceEq, Int.reduceLT, Int.reduceLE, t0, t3, t5, hlt]
      refine (try0 F0 br _ K t cl false hK fr (by omega)).mono ?_
      rintro x H' ⟨l, G, K1, hg, fr1, rfl, hK1, h1, h2⟩
      simp +contextual -dsimp -implicitDefEqProofs (maxSteps := 5000000) only [go_sem, reduceIte, reduceCtorEq, Nat.reduceEqDiff, Nat.reduceBEq, Nat.reduceAdd, Nat.reduceLeDiff, Nat.reduceMul, Nat.reduceLT, Int.reduceEq, Int.reduceLT, Int.reduceLE, t0, t3, t5, hlt]
      refine k_pick 3 hK1 fr1 (by omega) rfl fun v K2 _ _ _ hK2 => ?_
      simp +contextual -dsimp -implicitDefEqProofs (maxSteps := 5000000) only [go_sem, reduceIte, reduceCtorEq, Nat.reduceEqDiff, Nat.reduceBEq, Nat.reduceAdd, Nat.reduceLeDiff, Nat.reduceMul, Nat.reduceLT, Int.reduceEq, Int.reduceLT, Int.reduceLE, t0, t3, t5, hlt]
      refine ⟨fun _ => ?_, fun _ => ?_⟩
      · refine (blk0.frz G br _ K2 t cl false hK2 fr1 (by omega)).mono ?_
        rintro _ H' ⟨l2, cl2, K3, rfl, rfl, hK3, h3, h4⟩
        simp +contextual -dsimp -implicitDefEqProofs (maxSteps := 5000000) only [go_sem, reduceIte, reduceCtorEq, Nat.reduceEqDiff, Nat.reduceBEq, Nat.reduceAdd, Nat.reduceLeDiff, Nat.reduceMul, Nat.reduceLT, Int.reduceEq, Int.reduceLT, Int.reduceLE, t0, t3, t5, hlt]
        refine app_lines (m := l2) (grow_in hg fr1) (by omega) rfl fun x' H' hg' => ?_
        obtain ⟨G1, hg1, rfl, u1⟩ := grow_out hg' (grow_none hg fr1)
        simp +contextual -dsimp -implicitDefEqProofs (maxSteps := 5000000) only [go_sem, reduceIte, reduceCtorEq, Nat.reduceEqDiff, Nat.reduceBEq, Nat.reduceAdd, Nat.reduceLeDiff, Nat.reduceMul, Nat.reduceLT, Int.reduceEq, Int.reduceLT, Int.reduceLE, t0, t3, t5, hlt]
        refine k_pick 4 hK3 u1 (by omega) rfl fun w K5 _ _ _ hK5 => ?_
        simp +contextual -dsimp -implicitDefEqProofs (maxSteps := 5000000) only [go_sem, reduceIte, reduceCtorEq, Nat.reduceEqDiff, Nat.reduceBEq, Nat.reduceAdd, Nat.reduceLeDiff, Nat.reduceMul, Nat.reduceLT, Int.reduceEq, Int.reduceLT, Int.reduceLE, t0, t3, t5, hlt]
        refine ⟨fun _ => ?_, fun _ => ?_⟩
        · refine (blk0 _ br _ _ t cl false hK5 u1 (by omega)).mono ?_
          rintro x6 H' ⟨l6, G6, K6, hg6, fr6, rfl, hK6, h5, h6⟩
          simp +contextual -dsimp -implicitDefEqProofs (maxSteps := 5000000) only [go_sem, reduceIte, reduceCtorEq, Nat.reduceEqDiff, Nat.reduceBEq, Nat.reduceAdd, Nat.reduceLeDiff, Nat.reduceMul, Nat.reduceLT, Int.reduceEq, Int.reduceLT, Int.reduceLE, t0, t3, t5, hlt]
          have hlen := grow_len te26 hg6
          simp +contextual -dsimp -implicitDefEqProofs (maxSteps := 5000000) only [go_sem, reduceIte, reduceCtorEq, Nat.reduceEqDiff, Nat.reduceBEq, Nat.reduceAdd, Nat.reduceLeDiff, Nat.reduceMul, Nat.reduceLT, Int.reduceEq, Int.reduceLT, Int.reduceLE, t0, t3, t5, hlt, hlen]
          refine ⟨fun h24 => ?_, fun h24 => ?_⟩
          · obtain ⟨G', hg', le'⟩ := grow_drop hg6 (AHeap.le_trans hle (grow_le hg1))
            refine retR_less (l := [x6]) (H' := G'.set br _) ?_ (le_ch le') ⟨_, G', _, hg', le_none le' fr6, rfl, rdk_mono hK6 (by omega), by first | omega | (simp; omega), by first | omega | (simp at h24 ⊢; omega)⟩
            simp only [resA, go_sem, reduceIte, reduceCtorEq, Nat.reduceEqDiff, Nat.reduceBEq, Nat.reduceAdd, Nat.reduceLeDiff, Nat.reduceMul, Nat.reduceLT, Int.reduceEq, Int.reduceLT, Int.reduceLE]
          · exact ⟨_, by omega, _, _, i + 1, rfl, by omega, AHeap.le_trans (AHeap.le_trans hle (grow_le hg1)) (grow_le hg6), fr6, rdk_mono hK6 (by omega), rfl, I_wrap (by omega) (by omega) (by omega)⟩
        · skip
          have hlen := grow_len te26 hg1
          simp +contextual -dsimp -implicitDefEqProofs (maxSteps := 5000000) only [go_sem, reduceIte, reduceCtorEq, Nat.reduceEqDiff, Nat.reduceBEq, Nat.reduceAdd, Nat.reduceLeDiff, Nat.reduceMul, Nat.reduceLT, Int.reduceEq, Int.reduceLT, Int.reduceLE, t0, t3, t5, hlt, hlen]
          refine ⟨fun h24 => ?_, fun h24 => ?_⟩
          · obtain ⟨G', hg', le'⟩ := grow_drop hg1 hle
            refine retR_less (l := [x']) (H' := G'.set br _) ?_ (le_ch le') ⟨_, G', _, hg', le_none le' u1, rfl, rdk_mono hK5 (by omega), by first | omega | (simp; omega), by first | omega | (simp at h24 ⊢; omega)⟩
            simp only [resA, go_sem, reduceIte, reduceCtorEq, Nat.reduceEqDiff, Nat.reduceBEq, Nat.reduceAdd, Nat.reduceLeDiff, Nat.reduceMul, Nat.reduceLT, Int.reduceEq, Int.reduceLT, Int.reduceLE]
          · exact ⟨_, by omega, _, _, i + 1, rfl, by omega, AHeap.le_trans hle (grow_le hg1), u1, rdk_mono hK5 (by omega), rfl, I_wrap (by omega) (by omega) (by omega)⟩
      · skip
        refine k_pick 4 hK2 fr1 (by omega) rfl fun w K5 _ _ _ hK5 => ?_
        simp +contextual -dsimp -implicitDefEqProofs (maxSteps := 5000000) only [go_sem, reduceIte, reduceCtorEq, Nat.reduceEqDiff, Nat.reduceBEq, Nat.reduceAdd, Nat.reduceLeDiff, Nat.reduceMul, Nat.reduceLT, Int.reduceEq, Int.reduceLT, Int.reduceLE, t0, t3, t5, hlt]
        refine ⟨fun _ => ?_, fun _ => ?_⟩
        · refine (blk0 _ br _ _ t cl false hK5 fr1 (by omega)).mono ?_
          rintro x6 H' ⟨l6, G6, K6, hg6, fr6, rfl, hK6, h5, h6⟩
          simp +contextual -dsimp -implicitDefEqProofs (maxSteps := 5000000) only [go_sem, reduceIte, reduceCtorEq, Nat.reduceEqDiff, Nat.reduceBEq, Nat.reduceAdd, Nat.reduceLeDiff, Nat.reduceMul, Nat.reduceLT, Int.reduceEq, Int.reduceLT, Int.reduceLE, t0, t3, t5, hlt]
          have hlen := grow_len te26 hg6
          simp +contextual -dsimp -implicitDefEqProofs (maxSteps := 5000000) only [go_sem, reduceIte, reduceCtorEq, Nat.reduceEqDiff, Nat.reduceBEq, Nat.reduceAdd, Nat.reduceLeDiff, Nat.reduceMul, Nat.reduceLT, Int.reduceEq, Int.reduceLT, Int.reduceLE, t0, t3, t5, hlt, hlen]
          refine ⟨fun h24 => ?_, fun h24 => ?_⟩
          · obtain ⟨G', hg', le'⟩ := grow_drop hg6 (AHeap.le_trans hle (grow_le hg))
            refine retR_less (l := [x6]) (H' := G'.set br _) ?_ (le_ch le') ⟨_, G', _, hg', le_none le' fr6, rfl, rdk_mono hK6 (by omega), by first | omega | (simp; omega), by first | omega | (simp at h24 ⊢; omega)⟩
            simp only [resA, go_sem, reduceIte, reduceCtorEq, Nat.reduceEqDiff, Nat.reduceBEq, Nat.reduceAdd, Nat.reduceLeDiff, Nat.reduceMul, Nat.reduceLT, Int.reduceEq, Int.reduceLT, Int.reduceLE]
          · exact ⟨_, by omega, _, _, i + 1, rfl, by omega, AHeap.le_trans (AHeap.le_trans hle (grow_le hg)) (grow_le hg6), fr6, rdk_mono hK6 (by omega), rfl, I_wrap (by omega) (by omega) (by omega)⟩
        · skip
          have hlen := grow_len te26 hg
          simp +contextual -dsimp -implicitDefEqProofs (maxSteps := 5000000) only [go_sem, reduceIte, reduceCtorEq, Nat.reduceEqDiff, Nat.reduceBEq, Nat.reduceAdd, Nat.reduceLeDiff, Nat.reduceMul, Nat.reduceLT, Int.reduceEq, Int.reduceLT, Int.reduceLE, t0, t3, t5, hlt, hlen]
          refine ⟨fun h24 => ?_, fun h24 => ?_⟩
          · obtain ⟨G', hg', le'⟩ := grow_drop hg hle
            refine retR_less (l := [x]) (H' := G'.set br _) ?_ (le_ch le') ⟨_, G', _, hg', le_none le' fr1, rfl, rdk_mono hK5 (by omega), by first | omega | (simp; omega), by first | omega | (simp at h24 ⊢; omega)⟩
            simp only [resA, go_sem, reduceIte, reduceCtorEq, Nat.reduceEqDiff, Nat.reduceBEq, Nat.reduceAdd, Nat.reduceLeDiff, Nat.reduceMul, Nat.reduceLT, Int.reduceEq, Int.reduceLT, Int.reduceLE]
          · exact ⟨_, by omega, _, _, i + 1, rfl, by omega, AHeap.le_trans hle (grow_le hg), fr1, rdk_mono hK5 (by omega), rfl, I_wrap (by omega) (by omega) (by omega)⟩
    · simp +contextual -dsimp -implicitDefEqProofs (maxSteps := 5000000) only [go_sem, reduceIte, reduceCtorEq, Nat.reduceEqDiff, Nat.reduceBEq, Nat.reduceAdd, Nat.reduceLeDiff, Nat.reduceMul, Nat.reduceLT, Int.reduceEq, Int.reduceLT, Int.reduceLE, t0, t3, t5, hlt]
      rintro b36 ⟨w1, w2, hb36⟩
      rw [br_out w1]
      have hb : F b36 = none := le_none hle hb36
      refine retR_less (l := [.sl b36 4 0 4 true]) (H' := (F.set b36 ⟨4, 50, ([⟨0, 7, 0, 0⟩, ⟨1, 2, 0, 1⟩, ⟨0, 10, 0, 0⟩, ⟨1, 1, 1, 0⟩] : List Line).map rLine⟩).set br K) ?_ (le_ch (le_ch hle)) ⟨_, _, K, .inr ⟨b36, true, hb, rfl, rfl⟩, by rw [set_other w2]; exact hF, rfl, rdk_mono hK (by omega), by simp, by simp⟩
      simp only [resA, go_sem, reduceIte, reduceCtorEq, Nat.reduceEqDiff, Nat.reduceBEq, Nat.reduceAdd, Nat.reduceLeDiff, Nat.reduceMul, Nat.reduceLT, Int.reduceEq, Int.reduceLT, Int.reduceLE]
end
section
open Go Go.Sim
set_option maxRecDepth 100000
set_option maxHeartbeats 4000000

theorem c_someProgram0 (F : AHeap) (br n : Nat) (K : ABlk) (h : RdK n K) (hF : F br = none) (hn : n < 400000000) : ACalls Tryz.prog 32 [.ptr br 2 0 0] (F.set br K) fun r H' =>
    ∃ t cl x, ∃ l : List Line, ∃ cl' G K', r = .tup [aTree t cl, x] ∧ Fz (AHeap.set G br K') (F.set br K') x (.vsl (l.map rLine) cl') ∧ F.le G ∧ H' = G.set br K' ∧ RdK (n + 1000000) K' ∧ t.length ≤ 8 ∧ shortNames t ∧ l.length ≤ 24 := by
  refine acalls_of1 Tryz.func32 rfl (by kernel_rfl) rfl rfl (awp_sound (fz := fun r => if r = 13 then [5] else []) (im := fun s => s == 15 || s == 30 || s == 39 || s == 48) mixed _ _ _ _ (by kernel_rfl) ?_)
  simp +contextual -dsimp -implicitDefEqProofs (maxSteps := 5000000) only [go_sem, reduceIte, reduceCtorEq, Nat.reduceEqDiff, Nat.reduceBEq, Nat.reduceAdd, Nat.reduceLeDiff, Nat.reduceMul, Nat.reduceLT, Int.reduceEq, Int.reduceLT, Int.reduceLE]
  rintro b2 ⟨p1, p2, hb2⟩
  rw [br_out p1]
  have n2 : ∀ K4, (F.set b2 K4) br = none := fun K4 => by rw [set_other p2]; exact hF
  refine (c_someTreeF _ br n K h (n2 _) (by omega)).mono ?_
  rintro _ _ ⟨t, cl, K1, rfl, rfl, hK1, ht8, hs⟩
  simp +contextual -dsimp -implicitDefEqProofs (maxSteps := 5000000) only [go_sem, reduceIte, reduceCtorEq, Nat.reduceEqDiff, Nat.reduceBEq, Nat.reduceAdd, Nat.reduceLeDiff, Nat.reduceMul, Nat.reduceLT, Int.reduceEq, Int.reduceLT, Int.reduceLE, p1, p2]
  rintro b4 ⟨q1, q2, q3, q4, hb4⟩
  simp only [br_out q1]
  have n4 : ∀ K4 K5, ((F.set b2 K4).set b4 K5) br = none := fun K4 K5 => by rw [set_other q2]; exact n2 _
  refine ⟨fun h0 => ?_, fun h0 => ?_⟩
  · refine retR_less (l := [aTree t cl, .vsl [rLine ⟨0, 0, 0, 0⟩] true]) (H' := F.set br K1) ?_ (le_ch (le_s1 (le_s1 (AHeap.le_refl _) hb2) hb4)) ⟨t, cl, _, [⟨0, 0, 0, 0⟩], true, F, K1, rfl, .same _, AHeap.le_refl _, rfl, rdk_mono hK1 (by omega), ht8, hs, by simp⟩
    simp only [resA, go_sem, reduceIte, reduceCtorEq, Nat.reduceEqDiff, Nat.reduceBEq, Nat.reduceAdd, Nat.reduceLeDiff, Nat.reduceMul, Nat.reduceLT, Int.reduceEq, Int.reduceLT, Int.reduceLE, p1, p2, q1, q2, q3, q4]
  · refine (c_goodProgram _ br _ K1 t cl hK1 (n4 _ _) (by omega)).mono ?_
    rintro _ _ ⟨l, G0, K2, hg0, hr0, rfl, hK2, h1, h24⟩
    rcases hg0 with ⟨e, _, _⟩ | ⟨bx, clx, hbx, rfl, rfl⟩
    · rw [e] at h1; simp at h1
    have hbx' := hbx
    have hr' := hr0
    rw [set_none, set_none] at hbx'
    rw [set_none] at hr'
    obtain ⟨s1, s2, s3, s4, hbF⟩ := hbx'
    obtain ⟨s5, s6, _⟩ := hr'
    have n6 : ∀ (A C D : ABlk), (((F.set b2 A).set b4 C).set bx D) br = none := fun A C D => by rw [set_other s5]; exact n4 _ _
    have fin : ∀ (l' : List Line) (off len : Nat) (c' : Bool) (K3 : ABlk) (tm : Tm), off + len ≤ l'.length → len ≤ 24 → RdK (n + 1000000) K3 → tm 2 = .ptr b2 1 0 0 → tm 3 = .sl bx 4 off len c' → retR Tryz.prog [.cell 2 25, .tmp 3] (fun r H' => ∃ t cl x, ∃ l : List Line, ∃ cl' G K', r = .tup [aTree t cl, x] ∧ Fz (AHeap.set G br K') (F.set br K') x (.vsl (l.map rLine) cl') ∧ F.le G ∧ H' = G.set br K' ∧ RdK (n + 1000000) K' ∧ t.length ≤ 8 ∧ shortNames t ∧ l.length ≤ 24) tm
        ((((F.set b2 ⟨1, 25, [[.vsl (t.map rClass) cl]]⟩).set b4 ⟨1, 25, [[.vsl (t.map rClass) cl]]⟩).set bx ⟨4, 50, l'.map rLine⟩).set br K3) := by
      intro l' off len c' K3 tm hol hl24 hK3 h2 h3
      have hz := Fz.sl (H := (F.set bx ⟨4, 50, l'.map rLine⟩).set br K3) (K := F.set br K3) (b := bx) (sz := 4) (off := off) (len := len) (cl := c') (k := ⟨4, 50, l'.map rLine⟩) (by rw [set_other s6, AHeap.set_self]) rfl (by simpa using hol) (by rw [set_other s6]; exact hbF)
      have he : ((l'.map rLine).drop off).take len = ((l'.drop off).take len).map rLine := by rw [List.map_take, List.map_drop]
      simp only [he] at hz
      refine retR_less (l := [aTree t cl, .sl bx 4 off len c']) (H' := (F.set bx ⟨4, 50, l'.map rLine⟩).set br K3) ?_ (le_ch (le_ch (le_s1 (le_s1 (AHeap.le_refl _) hb2) hb4))) ⟨t, cl, _, (l'.drop off).take len, c', _, K3, rfl, hz, le_s1 (AHeap.le_refl _) hbF, rfl, hK3, ht8, hs, by simp; omega⟩
      simp only [resA, go_sem, reduceIte, reduceCtorEq, Nat.reduceEqDiff, Nat.reduceBEq, Nat.reduceAdd, Nat.reduceLeDiff, Nat.reduceMul, Nat.reduceLT, Int.reduceEq, Int.reduceLT, Int.reduceLE, p1, p2, q1, q2, q3, q4, s1, s2, s3, s4, s5, s6, h2, h3]
    have finV : ∀ (l' : List Line) (c' : Bool) (K3 : ABlk) (tm : Tm), l'.length ≤ 24 → RdK (n + 1000000) K3 → tm 2 = .ptr b2 1 0 0 → tm 3 = .vsl (l'.map rLine) c' → retR Tryz.prog [.cell 2 25, .tmp 3] (fun r H' => ∃ t cl x, ∃ l : List Line, ∃ cl' G K', r = .tup [aTree t cl, x] ∧ Fz (AHeap.set G br K') (F.set br K') x (.vsl (l.map rLine) cl') ∧ F.le G ∧ H' = G.set br K' ∧ RdK (n + 1000000) K' ∧ t.length ≤ 8 ∧ shortNames t ∧ l.length ≤ 24) tm
        (((F.set b2 ⟨1, 25, [[.vsl (t.map rClass) cl]]⟩).set b4 ⟨1, 25, [[.vsl (t.map rClass) cl]]⟩).set br K3) := by
      intro l' c' K3 tm hl24 hK3 h2 h3
      refine retR_less (l := [aTree t cl, .vsl (l'.map rLine) c']) (H' := F.set br K3) ?_ (le_ch (le_s1 (le_s1 (AHeap.le_refl _) hb2) hb4)) ⟨t, cl, _, l', c', F, K3, rfl, .same _, AHeap.le_refl _, rfl, hK3, ht8, hs, hl24⟩
      simp only [resA, go_sem, reduceIte, reduceCtorEq, Nat.reduceEqDiff, Nat.reduceBEq, Nat.reduceAdd, Nat.reduceLeDiff, Nat.reduceMul, Nat.reduceLT, Int.reduceEq, Int.reduceLT, Int.reduceLE, p1, p2, q1, q2, q3, q4, h2, h3]
    have htk : List.take l.length (l.map rLine) = l.map rLine := List.take_of_length_le (by simp)
    have delx : ∀ (G : AHeap) (L K : ABlk), G bx = none → ((G.set bx L).set br K).del bx = G.set br K := fun G L K hG => by rw [set_comm s6, set_del (by rw [set_other s6]; exact hG)]
    simp +contextual -dsimp -implicitDefEqProofs (maxSteps := 5000000) only [go_sem, reduceIte, reduceCtorEq, Nat.reduceEqDiff, Nat.reduceBEq, Nat.reduceAdd, Nat.reduceLeDiff, Nat.reduceMul, Nat.reduceLT, Int.reduceEq, Int.reduceLT, Int.reduceLE, p1, p2, q1, q2, q3, q4, s1, s2, s3, s4, s5, s6]
    refine k_pick l.length hK2 (n6 _ _ _) (by omega) rfl fun v K3 v0 v1 _ hK3 => ?_
    have vl := v1 (by omega)
    have vn : v.toNat < l.length := by omega
    simp +contextual -dsimp -implicitDefEqProofs (maxSteps := 5000000) only [go_sem, reduceIte, reduceCtorEq, Nat.reduceEqDiff, Nat.reduceBEq, Nat.reduceAdd, Nat.reduceLeDiff, Nat.reduceMul, Nat.reduceLT, Int.reduceEq, Int.reduceLT, Int.reduceLE, p1, p2, q1, q2, q3, q4, s1, s2, s3, s4, s5, s6]
    refine k_pick 24 hK3 (n6 _ _ _) (by omega) rfl fun z K4 _ _ _ hK4 => ?_
    by_cases c0 : z = 0
    · simp +contextual -dsimp -implicitDefEqProofs (maxSteps := 5000000) only [go_sem, reduceIte, reduceCtorEq, Nat.reduceEqDiff, Nat.reduceBEq, Nat.reduceAdd, Nat.reduceLeDiff, Nat.reduceMul, Nat.reduceLT, Int.reduceEq, Int.reduceLT, Int.reduceLE, c0, p1, p2, q1, q2, q3, q4, s1, s2, s3, s4, s5, s6]
      refine k_one [-1, 6, 0, 1] _ hK4 (n6 _ _ _) (by omega) (by simp) rfl rfl fun s K5 _ hK5 => ?_
      simp +contextual -dsimp -implicitDefEqProofs (maxSteps := 5000000) only [go_sem, reduceIte, reduceCtorEq, Nat.reduceEqDiff, Nat.reduceBEq, Nat.reduceAdd, Nat.reduceLeDiff, Nat.reduceMul, Nat.reduceLT, Int.reduceEq, Int.reduceLT, Int.reduceLE, c0, p1, p2, q1, q2, q3, q4, s1, s2, s3, s4, s5, s6, v0, vl, vn]
      rw [wrO_y (y := { l.getD v.toNat default with depth := s }) vn rfl]
      simp +contextual -dsimp -implicitDefEqProofs (maxSteps := 5000000) only [go_sem, reduceIte, reduceCtorEq, Nat.reduceEqDiff, Nat.reduceBEq, Nat.reduceAdd, Nat.reduceLeDiff, Nat.reduceMul, Nat.reduceLT, Int.reduceEq, Int.reduceLT, Int.reduceLE, c0, p1, p2, q1, q2, q3, q4, s1, s2, s3, s4, s5, s6, v0, vl, vn]
      refine fin (l.set v.toNat { l.getD v.toNat default with depth := s }) 0 l.length clx K5 _ (by simp) h24 (rdk_mono hK5 (by omega)) rfl rfl
    by_cases c1 : z = 1
    · simp +contextual -dsimp -implicitDefEqProofs (maxSteps := 5000000) only [go_sem, reduceIte, reduceCtorEq, Nat.reduceEqDiff, Nat.reduceBEq, Nat.reduceAdd, Nat.reduceLeDiff, Nat.reduceMul, Nat.reduceLT, Int.reduceEq, Int.reduceLT, Int.reduceLE, c0, c1, p1, p2, q1, q2, q3, q4, s1, s2, s3, s4, s5, s6]
      refine k_one [-1, 13, 5, 9, 0] _ hK4 (n6 _ _ _) (by omega) (by simp) rfl rfl fun s K5 _ hK5 => ?_
      simp +contextual -dsimp -implicitDefEqProofs (maxSteps := 5000000) only [go_sem, reduceIte, reduceCtorEq, Nat.reduceEqDiff, Nat.reduceBEq, Nat.reduceAdd, Nat.reduceLeDiff, Nat.reduceMul, Nat.reduceLT, Int.reduceEq, Int.reduceLT, Int.reduceLE, c0, c1, p1, p2, q1, q2, q3, q4, s1, s2, s3, s4, s5, s6, v0, vl, vn]
      rw [wrO_y (y := { l.getD v.toNat default with kind := s }) vn rfl]
      simp +contextual -dsimp -implicitDefEqProofs (maxSteps := 5000000) only [go_sem, reduceIte, reduceCtorEq, Nat.reduceEqDiff, Nat.reduceBEq, Nat.reduceAdd, Nat.reduceLeDiff, Nat.reduceMul, Nat.reduceLT, Int.reduceEq, Int.reduceLT, Int.reduceLE, c0, c1, p1, p2, q1, q2, q3, q4, s1, s2, s3, s4, s5, s6, v0, vl, vn]
      refine fin (l.set v.toNat { l.getD v.toNat default with kind := s }) 0 l.length clx K5 _ (by simp) h24 (rdk_mono hK5 (by omega)) rfl rfl
    by_cases c2 : z = 2
    · simp +contextual -dsimp -implicitDefEqProofs (maxSteps := 5000000) only [go_sem, reduceIte, reduceCtorEq, Nat.reduceEqDiff, Nat.reduceBEq, Nat.reduceAdd, Nat.reduceLeDiff, Nat.reduceMul, Nat.reduceLT, Int.reduceEq, Int.reduceLT, Int.reduceLE, c0, c1, c2, p1, p2, q1, q2, q3, q4, s1, s2, s3, s4, s5, s6]
      refine k_one [-1, 100, 8] _ hK4 (n6 _ _ _) (by omega) (by simp) rfl rfl fun s K5 _ hK5 => ?_
      simp +contextual -dsimp -implicitDefEqProofs (maxSteps := 5000000) only [go_sem, reduceIte, reduceCtorEq, Nat.reduceEqDiff, Nat.reduceBEq, Nat.reduceAdd, Nat.reduceLeDiff, Nat.reduceMul, Nat.reduceLT, Int.reduceEq, Int.reduceLT, Int.reduceLE, c0, c1, c2, p1, p2, q1, q2, q3, q4, s1, s2, s3, s4, s5, s6, v0, vl, vn]
      rw [wrO_y (y := { l.getD v.toNat default with a := s }) vn rfl]
      simp +contextual -dsimp -implicitDefEqProofs (maxSteps := 5000000) only [go_sem, reduceIte, reduceCtorEq, Nat.reduceEqDiff, Nat.reduceBEq, Nat.reduceAdd, Nat.reduceLeDiff, Nat.reduceMul, Nat.reduceLT, Int.reduceEq, Int.reduceLT, Int.reduceLE, c0, c1, c2, p1, p2, q1, q2, q3, q4, s1, s2, s3, s4, s5, s6, v0, vl, vn]
      refine fin (l.set v.toNat { l.getD v.toNat default with a := s }) 0 l.length clx K5 _ (by simp) h24 (rdk_mono hK5 (by omega)) rfl rfl
    by_cases c3 : z = 3
    · simp +contextual -dsimp -implicitDefEqProofs (maxSteps := 5000000) only [go_sem, reduceIte, reduceCtorEq, Nat.reduceEqDiff, Nat.reduceBEq, Nat.reduceAdd, Nat.reduceLeDiff, Nat.reduceMul, Nat.reduceLT, Int.reduceEq, Int.reduceLT, Int.reduceLE, c0, c1, c2, c3, p1, p2, q1, q2, q3, q4, s1, s2, s3, s4, s5, s6]
      refine ⟨Nat.le_refl _, ?_⟩
      have h1i : (1 : Int) ≤ l.length := by omega
      rw [delx _ _ _ hbx, htk]
      simp +contextual -dsimp -implicitDefEqProofs (maxSteps := 5000000) only [go_sem, reduceIte, reduceCtorEq, Nat.reduceEqDiff, Nat.reduceBEq, Nat.reduceAdd, Nat.reduceLeDiff, Nat.reduceMul, Nat.reduceLT, Int.reduceEq, Int.reduceLT, Int.reduceLE, h1i, c0, c1, c2, c3, p1, p2, q1, q2, q3, q4, s1, s2, s3, s4, s5, s6]
      refine finV (l.drop 1) clx K4 _ (by simp; omega) (rdk_mono hK4 (by omega)) rfl rfl
    · simp +contextual -dsimp -implicitDefEqProofs (maxSteps := 5000000) only [go_sem, reduceIte, reduceCtorEq, Nat.reduceEqDiff, Nat.reduceBEq, Nat.reduceAdd, Nat.reduceLeDiff, Nat.reduceMul, Nat.reduceLT, Int.reduceEq, Int.reduceLT, Int.reduceLE, c0, c1, c2, c3, p1, p2, q1, q2, q3, q4, s1, s2, s3, s4, s5, s6]
      refine ⟨Nat.le_refl _, ?_⟩
      rw [delx _ _ _ hbx]
      simp +contextual -dsimp -implicitDefEqProofs (maxSteps := 5000000) only [go_sem, reduceIte, reduceCtorEq, Nat.reduceEqDiff, Nat.reduceBEq, Nat.reduceAdd, Nat.reduceLeDiff, Nat.reduceMul, Nat.reduceLT, Int.reduceEq, Int.reduceLT, Int.reduceLE, htk, c0, c1, c2, c3, p1, p2, q1, q2, q3, q4, s1, s2, s3, s4, s5, s6]
      refine finV l clx K4 _ h24 (rdk_mono hK4 (by omega)) rfl rfl
theorem c_someProgram (F : AHeap) (br n : Nat) (K : ABlk) (h : RdK n K) (hF : F br = none) (hn : n < 400000000) : ACalls Tryz.prog 32 [.ptr br 2 0 0] (F.set br K) fun r H' =>
    ∃ t cl, ∃ l : List Line, ∃ cl' K', r = .tup [aTree t cl, .vsl (l.map rLine) cl'] ∧ H' = F.set br K' ∧ RdK (n + 1000000) K' ∧ t.length ≤ 8 ∧ shortNames t ∧ l.length ≤ 24 := by
  refine acalls_fz (c_someProgram0 F br n K h hF hn) ?_
  rintro _ _ ⟨t, cl, x, l, cl', G, K', rfl, hz, hle, rfl, hK, ht, hs, hl⟩
  exact ⟨_, F.set br K', le_ch hle, fz_tup (.cons (.same _) (.cons hz .nil)), t, cl, l, cl', K', rfl, rfl, hK, ht, hs, hl⟩
end
section
open Go Go.Sim
set_option maxRecDepth 100000
set_option maxHeartbeats 4000000

theorem c_ClipL (l : List Line) (cl : Bool) (H : AHeap) : ACalls Tryz.prog 91 [aProg l cl] H fun r H' => r = aProg l true ∧ H' = H := by
  refine acalls_len (by kernel_rfl) (List.mem_cons_self ..) fun hl => ?_
  rw [List.length_map] at hl
  refine acalls_of0 Tryz.func91 rfl (by kernel_rfl) rfl rfl (awp_sound (fz := fun _ => []) (im := fun _ => false) mixed _ _ _ _ (by kernel_rfl) ?_)
  simp +contextual -dsimp -implicitDefEqProofs (maxSteps := 5000000) only [go_sem, reduceIte, reduceCtorEq, Nat.reduceEqDiff, Nat.reduceBEq, Nat.reduceAdd, Nat.reduceLeDiff, Nat.reduceMul, Nat.reduceLT, Int.reduceEq, Int.reduceLT, Int.reduceLE, List.take_length]
  exact Nat.le_refl _
/-- A program, if it is valid. -/
noncomputable def madeF (t : List Class) (p : List Line) : List Line := if validB t p = true then p else []
theorem c_programMade (t : List Class) (cl : Bool) (p : List Line) (cl' : Bool) (H : AHeap) (hn : namesOk t) (hp : p.length ≤ 4398046511104) : ACalls Tryz.prog 48 [aTree t cl, aProg p cl'] H fun r H' => (∃ c, r = .tup [aProg (madeF t p) c, B (validB t p)]) ∧ H' = H := by
  refine acalls_of0 Tryz.func48 rfl (by kernel_rfl) rfl rfl (awp_sound (fz := fun _ => []) (im := fun s => s == 2) mixed _ _ _ _ (by kernel_rfl) ?_)
  simp +contextual -dsimp -implicitDefEqProofs (maxSteps := 5000000) only [go_sem, reduceIte, reduceCtorEq, Nat.reduceEqDiff, Nat.reduceBEq, Nat.reduceAdd, Nat.reduceLeDiff, Nat.reduceMul, Nat.reduceLT, Int.reduceEq, Int.reduceLT, Int.reduceLE]
  refine (c_ValidProgram t cl p cl' _ hn hp).det ?_
  unfold madeF
  cases hv : validB t p
  · simp +contextual -dsimp -implicitDefEqProofs (maxSteps := 5000000) only [go_sem, reduceIte, reduceCtorEq, Nat.reduceEqDiff, Nat.reduceBEq, Nat.reduceAdd, Nat.reduceLeDiff, Nat.reduceMul, Nat.reduceLT, Int.reduceEq, Int.reduceLT, Int.reduceLE]
    exact ⟨true, rfl⟩
  · simp +contextual -dsimp -implicitDefEqProofs (maxSteps := 5000000) only [go_sem, reduceIte, reduceCtorEq, Nat.reduceEqDiff, Nat.reduceBEq, Nat.reduceAdd, Nat.reduceLeDiff, Nat.reduceMul, Nat.reduceLT, Int.reduceEq, Int.reduceLT, Int.reduceLE]
    refine (c_ClipL p cl' _).det ?_
    simp +contextual -dsimp -implicitDefEqProofs (maxSteps := 5000000) only [go_sem, reduceIte, reduceCtorEq, Nat.reduceEqDiff, Nat.reduceBEq, Nat.reduceAdd, Nat.reduceLeDiff, Nat.reduceMul, Nat.reduceLT, Int.reduceEq, Int.reduceLT, Int.reduceLE]
    exact ⟨true, rfl⟩
theorem c_checkedProgram (t : List Class) (cl : Bool) (p : List Line) (cl' : Bool) (H : AHeap) (hn : namesOk t) (hp : p.length ≤ 4398046511104) : ACalls Tryz.prog 52 [aTree t cl, aProg p cl'] H fun r H' => (∃ c, r = .tup [aProg (madeF t p) c, B (validB t p)]) ∧ H' = H := by
  refine acalls_of0 Tryz.func52 rfl (by kernel_rfl) rfl rfl (awp_sound (fz := fun _ => []) (im := fun s => s == 2) mixed _ _ _ _ (by kernel_rfl) ?_)
  simp +contextual -dsimp -implicitDefEqProofs (maxSteps := 5000000) only [go_sem, reduceIte, reduceCtorEq, Nat.reduceEqDiff, Nat.reduceBEq, Nat.reduceAdd, Nat.reduceLeDiff, Nat.reduceMul, Nat.reduceLT, Int.reduceEq, Int.reduceLT, Int.reduceLE]
  refine (c_svalidProgram t cl p cl' _ hn hp).det ?_
  unfold madeF
  cases hv : validB t p
  · simp +contextual -dsimp -implicitDefEqProofs (maxSteps := 5000000) only [go_sem, reduceIte, reduceCtorEq, Nat.reduceEqDiff, Nat.reduceBEq, Nat.reduceAdd, Nat.reduceLeDiff, Nat.reduceMul, Nat.reduceLT, Int.reduceEq, Int.reduceLT, Int.reduceLE]
    exact ⟨true, rfl⟩
  · simp +contextual -dsimp -implicitDefEqProofs (maxSteps := 5000000) only [go_sem, reduceIte, reduceCtorEq, Nat.reduceEqDiff, Nat.reduceBEq, Nat.reduceAdd, Nat.reduceLeDiff, Nat.reduceMul, Nat.reduceLT, Int.reduceEq, Int.reduceLT, Int.reduceLE]
    exact ⟨cl', rfl⟩
end
section
open Go Go.Sim
set_option maxRecDepth 100000

def headNo : Fo → Bool
  | .nil => true
  | .node k _ _ _ _ => !followsK k
theorem chainR_no {t : List Class} {f : Fo} (hf : headNo f = true) {i : Nat} {st e : En} {h : Int} {s : RS} : chainR t f i st e h s = (e, s) ∧ skipF f = f ∧ skipN f i = i := by
  cases f with
  | nil => exact ⟨rfl, rfl, rfl⟩
  | node k a b kids rest =>
    have hk : followsK k = false := by simpa [headNo] using hf
    simp [chainR, skipF, skipN, hk]
/-- Behind a try, where nothing goes on with it. -/
theorem runF_no {t : List Class} {f : Fo} (hf : headNo f = true) {i : Nat} {st e : En} {h : Int} {s : RS} : runF t f i (some (st, e)) h s = if e.ed = 0 then runF t f i none h s else (e, s) := by
  have := chainR_no (t := t) (i := i) (st := st) (e := e) (h := h) (s := s) hf
  rw [runF_some, this.1, this.2.1, this.2.2]
/-- The lines of a block that is right. -/
theorem okF_node {k a b : Int} {kids rest : Fo} {lp m : Bool} (h : okF (.node k a b kids rest) lp m = true) :
    (followsK k = true ∧ m = true ∧ okF kids lp false = true ∧ okF rest lp true = true) ∨
    (followsK k = false ∧ ((k = 7 ∧ tryOkF (headsK rest) = true ∧ okF kids lp false = true ∧ okF rest lp true = true) ∨
      (k ≠ 7 ∧ okF rest lp false = true ∧ (k = 11 → okF kids lp false = true) ∧ (k = 12 → okF kids true false = true) ∧ (k = 5 ∨ k = 6 → lp = true)))) := by
  simp only [okF] at h
  by_cases hf : followsK k = true
  · rw [if_pos hf] at h
    simp only [Bool.and_eq_true] at h
    exact .inl ⟨hf, h.1, h.2.1, h.2.2⟩
  · right
    refine ⟨by simpa using hf, ?_⟩
    rw [if_neg hf] at h
    by_cases h56 : k = 5 ∨ k = 6
    · rw [if_pos h56, Bool.and_eq_true] at h
      exact .inr ⟨by omega, h.2, fun q => by omega, fun q => by omega, fun _ => h.1⟩
    · rw [if_neg h56] at h
      by_cases h7 : k = 7
      · rw [if_pos h7] at h
        simp only [Bool.and_eq_true] at h
        exact .inl ⟨h7, h.1, h.2.1, h.2.2⟩
      · rw [if_neg h7] at h
        by_cases h11 : k = 11
        · rw [if_pos h11, Bool.and_eq_true] at h
          exact .inr ⟨h7, h.2, fun _ => h.1, fun q => by omega, fun q => absurd q h56⟩
        · rw [if_neg h11] at h
          by_cases h12 : k = 12
          · rw [if_pos h12, Bool.and_eq_true] at h
            exact .inr ⟨h7, h.2, fun q => absurd q h11, fun _ => h.1, fun q => absurd q h56⟩
          · rw [if_neg h12] at h
            exact .inr ⟨h7, h, fun q => absurd q h11, fun q => absurd q h12, fun q => absurd q h56⟩
end
section
open Go Go.Sim
set_option maxRecDepth 100000

/-- Programs with other numbers that are told. -/
def mapA (g : Int → Int) : Fo → Fo
  | .nil => .nil
  | .node k a b kids rest => .node k (if k = 1 then g a else a) b (mapA g kids) (mapA g rest)
theorem mapA_id : ∀ f : Fo, mapA (fun a => a) f = f
  | .nil => rfl
  | .node k a b kids rest => by simp only [mapA, mapA_id kids, mapA_id rest, ite_self]
/-- Nothing is raised again. -/
def noAg : Fo → Bool
  | .nil => true
  | .node k _ _ kids rest => !decide (k = 3) && (noAg kids && noAg rest)
/-- A number of a fault, further on. -/
def shv (n : Nat) (v : Int) : Int := if 0 ≤ v then v + n else v
def shf (n : Nat) (x : Fault) : Fault := { x with cause := shv n x.cause, ctx := shv n x.ctx }
theorem shv_zero (v : Int) : shv 0 v = v := by unfold shv; split <;> simp
theorem shf_zero (x : Fault) : shf 0 x = x := by simp [shf, shv_zero]
/-- How two runs are alike: logs as 'LR' says, faults behind 'F'; 'wk': but for what was handled. -/
structure SimP where
  LR : List Int → List Int → Prop
  F : List Fault
  wk : Bool
structure SR (P : SimP) (s s' : RS) : Prop where
  log : P.LR s.log s'.log
  fs : ∃ X, s'.fs = P.F ++ X ∧ (P.wk = true → X.map (·.cls) = s.fs.map (·.cls)) ∧ (P.wk = false → X = s.fs.map (shf P.F.length))
def ER (P : SimP) (e e' : En) : Prop := e'.ed = e.ed ∧ (e.ed = 2 → 0 ≤ e.val ∧ e'.val = e.val + P.F.length) ∧ (e.ed ≠ 2 → e'.val = e.val)
def HR (P : SimP) (h h' : Int) : Prop := (0 ≤ h ∧ h' = h + P.F.length) ∨ (h < 0 ∧ (P.wk = true ∨ h' < 0))
def RR (P : SimP) (r r' : En × RS) : Prop := ER P r.1 r'.1 ∧ SR P r.2 r'.2
def PR (P : SimP) : Option (En × En) → Option (En × En) → Prop
  | none, none => True
  | some q, some q' => ER P q.1 q'.1 ∧ ER P q.2 q'.2
  | _, _ => False
section
variable {P : SimP}
theorem er_same {e : En} (h : e.ed ≠ 2) : ER P e e := ⟨rfl, fun q => absurd q h, fun _ => rfl⟩
theorem SR.len {s s' : RS} (h : SR P s s') : s'.fs.length = P.F.length + s.fs.length := by
  obtain ⟨X, e, h1, h2⟩ := h.fs
  have : X.length = s.fs.length := by
    cases hw : P.wk
    · rw [h2 hw, List.length_map]
    · have := congrArg List.length (h1 hw)
      simpa using this
  rw [e, List.length_append, this]
theorem SR.cls {s s' : RS} (h : SR P s s') {v : Int} (hv : 0 ≤ v) : clsOf s' (v + P.F.length) = clsOf s v := by
  obtain ⟨X, e, h1, h2⟩ := h.fs
  have hc : X.map (·.cls) = s.fs.map (·.cls) := by
    cases hw : P.wk
    · rw [h2 hw, List.map_map]; rfl
    · exact h1 hw
  have hg : ∀ (l : List Fault) (k : Nat), (l.getD k default).cls = (l.map (·.cls)).getD k (default : Fault).cls := fun l k => by
    simp only [List.getD_eq_getElem?_getD, List.getElem?_map]
    cases l[k]? <;> rfl
  unfold clsOf
  have e2 : (v + (P.F.length : Int)).toNat = P.F.length + v.toNat := by omega
  rw [e, e2]
  have e3 : (P.F ++ X).getD (P.F.length + v.toNat) default = X.getD v.toNat default := by
    simp only [List.getD_eq_getElem?_getD]
    rw [List.getElem?_append_right (by omega), Nat.add_sub_cancel_left]
  rw [e3, hg, hg, hc]
theorem SR.tell {s s' : RS} (h : SR P s s') {n n' : Int} (hl : P.LR s.log s'.log → P.LR (s.log ++ [n]) (s'.log ++ [n'])) : SR P (s.tell n) (s'.tell n') := ⟨hl h.log, h.fs⟩
theorem SR.jump {s s' : RS} (h : SR P s s') (k : Int) (i i' : Nat) : SR P (s.jump k i) (s'.jump k i') := by
  unfold RS.jump
  constructor
  · split <;> split <;> exact h.log
  · split <;> split <;> exact h.fs
theorem SR.raise {s s' : RS} (h : SR P s s') (c d : Int) {g g' : Int} (hg : HR P g g') : SR P (s.raise c d g) (s'.raise c d g') := by
  refine ⟨h.log, ?_⟩
  obtain ⟨X, e, h1, h2⟩ := h.fs
  refine ⟨X ++ [⟨c, d, -1, if 0 ≤ g' then g' else -1, false⟩], ?_, fun q => ?_, fun q => ?_⟩
  · show raiseF s'.fs c d g' = _
    unfold raiseF
    rw [e, List.append_assoc]
  · show _ = (raiseF s.fs c d g).map (·.cls)
    unfold raiseF
    rw [List.map_append, List.map_append, h1 q]; rfl
  · show _ = (raiseF s.fs c d g).map (shf P.F.length)
    unfold raiseF
    rw [List.map_append, ← h2 q]
    congr 1
    rcases hg with ⟨g0, rfl⟩ | ⟨g0, g1⟩
    · have h3 : 0 ≤ g + (P.F.length : Int) := by omega
      simp [shf, shv, g0, h3]
    · have g2 : g' < 0 := by
        rcases g1 with g1 | g1
        · rw [q] at g1; cases g1
        · exact g1
      have n1 : ¬ 0 ≤ g := by omega
      have n2 : ¬ 0 ≤ g' := by omega
      simp [shf, shv, n1, n2]
theorem SR.raised {s s' : RS} (h : SR P s s') : ER P ⟨2, s.fs.length⟩ ⟨2, s'.fs.length⟩ := by
  refine ⟨rfl, fun _ => ⟨by show (0 : Int) ≤ s.fs.length; omega, ?_⟩, fun q => absurd rfl q⟩
  show (s'.fs.length : Int) = s.fs.length + P.F.length
  rw [h.len]; omega
theorem SR.line {g : Int → Int} (hA : ∀ l l' a, P.LR l l' → P.LR (l ++ [a]) (l' ++ [g a])) {s s' : RS} (h : SR P s s') (k a b : Int) {h0 h1 : Int} (hh : HR P h0 h1) (hk : P.wk = true → k ≠ 3) : RR P (lineS k a b h0 s) (lineS k (if k = 1 then g a else a) b h1 s') := by
  unfold lineS
  by_cases k1 : k = 1
  · simp only [k1, if_true]
    exact ⟨er_same (by show (0 : Int) ≠ 2; decide), h.tell fun q => hA _ _ a q⟩
  simp only [k1, if_false]
  by_cases k2 : k = 2
  · simp only [k2, if_true]
    exact ⟨h.raised, h.raise a b hh⟩
  simp only [k2, if_false]
  by_cases k3 : k = 3
  · simp only [k3, if_true]
    have hw : P.wk = false := by
      cases q : P.wk
      · rfl
      · exact absurd k3 (hk q)
    rcases hh with ⟨g0, rfl⟩ | ⟨g0, g1⟩
    · rw [if_neg (by omega), if_neg (by omega)]
      exact ⟨⟨rfl, fun _ => ⟨g0, rfl⟩, fun q => absurd rfl q⟩, h⟩
    · have g2 : h1 < 0 := by
        rcases g1 with g1 | g1
        · rw [hw] at g1; cases g1
        · exact g1
      rw [if_pos g0, if_pos g2]
      exact ⟨h.raised, h.raise 0 0 (.inr ⟨by decide, .inr (by decide)⟩)⟩
  simp only [k3, if_false]
  by_cases k4 : k = 4
  · simp only [k4, if_true]; exact ⟨er_same (by show (1 : Int) ≠ 2; decide), h⟩
  simp only [k4, if_false]
  by_cases k5 : k = 5
  · simp only [k5, if_true]; exact ⟨er_same (by show (3 : Int) ≠ 2; decide), h⟩
  simp only [k5, if_false]
  by_cases k6 : k = 6
  · simp only [k6, if_true]; exact ⟨er_same (by show (4 : Int) ≠ 2; decide), h⟩
  simp only [k6, if_false]
  exact ⟨er_same (by show (0 : Int) ≠ 2; decide), h⟩
theorem rr_loop {b b' : RS → En × RS} (hb : ∀ s s', SR P s s' → RR P (b s) (b' s')) : ∀ (n : Nat) (s s' : RS), SR P s s' → RR P (loopS b n s) (loopS b' n s')
  | 0, s, s', h => ⟨er_same (by show (0 : Int) ≠ 2; decide), h⟩
  | n + 1, s, s', h => by
    have h1 := hb s s' h
    simp only [loopS]
    rw [h1.1.1]
    split
    · exact h1
    · split
      · exact ⟨er_same (by show (0 : Int) ≠ 2; decide), h1.2⟩
      · exact rr_loop hb n _ _ h1.2
theorem noAg_node {k a b : Int} {kids rest : Fo} (h : noAg (.node k a b kids rest) = true) : k ≠ 3 ∧ noAg kids = true ∧ noAg rest = true := by
  simpa [noAg] using h
end
/-- Runs go alike. -/
theorem sim_run {P : SimP} {g : Int → Int} (hA : ∀ l l' a, P.LR l l' → P.LR (l ++ [a]) (l' ++ [g a])) (hB : ∀ l l' a, P.LR l l' → P.LR (l ++ [a]) (l' ++ [a])) (t : List Class) :
    ∀ (f : Fo) (i i' : Nat) (pd pd' : Option (En × En)) (h h' : Int) (s s' : RS), (P.wk = true → noAg f = true) → PR P pd pd' → HR P h h' → SR P s s' → RR P (runF t f i pd h s) (runF t (mapA g f) i' pd' h' s') := by
  intro f
  induction f with
  | nil =>
    intro i i' pd pd' h h' s s' _ hp _ hs
    cases pd with
    | none =>
      cases pd' with
      | none => exact ⟨er_same (by show (0 : Int) ≠ 2; decide), hs⟩
      | some q' => exact absurd hp id
    | some q =>
      cases pd' with
      | none => exact absurd hp id
      | some q' =>
        simp only [runF, mapA]
        rw [hp.2.1]
        split
        · exact ⟨er_same (by show (0 : Int) ≠ 2; decide), hs⟩
        · exact ⟨hp.2, hs⟩
  | node k a b kids rest ihk ihr =>
    intro i i' pd pd' h h' s s' hn hp hh hs
    have nk : P.wk = true → k ≠ 3 := fun q => (noAg_node (hn q)).1
    have n1 : P.wk = true → noAg kids = true := fun q => (noAg_node (hn q)).2.1
    have n2 : P.wk = true → noAg rest = true := fun q => (noAg_node (hn q)).2.2
    have el : mapA g (.node k a b kids rest) = .node k (if k = 1 then g a else a) b (mapA g kids) (mapA g rest) := rfl
    have hline : k ≠ 7 → RR P ((fun r : En × RS => if r.1.ed = 0 then runF t rest (i + 1 + kids.size) none h r.2 else r) (lineR k a b i h (fun s => runF t kids (i + 1) none h s) s)) ((fun r : En × RS => if r.1.ed = 0 then runF t (mapA g rest) (i' + 1 + (mapA g kids).size) none h' r.2 else r) (lineR k (if k = 1 then g a else a) b i' h' (fun s => runF t (mapA g kids) (i' + 1) none h' s) s')) := by
      intro _
      have h1 : RR P (lineR k a b i h (fun s => runF t kids (i + 1) none h s) s) (lineR k (if k = 1 then g a else a) b i' h' (fun s => runF t (mapA g kids) (i' + 1) none h' s) s') := by
        unfold lineR
        by_cases k11 : k = 11
        · rw [if_pos k11, if_pos k11, if_neg (by omega)]
          have h2 := ihk (i + 1) (i' + 1) none none h h' (s.tell (100 + a)) (s'.tell (100 + a)) n1 trivial hh (hs.tell fun q => hB _ _ _ q)
          unfold withS
          rw [h2.1.1]
          refine ⟨?_, h2.2.tell fun q => hB _ _ _ q⟩
          show ER P (if _ then _ else _) (if _ then _ else _)
          split
          · exact er_same (by show (0 : Int) ≠ 2; decide)
          · exact h2.1
        · rw [if_neg k11, if_neg k11]
          by_cases k12 : k = 12
          · rw [if_pos k12, if_pos k12, if_neg (by omega)]
            exact rr_loop (fun s s' hs => ihk (i + 1) (i' + 1) none none h h' s s' n1 trivial hh hs) _ _ _ hs
          · rw [if_neg k12, if_neg k12]
            exact (hs.jump k i i').line hA k a b hh nk
      generalize lineR k a b i h (fun s => runF t kids (i + 1) none h s) s = r at h1 ⊢
      generalize lineR k (if k = 1 then g a else a) b i' h' (fun s => runF t (mapA g kids) (i' + 1) none h' s) s' = r' at h1 ⊢
      show RR P (if r.1.ed = 0 then _ else r) (if r'.1.ed = 0 then _ else r')
      rw [h1.1.1]
      split
      · exact ihr _ _ none none h h' _ _ n2 trivial hh h1.2
      · exact h1
    have go : ∀ (g0 g1 : Int) (st st' : En) (e e' : En → En), HR P g0 g1 → ER P st st' → (∀ x x', ER P x x' → ER P (e x) (e' x')) → RR P ((fun r : En × RS => runF t rest (i + 1 + kids.size) (some (st, e r.1)) h r.2) (runF t kids (i + 1) none g0 s)) ((fun r : En × RS => runF t (mapA g rest) (i' + 1 + (mapA g kids).size) (some (st', e' r.1)) h' r.2) (runF t (mapA g kids) (i' + 1) none g1 s')) := by
      intro g0 g1 st st' e e' hg hst he
      have h1 := ihk (i + 1) (i' + 1) none none g0 g1 s s' n1 trivial hg hs
      exact ihr _ _ (some _) (some _) h h' _ _ n2 ⟨hst, he _ _ h1.1⟩ hh h1.2
    have htry : RR P ((fun r : En × RS => runF t rest (i + 1 + kids.size) (some (r.1, r.1)) h r.2) (runF t kids (i + 1) none h s)) ((fun r : En × RS => runF t (mapA g rest) (i' + 1 + (mapA g kids).size) (some (r.1, r.1)) h' r.2) (runF t (mapA g kids) (i' + 1) none h' s')) := by
      have h1 := ihk (i + 1) (i' + 1) none none h h' s s' n1 trivial hh hs
      exact ihr _ _ (some _) (some _) h h' _ _ n2 ⟨h1.1, h1.1⟩ hh h1.2
    rw [el]
    cases pd with
    | none =>
      cases pd' with
      | some q' => exact absurd hp id
      | none =>
        simp only [runF]
        split
        · exact htry
        · exact hline ‹_›
    | some q =>
      cases pd' with
      | none => exact absurd hp id
      | some q' =>
        obtain ⟨p1, p2⟩ := hp
        simp only [runF]
        by_cases hk : followsK k = true
        · have hk' := hk
          simp only [followsK, inR, Bool.and_eq_true, decide_eq_true_eq] at hk'
          have k1 : ¬ k = 1 := by omega
          simp only [hk, if_true, k1, if_false]
          have pass : RR P (runF t rest (i + 1 + kids.size) (some q) h s) (runF t (mapA g rest) (i' + 1 + (mapA g kids).size) (some q') h' s') := ihr _ _ (some _) (some _) h h' _ _ n2 ⟨p1, p2⟩ hh hs
          split
          · by_cases hc : q.1.ed = 2
            · have v0 := p1.2.1 hc
              have ec : clsOf s' q'.1.val = clsOf s q.1.val := by rw [v0.2]; exact hs.cls v0.1
              rw [p1.1, ec]
              split
              · exact go _ _ ⟨-1, 0⟩ ⟨-1, 0⟩ (fun e => e) (fun e => e) (.inl v0) (er_same (by show (-1 : Int) ≠ 2; decide)) (fun _ _ h => h)
              · exact pass
            · rw [p1.1, if_neg (fun q => hc q.1), if_neg (fun q => hc q.1)]
              exact pass
          · split
            · rw [p1.1]
              split
              · exact go h h' q.1 q'.1 (fun e => e) (fun e => e) hh p1 (fun _ _ h => h)
              · exact pass
            · refine go _ _ q.1 q'.1 (fun e => if e.ed = 0 then q.2 else e) (fun e => if e.ed = 0 then q'.2 else e) ?_ p1 (fun x x' hx => ?_)
              · rw [p2.1]
                split
                · exact .inl (p2.2.1 ‹_›)
                · exact hh
              · show ER P (if _ then _ else _) (if _ then _ else _)
                rw [hx.1]
                split
                · exact p2
                · exact hx
        · rw [if_neg hk, if_neg hk, p2.1]
          split
          · split
            · exact htry
            · exact hline ‹_›
          · exact ⟨p2, hs⟩
end
section
open Go Go.Sim
set_option maxRecDepth 100000

/-- How lines may end, in a loop or not. -/
def EdOk (lp : Bool) (e : En) : Prop := (e.ed = 0 → e.val = 0) ∧ (e.ed = 0 ∨ e.ed = 1 ∨ e.ed = 2 ∨ (lp = true ∧ (e.ed = 3 ∨ e.ed = 4)))
theorem ed_next (lp : Bool) : EdOk lp .next := ⟨fun _ => rfl, .inl rfl⟩
theorem ed_of {lp : Bool} {e : En} (h : e.ed = 1 ∨ e.ed = 2) : EdOk lp e := ⟨fun q => by omega, by omega⟩
theorem EdOk.up {e : En} {lp : Bool} (h : EdOk false e) : EdOk lp e := ⟨h.1, by have := h.2; simp at this; omega⟩
theorem ed_loop {b : RS → En × RS} (hb : ∀ s, EdOk true (b s).1) {lp : Bool} : ∀ (n : Nat) (s : RS), EdOk lp (loopS b n s).1
  | 0, s => ed_next lp
  | n + 1, s => by
    simp only [loopS]
    split
    · exact ed_of ‹_›
    · split
      · exact ed_next lp
      · exact ed_loop hb n _
theorem ed_lineS {k a b h : Int} {s : RS} {lp : Bool} (hk : k = 5 ∨ k = 6 → lp = true) : EdOk lp (lineS k a b h s).1 := by
  unfold lineS
  split
  · exact ed_next lp
  · split
    · exact ed_of (.inr rfl)
    · split
      · split
        · exact ed_of (.inr rfl)
        · exact ed_of (.inr rfl)
      · split
        · exact ed_of (.inl rfl)
        · split
          · exact ⟨fun _ => rfl, .inr (.inr (.inr ⟨hk (by omega), .inl rfl⟩))⟩
          · split
            · exact ⟨fun _ => rfl, .inr (.inr (.inr ⟨hk (by omega), .inr rfl⟩))⟩
            · exact ed_next lp
theorem ed_run (t : List Class) : ∀ (f : Fo) (lp : Bool) (i : Nat) (pd : Option (En × En)) (h : Int) (s : RS), okF f lp pd.isSome = true → (∀ q, pd = some q → EdOk lp q.2) → EdOk lp (runF t f i pd h s).1 := by
  intro f
  induction f with
  | nil =>
    intro lp i pd h s _ hq
    cases pd with
    | none => exact ed_next lp
    | some q =>
      simp only [runF]
      split
      · exact ed_next lp
      · exact hq q rfl
  | node k a b kids rest ihk ihr =>
    intro lp i pd h s hok hq
    have none_case : ∀ (i : Nat) (s : RS), okF (.node k a b kids rest) lp false = true → EdOk lp (runF t (.node k a b kids rest) i none h s).1 := by
      intro i s hok
      rcases okF_node hok with ⟨_, q, _⟩ | ⟨hf, ⟨h7, _, o1, o2⟩ | ⟨h7, o1, o2, o3, o4⟩⟩
      · cases q
      · subst h7
        rw [runF_try]
        exact ihr lp _ (some _) h _ o2 (fun q hq => by cases hq; exact ihk lp _ none h s o1 (fun q hq => by cases hq))
      · rw [runF_line h7]
        have hl : EdOk lp (lineR k a b i h (fun s => runF t kids (i + 1) none h s) s).1 := by
          unfold lineR
          by_cases k11 : k = 11
          · rw [if_pos k11]
            have h1 := ihk lp (i + 1) none h (s.tell (100 + a)) (o2 k11) (fun q hq => by cases hq)
            show EdOk lp (if _ then _ else _)
            split
            · exact ed_next lp
            · exact h1
          · rw [if_neg k11]
            by_cases k12 : k = 12
            · rw [if_pos k12]
              exact ed_loop (fun s => ihk true (i + 1) none h s (o3 k12) (fun q hq => by cases hq)) _ _
            · rw [if_neg k12]
              exact ed_lineS o4
        generalize lineR k a b i h (fun s => runF t kids (i + 1) none h s) s = r at hl ⊢
        show EdOk lp (if r.1.ed = 0 then _ else r).1
        split
        · exact ihr lp _ none h _ o1 (fun q hq => by cases hq)
        · exact hl
    cases pd with
    | none => exact none_case i s hok
    | some q =>
      have hq2 := hq q rfl
      rcases okF_node hok with ⟨hf, _, o1, o2⟩ | ⟨hf, _⟩
      · simp only [runF, hf, if_true]
        have go : ∀ (g : Int) (st : En) (e : En → En), (∀ x, EdOk lp x → EdOk lp (e x)) → EdOk lp ((fun r : En × RS => runF t rest (i + 1 + kids.size) (some (st, e r.1)) h r.2) (runF t kids (i + 1) none g s)).1 := by
          intro g st e he
          exact ihr lp _ (some _) h _ o2 (fun q hq => by cases hq; exact he _ (ihk lp _ none g s o1 (fun q hq => by cases hq)))
        split
        · split
          · exact go q.1.val ⟨-1, 0⟩ (fun e => e) (fun _ h => h)
          · exact ihr lp _ (some _) h _ o2 (fun q' hq' => by cases hq'; exact hq2)
        · split
          · split
            · exact go h q.1 (fun e => e) (fun _ h => h)
            · exact ihr lp _ (some _) h _ o2 (fun q' hq' => by cases hq'; exact hq2)
          · refine go _ q.1 (fun e => if e.ed = 0 then q.2 else e) (fun x hx => ?_)
            show EdOk lp (if _ then _ else _)
            split
            · exact hq2
            · exact hx
      · have hno : headNo (.node k a b kids rest) = true := by simp [headNo, hf]
        rw [show q = (q.1, q.2) from rfl, runF_no hno]
        split
        · refine none_case i s ?_
          have : okF (.node k a b kids rest) lp true = okF (.node k a b kids rest) lp false := by simp only [okF, hf]; rfl
          rw [← this]; exact hok
        · exact hq2
theorem ed_top {t : List Class} {p : List Line} (h : ValidP t p) : ((runP t p).1.ed = 0 → (runP t p).1.val = 0) ∧ ((runP t p).1.ed = 0 ∨ (runP t p).1.ed = 1 ∨ (runP t p).1.ed = 2) := by
  obtain ⟨h1, h2, h3, h4, h5, h6⟩ := validP_forest h
  have := ed_run t (forestP p) false 0 none (-1) rs0 h4 (fun q hq => by cases hq)
  obtain ⟨a1, a2⟩ := this
  refine ⟨a1, ?_⟩
  have e : (runF t (forestP p) 0 none (-1) rs0).1.ed = (runP t p).1.ed := rfl
  simp at a2; omega

/-- Runs that are the same but for where the first jump is. -/
def REq (r r' : En × RS) : Prop := r'.1 = r.1 ∧ r'.2.log = r.2.log ∧ r'.2.fs = r.2.fs
theorem REq.refl (r : En × RS) : REq r r := ⟨rfl, rfl, rfl⟩
theorem REq.symm {r r' : En × RS} (h : REq r r') : REq r' r := ⟨h.1.symm, h.2.1.symm, h.2.2.symm⟩
theorem REq.trans {r r' r'' : En × RS} (h : REq r r') (g : REq r' r'') : REq r r'' := ⟨g.1.trans h.1, g.2.1.trans h.2.1, g.2.2.trans h.2.2⟩
theorem REq.res {r r' : En × RS} (h : REq r r') : resOf r' = resOf r := by
  unfold resOf
  rw [h.1, h.2.1, h.2.2]
/-- Logs and faults go on behind others. -/
abbrev behind (L : List Int) (F : List Fault) (wk : Bool) : SimP := ⟨fun l l' => l' = L ++ l, F, wk⟩
theorem sim_behind (L : List Int) (F : List Fault) (wk : Bool) (t : List Class) (f : Fo) (i i' : Nat) (h h' : Int) (s s' : RS) (hn : wk = true → noAg f = true) (hh : HR (behind L F wk) h h') (hs : SR (behind L F wk) s s') : RR (behind L F wk) (runF t f i none h s) (runF t f i' none h' s') := by
  have := sim_run (P := behind L F wk) (g := fun a => a) (fun l l' a q => by show _ = _; rw [show l' = L ++ l from q, List.append_assoc]) (fun l l' a q => by show _ = _; rw [show l' = L ++ l from q, List.append_assoc]) t f i i' none none h h' s s' hn trivial hh hs
  rwa [mapA_id] at this
theorem sr_zero {s s' : RS} (h1 : s'.log = s.log) (h2 : s'.fs = s.fs) : SR (behind [] [] false) s s' :=
  have e : shf (behind [] [] false).F.length = fun x => x := funext shf_zero
  ⟨h1, s'.fs, rfl, (fun q => by cases q), (fun _ => by rw [h2, e, List.map_id'])⟩
theorem rr_zero {r r' : En × RS} (h : RR (behind [] [] false) r r') : REq r r' := by
  obtain ⟨⟨a1, a2, a3⟩, b1, X, b2, b3, b4⟩ := h
  have e : shf (behind [] [] false).F.length = fun x => x := funext shf_zero
  have b5 := b4 rfl
  rw [e, List.map_id'] at b5
  refine ⟨?_, b1, by rw [b2, b5]; rfl⟩
  have hv : r'.1.val = r.1.val := by
    by_cases c : r.1.ed = 2
    · have := (a2 c).2; simpa using this
    · exact a3 c
  cases h1 : r.1; cases h2 : r'.1
  rw [h1, h2] at a1 hv
  simp only at a1 hv
  rw [a1, hv]
theorem run_eq (t : List Class) (f : Fo) (i i' : Nat) (h : Int) (s s' : RS) (h1 : s'.log = s.log) (h2 : s'.fs = s.fs) : REq (runF t f i none h s) (runF t f i' none h s') :=
  rr_zero (sim_behind [] [] false t f i i' h h s s' (fun q => by cases q) (by
    unfold HR
    show (0 ≤ h ∧ h = h + ((0 : Nat) : Int)) ∨ (h < 0 ∧ (false = true ∨ h < 0))
    omega) (sr_zero h1 h2))
/-- A program as a block. -/
def innF (f : Fo) : Fo := if f.isNil = true then .node 0 0 0 .nil .nil else f
def deepL (l : Line) : Line := { l with depth := l.depth + 1 }
def innP (p : List Line) : List Line := if p = [] then [⟨1, 0, 0, 0⟩] else p.map deepL
theorem flat_deepL : ∀ (f : Fo) (d : Int), f.flat (d + 1) = (f.flat d).map deepL
  | .nil, d => rfl
  | .node k a b kids rest, d => by simp only [Fo.flat, flat_deepL kids, flat_deepL rest, List.map_cons, List.map_append]; rfl
theorem isNil_flat (f : Fo) (d : Int) : f.isNil = true ↔ f.flat d = [] := by
  cases f <;> simp [Fo.isNil, Fo.flat]
theorem innF_flat (f : Fo) : (innF f).flat 1 = innP (f.flat 0) := by
  unfold innF innP
  by_cases c : f.isNil = true
  · rw [if_pos c, if_pos ((isNil_flat f 0).1 c)]; rfl
  · rw [if_neg c, if_neg (fun q => c ((isNil_flat f 0).2 q))]
    exact flat_deepL f 0
theorem run_inn (t : List Class) (f : Fo) (i : Nat) (h : Int) (s : RS) : runF t (innF f) i none h s = runF t f i none h s := by
  unfold innF
  by_cases c : f.isNil = true
  · rw [if_pos c]
    cases f with
    | nil => simp [runF, lineR, lineS, RS.jump, jumpsK, inR, En.next]
    | node => simp [Fo.isNil] at c
  · rw [if_neg c]
end
end
end Go.Proofs.YtckipeopgimenaaGreat
