/- Walks and plain laws that the claims of this seat lean on. No condition. -/
import Derived.Test.YtckipeopgimenaaGreatJ4
import Derived.Test.YtckipeopgimenaaGreatJ3
import Derived.Test.YtckipeopgimenaaGreatSimZ
import Derived.Test.YtckipeopgimenaaGreatGrow
import Derived.Test.YtckipeopgimenaaGreatJ2
import Derived.Test.YtckipeopgimenaaGreatSimY
set_option linter.unusedVariables false
set_option linter.unusedSimpArgs false
namespace Go.Proofs.YtckipeopgimenaaGreat
open Go Go.Sim
section
set_option maxRecDepth 100000
attribute [local go_sem ↓] aw_skip aw_ret aw_exit aw_region aw_draw aw_seq aw_block aw_loop aw_cond frz_nil frz_cons sq_normal sq_ret sq_exit exB_normal exB_ret exB_same exB_other retQ_ret retQ_normal ret0_ret ret0_normal ao_nil go1 g_move g_assign g_pick g_build g_load g_binOp g_unOp g_convert g_fieldAddr g_field g_indexAddr g_index g_extract g_lookup g_slice g_nilCheck g_len g_makeFunc h_call h_append h_alloc h_box h_buildSlice h_makeSlice h_store gV i_box i_buildSlice i_move i_assign i_build i_load i_binOp i_unOp i_convert i_fieldAddr i_field i_indexAddr i_index i_extract i_lookup i_makeMap i_mapUpdate i_slice i_nilCheck i_makeFunc i_len i_max i_min i_alloc i_makeSlice i_store i_append i_call i_pick boxI boxA buildSliceI buildSliceA makeSliceA makeMapA allocA storeA p_move p_assign p_pick p_build p_load p_binOp p_unOp p_convert p_fieldAddr p_field p_indexAddr p_index p_extract p_lookup p_makeMap p_mapUpdate p_slice p_nilCheck p_makeFunc p_len p_max p_min p_alloc p_box p_buildSlice p_makeSlice p_store p_append p_call x_nil x_go1 x_g0 x_g1 x_g2 x_g3 x_s0 x_s1 x_s2 x_s3 u_move u_assign u_pick u_build u_load u_binOp u_unOp u_convert u_fieldAddr u_field u_indexAddr u_index u_extract u_lookup u_slice u_nilCheck u_makeFunc u_len u_buildSlice x_s4 x_g4 rq_normal rq_ret rq_exit aw_range
attribute [local go_sem] frzV_sl frzK_some set_none set_other AHeap.set_self set_del set_set cnd_t cnd_f cnd_b retA_one retA_two retA_three retA_four retA_nil gIf_b mrgV_b mrgV_wh mrgV_U gIf_U gIf_wh mrgB_f mrgB_some mrgB_if wh_true wh_false keepA_some keepA_if gD_zero gD_succ gT_some bxA_t bxA_f callA_fn ev_tmp ev_const ev_global ev_func oc_bool oc_int oc_string oc_nil oc_nilptr oc_nilfunc cl_bool cl_int cl_string cl_nil updO_some updO_none upd_same upd_other init_at pickA_b pickA_wh selA_t selA_f selA_and selA_or selA_orn selA_orm selA_bb selA_ii beqt b_add b_sub b_mul b_and b_or b_xor b_eql b_neq b_lss b_leq b_gtr b_geq b_quo b_rem b_shr b_seql b_sneq b_sadd b_beql b_bneq b_aeql b_aneq u_not u_neg isConstOp eqA eqCellV List.getD_cons_zero List.getD_cons_succ List.map_cons List.map_nil List.nil_append List.cons_append List.append_nil if_true if_false Option.map_some Option.map_none ne_eq not_false_eq_true oneA ldv ld1v ld1s wr1s ldRow stRow row_lit row_agg row_vsl row_sl row_ptr row_fn one_I one_B one_S one_vsl one_sl one_ptr one_fn extractA okA rI rS rU rClass rFault rExit rStart rLine Int.toNat_natCast List.length_cons List.length_nil List.length_map List.all_cons List.all_nil Bool.and_true Nat.zero_add List.getElem?_cons_zero List.getElem?_cons_succ List.take_succ_cons List.take_zero List.drop_succ_cons List.drop_zero and_self true_and and_true implies_true decide_eq_true_eq decide_eq_false_iff_not Bool.or_eq_true Bool.or_eq_false_iff Bool.and_eq_true Bool.not_eq_true' Bool.not_eq_false' beq_false decide_true decide_false Int.ofNat_lt Int.ofNat_le Int.natCast_nonneg Bool.or_true Bool.or_false Bool.true_or Bool.false_or beq_self_eq_true List.drop_one Bool.not_true Bool.not_false Bool.not_not Bool.false_eq_true Bool.true_eq_false false_implies true_implies Bool.true_and Bool.false_and Bool.and_false not_true_eq_false Int.natCast_eq_zero Int.natCast_pos Int.natCast_zero false_and and_false or_false false_or or_true true_or Bool.or_self none_le_iff List.replicate_zero Int.toNat_zero List.replicate_succ buildRows List.set_cons_zero List.set_cons_succ List.set_nil List.mapM_nil maxLen_eq Nat.zero_le Nat.mul_one Nat.one_mul bldA fillA spliceA List.take_nil List.drop_nil List.getElem?_nil ld1o wr1o bldSliceA le_same cv_i cvI_t quietT_fn qvd_some ld_o ldO_1 ldO_l wr_o wrO_1 set_2 set_3 set_4 putL_nil putL_cons List.zip_cons_cons List.zip_nil_left List.zip_nil_right List.toList_toArray frzV_set ti1 ti2 tk2 ti3 te3 ts3 tk3 tz3 ti4 tb4 ti5 tk5 tz5 ti9 te9 ts9 tk9 tz9 ti12 tk12 ti13 tp13 tf13_0 tf13_1 ti20 ti21 tk21 tz21 ti22 te22 tz22 ti23 te23 ti24 tp24 tf24_0 ti25 tp25 tf25_0 ti26 te26 ti28 ti29 te29 ti30 te30 ti31 tp31 tf31_0 ti32 tp32 tf32_0 ti33 tp33 tf33_0 tf33_1 tf33_2 tf33_3 ti34 tp34 tf34_0 tf34_1 tf34_2 tf34_3 ti35 ti36 ti37 ti38 ti40 ti42 ti43 ti44 tq44 tp44 tf44_0 tf44_1 tf44_2 ti45 tq45 tp45 tf45_0 tf45_1 tf45_2 ti47 ti48 ti49 tq49 tp49 tf49_0 tf49_1 tf49_2 tf49_3 ti50 tq50 tp50 tf50_0 tf50_1 tf50_2 tf50_3 ti51 ti52 ti54 ti55 ti56 ti57 te57 ti59 ti60 ti61 ti62 ti63 ti64 ti65 ti66 ti67 ti68 tq68 tp68 tf68_0 tf68_1 ti69 tq69 tp69 tf69_0 tf69_1 ti70 ti71 ti72 ti73 ti74 ti75 ti77 ti78 ti79 ti80 ti81 ti82 ti83 ti84 ti85 tq85 tp85 tf85_0 tf85_1 tf85_2 tf85_3 tf85_4 ti86 tq86 tp86 tf86_0 tf86_1 tf86_2 tf86_3 tf86_4 ti87 ti88 ti89 ti90 ti91 ti93 ti94 ti95 ti96 ti97 tq97 tp97 tf97_0 tf97_1 tf97_2 ti98 tq98 tp98 tf98_0 tf98_1 tf98_2 ti99 ti100 ti101 ti102 ti103 ti104 ti105 ti106 ti107 tp107 tf107_0 tf107_1 ti108 tp108 tf108_0 tf108_1 ti109 tp109 tf109_0 tf109_1 tf109_2 tf109_3 tf109_4 ti110 tp110 tf110_0 tf110_1 tf110_2 tf110_3 tf110_4 ti111 ti113 ti114 ti115 ti116 ti117 ti118 ti119 ti120 tp120 tf120_0 tf120_1 tf120_2 tf120_3 ti121 tp121 tf121_0 tf121_1 tf121_2 tf121_3 ti122 tq122 tp122 tf122_0 tf122_1 ti123 tq123 tp123 tf123_0 tf123_1 ti124 ti125 ti126 tq126 tp126 tf126_0 tf126_1 ti127 tq127 tp127 tf127_0 tf127_1 ti128 ti129 ti130 ti131 ti132 ti133 te133 ti134 ti135 ti136 ti137 ti138 ti139 ti140 ti141 ti142 ti143 ti144 tp144 tf144_0 tf144_1 tf144_2 ti145 tp145 tf145_0 tf145_1 tf145_2 ti146 ti147 ti148 ti149 ti150 te150 ti151 ti152 ti153 ti154 ti155 ti156 ti157 ti158 ti159 ti160 ti161 ti162 ti163 ti164 ti165 ti166 ti167 ti168 ti169 ti170 ti171 ti172 ti173 ti174 ti175 tk175 tz175 ti176 ti177 ti178 ti179 ti180 tk180 ti182 ti183 ti184 ti186 ti187 ti188 tk188 tz188 ti189 ti190 tk190 tz190 ti191 tk191 ti192 ti193 ti194 ti195 ti196 ti197 ti199 ti200 ti206 ti210 ti215 fp13_0 fv13_0 fp13_1 fv13_1 fp24_0 fv24_0 fp25_0 fv25_0 fp31_0 fv31_0 fp32_0 fv32_0 fp33_0 fv33_0 fp33_1 fv33_1 fp33_2 fv33_2 fp33_3 fv33_3 fp34_0 fv34_0 fp34_1 fv34_1 fp34_2 fv34_2 fp34_3 fv34_3 fp44_0 fv44_0 fp44_1 fv44_1 fp44_2 fv44_2 fp45_0 fv45_0 fp45_1 fv45_1 fp45_2 fv45_2 fp49_0 fv49_0 fp49_1 fv49_1 fp49_2 fv49_2 fp49_3 fv49_3 fp50_0 fv50_0 fp50_1 fv50_1 fp50_2 fv50_2 fp50_3 fv50_3 fp68_0 fv68_0 fp68_1 fv68_1 fp69_0 fv69_0 fp69_1 fv69_1 fp85_0 fv85_0 fp85_1 fv85_1 fp85_2 fv85_2 fp85_3 fv85_3 fp85_4 fv85_4 fp86_0 fv86_0 fp86_1 fv86_1 fp86_2 fv86_2 fp86_3 fv86_3 fp86_4 fv86_4 fp97_0 fv97_0 fp97_1 fv97_1 fp97_2 fv97_2 fp98_0 fv98_0 fp98_1 fv98_1 fp98_2 fv98_2 fp107_0 fv107_0 fp107_1 fv107_1 fp108_0 fv108_0 fp108_1 fv108_1 fp109_0 fv109_0 fp109_1 fv109_1 fp109_2 fv109_2 fp109_3 fv109_3 fp109_4 fv109_4 fp110_0 fv110_0 fp110_1 fv110_1 fp110_2 fv110_2 fp110_3 fv110_3 fp110_4 fv110_4 fp120_0 fv120_0 fp120_1 fv120_1 fp120_2 fv120_2 fp120_3 fv120_3 fp121_0 fv121_0 fp121_1 fv121_1 fp121_2 fv121_2 fp121_3 fv121_3 fp122_0 fv122_0 fp122_1 fv122_1 fp123_0 fv123_0 fp123_1 fv123_1 fp126_0 fv126_0 fp126_1 fv126_1 fp127_0 fv127_0 fp127_1 fv127_1 fp144_0 fv144_0 fp144_1 fv144_1 fp144_2 fv144_2 fp145_0 fv145_0 fp145_1 fv145_1 fp145_2 fv145_2 lv22 ll22 is22 ix22 sh22 so22 sb22 sm22 sp22 lv23 ll23 is23 ix23 sh23 so23 sb23 sm23 sp23 lv26 ll26 is26 ix26 sh26 so26 sb26 sm26 sp26 lv29 ll29 is29 ix29 sh29 so29 sb29 sm29 sp29 lv30 ll30 is30 ix30 sh30 so30 sb30 sm30 sp30 lv57 ll57 is57 ix57 sh57 so57 sb57 sm57 sp57 lv133 ll133 is133 sp133 lv150 ll150 is150 ix150 sh150 so150 sb150 sm150 sp150 xs9 ls9 sx9 sy9 sz9
section
open Go Go.Sim
set_option maxRecDepth 100000
set_option maxHeartbeats 4000000

section
variable {F H : AHeap} {bm c6 c7 c8 : Nat} {t p : AV} {log : List Int} {fs : List Fault} {first : Int} {K6 K7 K8 : ABlk}
theorem mach_in3 (hM : Mach F H bm t p log fs first) (h6 : H c6 = none) (h7 : H c7 = none) (h8 : H c8 = none) (d67 : ¬ c7 = c6) (d68 : ¬ c8 = c6) (d78 : ¬ c8 = c7) :
    Mach (((F.set c6 K6).set c7 K7).set c8 K8) (((H.set c6 K6).set c7 K7).set c8 K8) bm t p log fs first :=
  mach_in (mach_in (mach_in hM h6) (by rw [set_other d67]; exact h7)) (by rw [set_other d78, set_other d68]; exact h8)
theorem mach_out3 (hM : Mach (((F.set c6 K6).set c7 K7).set c8 K8) H bm t p log fs first) (h6 : F c6 = none) (h7 : F c7 = none) (h8 : F c8 = none) (d67 : ¬ c7 = c6) (d68 : ¬ c8 = c6) (d78 : ¬ c8 = c7) :
    ∃ H', H = ((H'.set c6 K6).set c7 K7).set c8 K8 ∧ Mach F H' bm t p log fs first ∧ H' c6 = none ∧ H' c7 = none ∧ H' c8 = none := by
  obtain ⟨H1, rfl, m1, n1⟩ := mach_out hM (by rw [set_other d78, set_other d68]; exact h8)
  obtain ⟨H2, rfl, m2, n2⟩ := mach_out m1 (by rw [set_other d67]; exact h7)
  obtain ⟨H3, rfl, m3, n3⟩ := mach_out m2 h6
  rw [set_other d78, set_other d68] at n1
  rw [set_other d67] at n2
  exact ⟨H3, rfl, m3, n3, n2, n1⟩
end
theorem c_try {t : List Class} {cl : Bool} {P : List Line} {clp : Bool} {n : Nat} (ht : validT t = true) (ih : LinesOk t cl P clp n) {i : Nat} {d k a b h : Int} {kids rest : Fo} {s : RS} {F H : AHeap} {bm : Nat} (cl2 : Bool)
    (hn : kids.size + rest.size < n) (hat : At P i d (.node k a b kids rest)) (hk : numsF t kids (d + 1) = true) (hr : numsF t rest d = true) (hs : FsOk t s.fs) (hh : h < s.fs.length) (hl : s.log.length + (cost kids + cost rest) ≤ 900000) (hf : s.fs.length + (cost kids + cost rest) ≤ 900000) (hM : MachS F H bm t cl P clp s) (hp : P.length ≤ 4398046511104) :
    ACalls Tryz.prog 79 [.ptr bm 5 0 0, .vsl ((toI (i :: chainN rest (i + 1 + kids.size))).map rI) cl2, I h] H fun r H' =>
      r = .agg (rEn (chainR t rest (i + 1 + kids.size) (runF t kids (i + 1) none h s).1 (runF t kids (i + 1) none h s).1 h (runF t kids (i + 1) none h s).2).1) ∧
      MachS F H' bm t cl P clp (chainR t rest (i + 1 + kids.size) (runF t kids (i + 1) none h s).1 (runF t kids (i + 1) none h s).1 h (runF t kids (i + 1) none h s).2).2 := by
  have ed : ∀ k : Nat, (toI (i :: chainN rest (i + 1 + kids.size))).drop k = toI ((i :: chainN rest (i + 1 + kids.size)).drop k) := fun k => toI_drop _ _
  have e0 : (i :: chainN rest (i + 1 + kids.size)).getD 0 default = i := rfl
  refine acalls_of1 Tryz.func79 rfl (by kernel_rfl) rfl rfl (awp_sound (fz := fun r => if r = 6 then [11] else if r = 19 then [13] else []) (im := fun _ => false) mixed _ _ _ _ (by kernel_rfl) ?_)
  simp +contextual -dsimp -implicitDefEqProofs (maxSteps := 5000000) only [go_sem, reduceIte, reduceCtorEq, Nat.reduceEqDiff, Nat.reduceBEq, Nat.reduceAdd, Nat.reduceLeDiff, Nat.reduceMul, Nat.reduceLT, Int.reduceEq, Int.reduceLT, Int.reduceLE, toI_len, toI_at, List.length_cons, e0]
  intro b6 hb6
  have hF6 := mach_none hM hb6
  have hgo := goes_run ht kids (i + 1) none (d + 1) h s hk hs hh trivial
  have hgl := hgo.len
  refine ⟨by omega, by omega, ?_⟩
  refine (c_block ih (by omega) hat hk hs hh (by omega) (by omega) (mach_in (K := ⟨2, 69, [[I 0, I 0]]⟩) hM hb6) hp).mono ?_
  rintro _ H3 ⟨rfl, hM3⟩
  generalize runF t kids (i + 1) none h s = r at hM3 hgo hgl ⊢
  obtain ⟨H4, rfl, hM4, hn4⟩ := mach_out hM3 hF6
  simp +contextual -dsimp -implicitDefEqProofs (maxSteps := 5000000) only [go_sem, reduceIte, reduceCtorEq, Nat.reduceEqDiff, Nat.reduceBEq, Nat.reduceAdd, Nat.reduceLeDiff, Nat.reduceMul, Nat.reduceLT, Int.reduceEq, Int.reduceLT, Int.reduceLE, rEn]
  rintro b7 ⟨d76, d67, n7⟩ b8 ⟨d87, d78, d86, d68, n8⟩
  rw [show (1 : Int).toNat = 1 from rfl, ed, List.drop_succ_cons, List.drop_zero, toI_len]
  refine ⟨by rw [List.length_cons]; omega, ?_⟩
  have hrat := hat.rest
  have hF7 : F b7 = none := mach_none hM4 n7
  have hF8 : F b8 = none := mach_none hM4 n8
  generalize i + 1 + kids.size = j at hrat ⊢
  have hch := chain_len rest j
  have hrl := hrat.len
  refine aloop mixed (fz := fun r => if r = 6 then [11] else if r = 19 then [13] else []) (im := fun _ => false) (by kernel_rfl) (fun m tm H' => ∃ (g : Fo) (q x : Nat) (st e : En) (s' : RS) (H'' : AHeap), m = g.size ∧ At P q d g ∧ numsF t g d = true ∧ g.size ≤ rest.size ∧ (chainN rest j).drop x = chainN g q ∧ x ≤ (chainN rest j).length ∧ FsOk t s'.fs ∧ s.fs.length ≤ s'.fs.length ∧ PdOk s' (some (st, e)) ∧ s'.log.length + cost g ≤ 900000 ∧ s'.fs.length + cost g ≤ 900000 ∧ chainR t rest j r.1 r.1 h r.2 = chainR t g q st e h s' ∧
      H' = ((H''.set b6 ⟨2, 69, [[I 0, I 0]]⟩).set b7 ⟨2, 69, [rEn e]⟩).set b8 ⟨2, 69, [rEn st]⟩ ∧ H'' b6 = none ∧ H'' b7 = none ∧ H'' b8 = none ∧ MachS F H'' bm t cl P clp s' ∧
      tm 0 = .ptr bm 5 0 0 ∧ tm 2 = I h ∧ tm 6 = .ptr b6 2 0 0 ∧ tm 7 = .ptr b7 2 0 0 ∧ tm 8 = .ptr b8 2 0 0 ∧ tm 22 = .vsl ((toI (chainN rest j)).map rI) cl2 ∧ tm 23 = I (chainN rest j).length ∧ tm 24 = I x) rest.size ⟨rest, j, 0, r.1, r.1, r.2, H4, rfl, hrat, hr, Nat.le_refl _, rfl, Nat.zero_le _, hgo.ok, hgl.1, ⟨hgo.val, hgo.val⟩, by omega, by omega, rfl, rfl, hn4, n7, n8, hM4, ?_⟩ ?_
  · simp +contextual -dsimp -implicitDefEqProofs (maxSteps := 5000000) only [go_sem, reduceIte, reduceCtorEq, Nat.reduceEqDiff, Nat.reduceBEq, Nat.reduceAdd, Nat.reduceLeDiff, Nat.reduceMul, Nat.reduceLT, Int.reduceEq, Int.reduceLT, Int.reduceLE, rEn]
    rw [toI_len]
  · rintro m tm _ ⟨g, q, x, st, e, s', H'', rfl, hgat, hgn, hgs, hdx, hxl, hs', hsl, hpd, bl, bf, he, rfl, h6, h7, h8, hM', t0, t2, t6, t7, t8, t22, t23, t24⟩
    have hexit : chainN g q = [] → chainR t g q st e h s' = (e, s') := by
      intro hq
      cases g with
      | nil => rfl
      | node k2 a2 b2 ks re =>
        simp only [chainN] at hq
        split at hq
        · cases hq
        · rename_i hk2
          simp only [chainR]; rw [if_neg hk2]
    cases hcq : chainN g q with
    | nil =>
      rw [hcq] at hdx
      have hx := drop_nil hdx
      rw [he, hexit hcq]
      simp +contextual -dsimp -implicitDefEqProofs (maxSteps := 5000000) only [go_sem, reduceIte, reduceCtorEq, Nat.reduceEqDiff, Nat.reduceBEq, Nat.reduceAdd, Nat.reduceLeDiff, Nat.reduceMul, Nat.reduceLT, Int.reduceEq, Int.reduceLT, Int.reduceLE, rEn, d76, d67, d87, d78, d86, d68, t0, t2, t6, t7, t8, t22, t23, t24, hx]
      refine retR_less (l := [.agg (rEn e)]) (H' := H'') ?_ (le_s1 (le_s1 (le_s1 (AHeap.le_refl _) h6) h7) h8) ⟨rfl, hM'⟩
      simp only [resA, go_sem, reduceIte, reduceCtorEq, Nat.reduceEqDiff, Nat.reduceBEq, Nat.reduceAdd, Nat.reduceLeDiff, Nat.reduceMul, Nat.reduceLT, Int.reduceEq, Int.reduceLT, Int.reduceLE, rEn, d76, d67, d87, d78, d86, d68, t6]
    | cons q' tl =>
      cases g with
      | nil => simp [chainN] at hcq
      | node k2 a2 b2 ks re =>
        have hk2 : followsK k2 = true := by
          simp only [chainN] at hcq
          split at hcq
          · assumption
          · cases hcq
        have hdx' : (chainN rest j).drop x = q :: chainN re (q + 1 + ks.size) := by
          rw [hdx]; simp only [chainN]; rw [if_pos hk2]
        obtain ⟨hx1, hx2, hx3⟩ := drop_cons hdx'
        have hf' := hk2
        simp only [followsK, inR, Bool.and_eq_true, decide_eq_true_eq] at hf'
        obtain ⟨n1, n2, n3, n4, n5⟩ := numsF_node hgn
        have hc := cost_node_le (k := k2) (a := a2) (b := b2) (kids := ks) (rest := re) (by omega)
        have hh2 := hgat.head
        have hsz : (Fo.node k2 a2 b2 ks re).size = 1 + ks.size + re.size := rfl
        have hch2 : chainR t (.node k2 a2 b2 ks re) q st e h s' = chainR t (.node k2 a2 b2 ks re) q st e h s' := rfl
        conv at hch2 => rhs; simp only [chainR]; rw [if_pos hk2]
        obtain ⟨xl, xf, H1, H2, hFm, hg1, hg2, hb, rfl⟩ := id hM'
        have h6' := h6
        have h7' := h7
        have h8' := h8
        rw [set_none] at h6' h7' h8'
        obtain ⟨m1, m2, m3⟩ := h6'
        obtain ⟨m4, m5, m6⟩ := h7'
        obtain ⟨m7, m8, m9⟩ := h8'
        have hgol : h < s'.fs.length := by omega
        have adv : ∀ (SZ : Nat) (st' e' : En) (s'' : RS) (H3 : AHeap), re.size < SZ → chainR t (.node k2 a2 b2 ks re) q st e h s' = chainR t re (q + 1 + ks.size) st' e' h s'' → FsOk t s''.fs → s.fs.length ≤ s''.fs.length → PdOk s'' (some (st', e')) → s''.log.length + cost re ≤ 900000 → s''.fs.length + cost re ≤ 900000 → H3 b6 = none → H3 b7 = none → H3 b8 = none → MachS F H3 bm t cl P clp s'' →
            ∃ m', m' < SZ ∧ ∃ (g : Fo) (q x_1 : Nat) (st_1 e_1 : En) (s'_1 : RS) (H'' : AHeap), m' = g.size ∧ At P q d g ∧ numsF t g d = true ∧ g.size ≤ rest.size ∧ (chainN rest j).drop x_1 = chainN g q ∧ x_1 ≤ (chainN rest j).length ∧ FsOk t s'_1.fs ∧ s.fs.length ≤ s'_1.fs.length ∧ PdOk s'_1 (some (st_1, e_1)) ∧ s'_1.log.length + cost g ≤ 900000 ∧ s'_1.fs.length + cost g ≤ 900000 ∧ chainR t rest j r.1 r.1 h r.2 = chainR t g q st_1 e_1 h s'_1 ∧
              ((H3.set b6 ⟨2, 69, [[I 0, I 0]]⟩).set b7 ⟨2, 69, [[I e'.ed, I e'.val]]⟩).set b8 ⟨2, 69, [[I st'.ed, I st'.val]]⟩ = ((H''.set b6 ⟨2, 69, [[I 0, I 0]]⟩).set b7 ⟨2, 69, [[I e_1.ed, I e_1.val]]⟩).set b8 ⟨2, 69, [[I st_1.ed, I st_1.val]]⟩ ∧ H'' b6 = none ∧ H'' b7 = none ∧ H'' b8 = none ∧ MachS F H'' bm t cl P clp s'_1 ∧ AV.lit (.int .i64 (IntKind.i64.wrap ((x : Int) + 1))) = I x_1 :=
          fun SZ st' e' s'' H3 q1 q2 q3 q4 q5 q6 q7 q8 q9 q10 q11 => ⟨re.size, q1, re, q + 1 + ks.size, x + 1, st', e', s'', H3, rfl, hgat.rest, n5, by omega, hx3, hx1, q3, q4, q5, q6, q7, by rw [he]; exact q2, rfl, q8, q9, q10, q11, I_wrap (by omega) (by omega) (by omega)⟩
        have szl : ∀ k : Int, re.size < (Fo.node k a2 b2 ks re).size := fun k => by simp only [Fo.size]; omega
        by_cases k9 : k2 = 9
        · rw [if_neg (by omega), if_pos k9] at hch2
          by_cases c0 : st.ed = 0
          · rw [if_pos c0] at hch2
            simp +contextual -dsimp -implicitDefEqProofs (maxSteps := 5000000) only [go_sem, reduceIte, reduceCtorEq, Nat.reduceEqDiff, Nat.reduceBEq, Nat.reduceAdd, Nat.reduceLeDiff, Nat.reduceMul, Nat.reduceLT, Int.reduceEq, Int.reduceLT, Int.reduceLE, rEn, d76, d67, d87, d78, d86, d68, m1, m2, m4, m5, m7, m8, t0, t2, t6, t7, t8, t22, t23, t24, toI_len, toI_at, hx1, hx2, hh2.1, hh2.2, k9, c0]
            rintro b11 hb11
            have hgo2 := goes_run ht ks (q + 1) none (d + 1) h s' n4 hs' hgol trivial
            have hgl2 := hgo2.len
            refine (c_block ih (by omega) hgat n4 hs' hgol (by omega) (by omega) (mach_in3 (K6 := ⟨2, 69, [[I 0, I 0]]⟩) (K7 := ⟨2, 69, [rEn e]⟩) (K8 := ⟨2, 69, [[I 0, I st.val]]⟩) hM' h6 h7 h8 d76 d86 d87) hp).mono ?_
            rintro _ H3 ⟨rfl, hM3⟩
            generalize runF t ks (q + 1) none h s' = r2 at hM3 hgo2 hgl2 hch2
            obtain ⟨H5, rfl, hM5, w6, w7, w8⟩ := mach_out3 hM3 hF6 hF7 hF8 d76 d86 d87
            simp +contextual -dsimp -implicitDefEqProofs (maxSteps := 5000000) only [go_sem, reduceIte, reduceCtorEq, Nat.reduceEqDiff, Nat.reduceBEq, Nat.reduceAdd, Nat.reduceLeDiff, Nat.reduceMul, Nat.reduceLT, Int.reduceEq, Int.reduceLT, Int.reduceLE, rEn, d76, d67, d87, d78, d86, d68, m1, m2, m4, m5, m7, m8, t0, t2, t6, t7, t8, t22, t23, t24, toI_len, toI_at, hx1, hx2, hh2.1, hh2.2, k9, c0]
            have fin := adv _ st r2.1 r2.2 H5 (szl 9) hch2 hgo2.ok (by omega) ⟨fun z => absurd (show st.ed = 2 from z) (by omega), hgo2.val⟩ (by omega) (by omega) w6 w7 w8 hM5
            rw [c0] at fin
            exact fin
          · rw [if_neg c0] at hch2
            simp +contextual -dsimp -implicitDefEqProofs (maxSteps := 5000000) only [go_sem, reduceIte, reduceCtorEq, Nat.reduceEqDiff, Nat.reduceBEq, Nat.reduceAdd, Nat.reduceLeDiff, Nat.reduceMul, Nat.reduceLT, Int.reduceEq, Int.reduceLT, Int.reduceLE, rEn, d76, d67, d87, d78, d86, d68, m1, m2, m4, m5, m7, m8, t0, t2, t6, t7, t8, t22, t23, t24, toI_len, toI_at, hx1, hx2, hh2.1, hh2.2, k9, c0]
            rintro b11 hb11
            exact adv _ st e s' _ (szl 9) hch2 hs' hsl hpd (by omega) (by omega) h6 h7 h8 hM'
        · by_cases k8 : k2 = 8
          · rw [if_pos k8] at hch2
            by_cases c2 : st.ed = 2
            · have hsv := hpd.1 c2
              simp only at hsv
              have sv0 := hsv.1
              have sv1 := hsv.2
              have sv2 : st.val.toNat < s'.fs.length := by omega
              have hcl := (hs'.cls st.val.toNat sv2).1
              have hcl2 := hasF_spec hcl
              simp +contextual -dsimp -implicitDefEqProofs (maxSteps := 5000000) only [go_sem, reduceIte, reduceCtorEq, Nat.reduceEqDiff, Nat.reduceBEq, Nat.reduceAdd, Nat.reduceLeDiff, Nat.reduceMul, Nat.reduceLT, Int.reduceEq, Int.reduceLT, Int.reduceLE, rEn, d76, d67, d87, d78, d86, d68, m1, m2, m4, m5, m7, m8, t0, t2, t6, t7, t8, t22, t23, t24, toI_len, toI_at, hx1, hx2, hh2.1, hh2.2, k8, c2]
              rintro b11 hb11
              refine draw_intro [0, 0, 0, 0, 0, 0, 0, 0, 0, 0, 0, 0, 0, 0, 0, 0, 0, 0, 0, 0, 2, 0] AHeap.none (by kernel_rfl) none_le ?_
              rcases hg2 with ⟨ee, _, _⟩ | ⟨bf, clf, hbf, rfl, rfl⟩
              · rw [ee] at sv1; simp at sv1; omega
              have ub := hb
              have u6 := m3
              have u7 := m6
              have u8 := m9
              rw [set_none] at ub u6 u7 u8
              obtain ⟨v1, v2, _⟩ := ub
              obtain ⟨v3, v4, _⟩ := u6
              obtain ⟨v5, v6, _⟩ := u7
              obtain ⟨v7, v8, _⟩ := u8
              simp +contextual -dsimp -implicitDefEqProofs (maxSteps := 5000000) only [go_sem, reduceIte, reduceCtorEq, Nat.reduceEqDiff, Nat.reduceBEq, Nat.reduceAdd, Nat.reduceLeDiff, Nat.reduceMul, Nat.reduceLT, Int.reduceEq, Int.reduceLT, Int.reduceLE, rEn, d76, d67, d87, d78, d86, d68, m1, m2, m4, m5, m7, m8, t0, t2, t6, t7, t8, t22, t23, t24, toI_len, toI_at, hx1, hx2, hh2.1, hh2.2, k8, c2, v1, v2, v3, v4, v5, v6, v7, v8, sv0, sv1, sv2]
              refine (c_is t cl _ a2 _ ht hcl2.2).det ?_
              simp +contextual -dsimp -implicitDefEqProofs (maxSteps := 5000000) only [go_sem, reduceIte, reduceCtorEq, Nat.reduceEqDiff, Nat.reduceBEq, Nat.reduceAdd, Nat.reduceLeDiff, Nat.reduceMul, Nat.reduceLT, Int.reduceEq, Int.reduceLT, Int.reduceLE, rEn, d76, d67, d87, d78, d86, d68, m1, m2, m4, m5, m7, m8, t0, t2, t6, t7, t8, t22, t23, t24, toI_len, toI_at, hx1, hx2, hh2.1, hh2.2, k8, c2, v1, v2, v3, v4, v5, v6, v7, v8, sv0, sv1, sv2]
              refine ⟨fun hq => ?_, fun hq => ?_⟩
              · rw [if_pos ⟨c2, hq⟩] at hch2
                have hgo2 := goes_run ht ks (q + 1) none (d + 1) st.val s' n4 hs' sv1 trivial
                have hgl2 := hgo2.len
                refine (c_block ih (by omega) hgat n4 hs' sv1 (by omega) (by omega) (mach_in3 (K6 := ⟨2, 69, [[I 0, I 0]]⟩) (K7 := ⟨2, 69, [rEn e]⟩) (K8 := ⟨2, 69, [[I 2, I st.val]]⟩) hM' h6 h7 h8 d76 d86 d87) hp).mono ?_
                rintro _ H3 ⟨rfl, hM3⟩
                generalize runF t ks (q + 1) none st.val s' = r2 at hM3 hgo2 hgl2 hch2
                obtain ⟨H5, rfl, hM5, w6, w7, w8⟩ := mach_out3 hM3 hF6 hF7 hF8 d76 d86 d87
                simp +contextual -dsimp -implicitDefEqProofs (maxSteps := 5000000) only [go_sem, reduceIte, reduceCtorEq, Nat.reduceEqDiff, Nat.reduceBEq, Nat.reduceAdd, Nat.reduceLeDiff, Nat.reduceMul, Nat.reduceLT, Int.reduceEq, Int.reduceLT, Int.reduceLE, rEn, d76, d67, d87, d78, d86, d68, m1, m2, m4, m5, m7, m8, t0, t2, t6, t7, t8, t22, t23, t24, toI_len, toI_at, hx1, hx2, hh2.1, hh2.2, k8, c2]
                exact adv _ ⟨-1, 0⟩ r2.1 r2.2 H5 (szl 8) hch2 hgo2.ok (by omega) ⟨(fun z => by cases z), hgo2.val⟩ (by omega) (by omega) w6 w7 w8 hM5
              · rw [if_neg (fun z => by have := z.2; unfold isF clsOf at this; rw [hq] at this; cases this)] at hch2
                have fin := adv _ st e s' _ (szl 8) hch2 hs' hsl hpd (by omega) (by omega) h6 h7 h8 hM'
                rw [c2] at fin
                exact fin
            · rw [if_neg (fun z => c2 z.1)] at hch2
              simp +contextual -dsimp -implicitDefEqProofs (maxSteps := 5000000) only [go_sem, reduceIte, reduceCtorEq, Nat.reduceEqDiff, Nat.reduceBEq, Nat.reduceAdd, Nat.reduceLeDiff, Nat.reduceMul, Nat.reduceLT, Int.reduceEq, Int.reduceLT, Int.reduceLE, rEn, d76, d67, d87, d78, d86, d68, m1, m2, m4, m5, m7, m8, t0, t2, t6, t7, t8, t22, t23, t24, toI_len, toI_at, hx1, hx2, hh2.1, hh2.2, k8, c2]
              rintro b11 hb11
              refine draw_intro [0, 0, 0, 0, 0, 0, 0, 0, 0, 0, 0, 0, 0, 0, 0, 0, 0, 0, 0, 0, 2, 0] AHeap.none (by kernel_rfl) none_le ?_
              simp +contextual -dsimp -implicitDefEqProofs (maxSteps := 5000000) only [go_sem, reduceIte, reduceCtorEq, Nat.reduceEqDiff, Nat.reduceBEq, Nat.reduceAdd, Nat.reduceLeDiff, Nat.reduceMul, Nat.reduceLT, Int.reduceEq, Int.reduceLT, Int.reduceLE, rEn, d76, d67, d87, d78, d86, d68, m1, m2, m4, m5, m7, m8, t0, t2, t6, t7, t8, t22, t23, t24, toI_len, toI_at, hx1, hx2, hh2.1, hh2.2, k8, c2]
              exact adv _ st e s' _ (szl 8) hch2 hs' hsl hpd (by omega) (by omega) h6 h7 h8 hM'
          · have k10 : k2 = 10 := by omega
            rw [if_neg k8, if_neg k9] at hch2
            by_cases c2 : e.ed = 2
            · have hev := hpd.2 c2
              simp only at hev
              rw [if_pos c2] at hch2
              simp +contextual -dsimp -implicitDefEqProofs (maxSteps := 5000000) only [go_sem, reduceIte, reduceCtorEq, Nat.reduceEqDiff, Nat.reduceBEq, Nat.reduceAdd, Nat.reduceLeDiff, Nat.reduceMul, Nat.reduceLT, Int.reduceEq, Int.reduceLT, Int.reduceLE, rEn, d76, d67, d87, d78, d86, d68, m1, m2, m4, m5, m7, m8, t0, t2, t6, t7, t8, t22, t23, t24, toI_len, toI_at, hx1, hx2, hh2.1, hh2.2, k10, c2]
              rintro b11 hb11
              have hgo2 := goes_run ht ks (q + 1) none (d + 1) e.val s' n4 hs' hev.2 trivial
              have hgl2 := hgo2.len
              refine (c_block ih (by omega) hgat n4 hs' hev.2 (by omega) (by omega) (mach_in3 (K6 := ⟨2, 69, [[I 0, I 0]]⟩) (K7 := ⟨2, 69, [[I 2, I e.val]]⟩) (K8 := ⟨2, 69, [rEn st]⟩) hM' h6 h7 h8 d76 d86 d87) hp).mono ?_
              rintro _ H3 ⟨rfl, hM3⟩
              generalize runF t ks (q + 1) none e.val s' = r2 at hM3 hgo2 hgl2 hch2
              obtain ⟨H5, rfl, hM5, w6, w7, w8⟩ := mach_out3 hM3 hF6 hF7 hF8 d76 d86 d87
              by_cases c0 : r2.1.ed = 0
              · rw [if_pos c0] at hch2
                simp +contextual -dsimp -implicitDefEqProofs (maxSteps := 5000000) only [go_sem, reduceIte, reduceCtorEq, Nat.reduceEqDiff, Nat.reduceBEq, Nat.reduceAdd, Nat.reduceLeDiff, Nat.reduceMul, Nat.reduceLT, Int.reduceEq, Int.reduceLT, Int.reduceLE, rEn, d76, d67, d87, d78, d86, d68, m1, m2, m4, m5, m7, m8, t0, t2, t6, t7, t8, t22, t23, t24, toI_len, toI_at, hx1, hx2, hh2.1, hh2.2, k10, c2, c0]
                rintro b13 hb13
                have fin := adv _ st e r2.2 H5 (szl 10) hch2 hgo2.ok (by omega) ⟨fun z => by have := hpd.1 z; simp only at this; show 0 ≤ st.val ∧ st.val < (r2.2.fs.length : Int); omega, fun z => by have := hpd.2 z; simp only at this; show 0 ≤ e.val ∧ e.val < (r2.2.fs.length : Int); omega⟩ (by omega) (by omega) w6 w7 w8 hM5
                rw [c2] at fin
                exact fin
              · rw [if_neg c0] at hch2
                simp +contextual -dsimp -implicitDefEqProofs (maxSteps := 5000000) only [go_sem, reduceIte, reduceCtorEq, Nat.reduceEqDiff, Nat.reduceBEq, Nat.reduceAdd, Nat.reduceLeDiff, Nat.reduceMul, Nat.reduceLT, Int.reduceEq, Int.reduceLT, Int.reduceLE, rEn, d76, d67, d87, d78, d86, d68, m1, m2, m4, m5, m7, m8, t0, t2, t6, t7, t8, t22, t23, t24, toI_len, toI_at, hx1, hx2, hh2.1, hh2.2, k10, c2, c0]
                rintro b13 hb13
                exact adv _ st r2.1 r2.2 H5 (szl 10) hch2 hgo2.ok (by omega) ⟨fun z => by have := hpd.1 z; simp only at this; show 0 ≤ st.val ∧ st.val < (r2.2.fs.length : Int); omega, hgo2.val⟩ (by omega) (by omega) w6 w7 w8 hM5
            · rw [if_neg c2] at hch2
              simp +contextual -dsimp -implicitDefEqProofs (maxSteps := 5000000) only [go_sem, reduceIte, reduceCtorEq, Nat.reduceEqDiff, Nat.reduceBEq, Nat.reduceAdd, Nat.reduceLeDiff, Nat.reduceMul, Nat.reduceLT, Int.reduceEq, Int.reduceLT, Int.reduceLE, rEn, d76, d67, d87, d78, d86, d68, m1, m2, m4, m5, m7, m8, t0, t2, t6, t7, t8, t22, t23, t24, toI_len, toI_at, hx1, hx2, hh2.1, hh2.2, k10, c2]
              rintro b11 hb11
              have hgo2 := goes_run ht ks (q + 1) none (d + 1) h s' n4 hs' hgol trivial
              have hgl2 := hgo2.len
              refine (c_block ih (by omega) hgat n4 hs' hgol (by omega) (by omega) (mach_in3 (K6 := ⟨2, 69, [[I 0, I 0]]⟩) (K7 := ⟨2, 69, [rEn e]⟩) (K8 := ⟨2, 69, [rEn st]⟩) hM' h6 h7 h8 d76 d86 d87) hp).mono ?_
              rintro _ H3 ⟨rfl, hM3⟩
              generalize runF t ks (q + 1) none h s' = r2 at hM3 hgo2 hgl2 hch2
              obtain ⟨H5, rfl, hM5, w6, w7, w8⟩ := mach_out3 hM3 hF6 hF7 hF8 d76 d86 d87
              by_cases c0 : r2.1.ed = 0
              · rw [if_pos c0] at hch2
                simp +contextual -dsimp -implicitDefEqProofs (maxSteps := 5000000) only [go_sem, reduceIte, reduceCtorEq, Nat.reduceEqDiff, Nat.reduceBEq, Nat.reduceAdd, Nat.reduceLeDiff, Nat.reduceMul, Nat.reduceLT, Int.reduceEq, Int.reduceLT, Int.reduceLE, rEn, d76, d67, d87, d78, d86, d68, m1, m2, m4, m5, m7, m8, t0, t2, t6, t7, t8, t22, t23, t24, toI_len, toI_at, hx1, hx2, hh2.1, hh2.2, k10, c2, c0]
                rintro b13 hb13
                exact adv _ st e r2.2 H5 (szl 10) hch2 hgo2.ok (by omega) ⟨fun z => by have := hpd.1 z; simp only at this; show 0 ≤ st.val ∧ st.val < (r2.2.fs.length : Int); omega, fun z => absurd z c2⟩ (by omega) (by omega) w6 w7 w8 hM5
              · rw [if_neg c0] at hch2
                simp +contextual -dsimp -implicitDefEqProofs (maxSteps := 5000000) only [go_sem, reduceIte, reduceCtorEq, Nat.reduceEqDiff, Nat.reduceBEq, Nat.reduceAdd, Nat.reduceLeDiff, Nat.reduceMul, Nat.reduceLT, Int.reduceEq, Int.reduceLT, Int.reduceLE, rEn, d76, d67, d87, d78, d86, d68, m1, m2, m4, m5, m7, m8, t0, t2, t6, t7, t8, t22, t23, t24, toI_len, toI_at, hx1, hx2, hh2.1, hh2.2, k10, c2, c0]
                rintro b13 hb13
                exact adv _ st r2.1 r2.2 H5 (szl 10) hch2 hgo2.ok (by omega) ⟨fun z => by have := hpd.1 z; simp only at this; show 0 ≤ st.val ∧ st.val < (r2.2.fs.length : Int); omega, hgo2.val⟩ (by omega) (by omega) w6 w7 w8 hM5
end
section
open Go Go.Sim
set_option maxRecDepth 100000
set_option maxHeartbeats 4000000

theorem goes_chain {t : List Class} (ht : validT t = true) : ∀ (f : Fo) (i : Nat) (st e : En) (d h : Int) (s : RS), numsF t f d = true → FsOk t s.fs → h < s.fs.length → PdOk s (some (st, e)) →
    ∃ c, c + cost (skipF f) ≤ cost f ∧ Goes t c s (chainR t f i st e h s).1 (chainR t f i st e h s).2
  | .nil, i, st, e, d, h, s, _, hs, _, hp => ⟨0, Nat.le_refl _, goes_self hs hp.2⟩
  | .node k a b kids rest, i, st, e, d, h, s, hn, hs, hh, hp => by
    obtain ⟨n1, n2, n3, n4, n5⟩ := numsF_node hn
    simp only [chainR, skipF]
    by_cases hk : followsK k = true
    · simp only [hk, if_true]
      have hk' := hk
      simp only [followsK, inR, Bool.and_eq_true, decide_eq_true_eq] at hk'
      have hc := cost_node_le (k := k) (a := a) (b := b) (kids := kids) (rest := rest) (by omega)
      have pass : ∀ (q : En × En), PdOk s (some q) → ∃ c, c + cost (skipF rest) ≤ cost (.node k a b kids rest) ∧ Goes t c s (chainR t rest (i + 1 + kids.size) q.1 q.2 h s).1 (chainR t rest (i + 1 + kids.size) q.1 q.2 h s).2 := by
        intro q hq
        obtain ⟨c, h1, h2⟩ := goes_chain ht rest (i + 1 + kids.size) q.1 q.2 d h s n5 hs hh hq
        exact ⟨c, by omega, h2⟩
      have go : ∀ (g : Int) (st : En) (e : En × RS → En), g < s.fs.length → (st.ed = 2 → 0 ≤ st.val ∧ st.val < s.fs.length) → (∀ r : En × RS, (r.1.ed = 2 → 0 ≤ r.1.val ∧ r.1.val < r.2.fs.length) → s.fs.length ≤ r.2.fs.length → (e r).ed = 2 → 0 ≤ (e r).val ∧ (e r).val < r.2.fs.length) →
          ∃ c, c + cost (skipF rest) ≤ cost (.node k a b kids rest) ∧ Goes t c s ((fun r : En × RS => chainR t rest (i + 1 + kids.size) st (e r) h r.2) (runF t kids (i + 1) none g s)).1 ((fun r : En × RS => chainR t rest (i + 1 + kids.size) st (e r) h r.2) (runF t kids (i + 1) none g s)).2 := by
        intro g st e hg hst he
        have h1 := goes_run ht kids (i + 1) none (d + 1) g s n4 hs hg trivial
        generalize runF t kids (i + 1) none g s = r at h1 ⊢
        have hl := h1.len
        obtain ⟨c, h2, h3⟩ := goes_chain ht rest (i + 1 + kids.size) st (e r) d h r.2 n5 h1.ok (by omega) ⟨fun q => by have := hst q; show 0 ≤ st.val ∧ st.val < (r.2.fs.length : Int); omega, he r h1.val hl.1⟩
        exact ⟨cost kids + c, by omega, h1.trans h3 (Nat.le_refl _)⟩
      split
      · split
        · rename_i hq
          exact go st.val ⟨-1, 0⟩ (fun r => r.1) (hp.1 hq.1).2 (fun q => by cases q) (fun r hr _ => hr)
        · exact pass (st, e) hp
      · split
        · split
          · exact go h st (fun r => r.1) hh hp.1 (fun r hr _ => hr)
          · exact pass (st, e) hp
        · refine go _ st (fun r => if r.1.ed = 0 then e else r.1) ?_ hp.1 (fun r hr hl => ?_)
          · split
            · exact (hp.2 ‹_›).2
            · exact hh
          · split
            · exact fun z => by have := hp.2 z; simp only at this; omega
            · exact hr
    · rw [if_neg hk, if_neg hk]
      exact ⟨0, by omega, goes_self hs hp.2⟩
theorem numsF_skip {t : List Class} {d : Int} : ∀ (f : Fo), numsF t f d = true → numsF t (skipF f) d = true
  | .nil, h => h
  | .node k a b kids rest, h => by
    simp only [skipF]
    split
    · exact numsF_skip rest (numsF_node h).2.2.2.2
    · exact h
theorem getD_last (i : Nat) (l : List Nat) : (i :: l).getD l.length default = (i :: l).getLastD 0 := by
  rw [List.getLastD_cons]
  induction l generalizing i with
  | nil => rfl
  | cons x l ih => rw [List.length_cons, List.getD_cons_succ, List.getLastD_cons]; exact ih x
theorem c_linesStep {t : List Class} {cl : Bool} {P : List Line} {clp : Bool} {n : Nat} (ht : validT t = true) (hp : P.length ≤ 4398046511104) (ih : LinesOk t cl P clp n) : LinesOk t cl P clp (n + 1) := by
  intro f i d h s F H bm hfn hat hnf hs hh hl hf hM
  have hfl := hat.len
  refine acalls_of1 Tryz.func36 rfl (by kernel_rfl) rfl rfl (awp_sound (fz := fun r => if r = 12 then [11] else []) (im := fun _ => false) mixed _ _ _ _ (by kernel_rfl) ?_)
  simp +contextual -dsimp -implicitDefEqProofs (maxSteps := 5000000) only [go_sem, reduceIte, reduceCtorEq, Nat.reduceEqDiff, Nat.reduceBEq, Nat.reduceAdd, Nat.reduceLeDiff, Nat.reduceMul, Nat.reduceLT, Int.reduceEq, Int.reduceLT, Int.reduceLE]
  intro b8 hb8
  have hF8 := mach_none hM hb8
  refine aloop mixed (fz := fun r => if r = 12 then [11] else []) (im := fun _ => false) (by kernel_rfl) (fun m tm H' => ∃ (g : Fo) (q : Nat) (s' : RS) (H'' : AHeap), m = g.size ∧ At P q d g ∧ numsF t g d = true ∧ g.size ≤ f.size ∧ q + g.size = i + f.size ∧ FsOk t s'.fs ∧ s.fs.length ≤ s'.fs.length ∧ s'.log.length + cost g ≤ 900000 ∧ s'.fs.length + cost g ≤ 900000 ∧ runF t f i none h s = runF t g q none h s' ∧ H' = H''.set b8 ⟨2, 69, [[I 0, I 0]]⟩ ∧ H'' b8 = none ∧ MachS F H'' bm t cl P clp s' ∧ tm 0 = .ptr bm 5 0 0 ∧ tm 2 = I (i + f.size : Nat) ∧ tm 3 = I h ∧ tm 8 = .ptr b8 2 0 0 ∧ tm 9 = I q) f.size ⟨f, i, s, H, rfl, hat, hnf, Nat.le_refl _, rfl, hs, Nat.le_refl _, hl, hf, rfl, rfl, hb8, hM, ?_⟩ ?_
  · simp +contextual -dsimp -implicitDefEqProofs (maxSteps := 5000000) only [go_sem, reduceIte, reduceCtorEq, Nat.reduceEqDiff, Nat.reduceBEq, Nat.reduceAdd, Nat.reduceLeDiff, Nat.reduceMul, Nat.reduceLT, Int.reduceEq, Int.reduceLT, Int.reduceLE]
  · rintro m tm _ ⟨g, q, s', H'', rfl, hgat, hgn, hgs, hgq, hs', hsl, bl, bf, he, rfl, h8, hM', t0, t2, t3, t8, t9⟩
    cases g with
    | nil =>
      have z : ¬ q < i + f.size := by simp only [Fo.size] at hgq; omega
      rw [he]
      simp +contextual -dsimp -implicitDefEqProofs (maxSteps := 5000000) only [go_sem, reduceIte, reduceCtorEq, Nat.reduceEqDiff, Nat.reduceBEq, Nat.reduceAdd, Nat.reduceLeDiff, Nat.reduceMul, Nat.reduceLT, Int.reduceEq, Int.reduceLT, Int.reduceLE, t0, t2, t3, t8, t9, z]
      refine retR_less (l := [.agg (rEn .next)]) (H' := H'') ?_ (le_set h8) ⟨rfl, hM'⟩
      simp only [resA, go_sem, reduceIte, reduceCtorEq, Nat.reduceEqDiff, Nat.reduceBEq, Nat.reduceAdd, Nat.reduceLeDiff, Nat.reduceMul, Nat.reduceLT, Int.reduceEq, Int.reduceLT, Int.reduceLE, rEn, En.next, t8]
    | node k a b kids rest =>
      have hsz : (Fo.node k a b kids rest).size = 1 + kids.size + rest.size := rfl
      have z : q < i + f.size := by omega
      have hq := hgat.head
      obtain ⟨xl, xf, H1, H2, hFm, hg1, hg2, hb, rfl⟩ := id hM'
      have h8' := h8
      rw [set_none] at h8'
      obtain ⟨m1, m2, m3⟩ := h8'
      obtain ⟨n1, n2, n3, n4, n5⟩ := numsF_node hgn
      simp +contextual -dsimp -implicitDefEqProofs (maxSteps := 5000000) only [go_sem, reduceIte, reduceCtorEq, Nat.reduceEqDiff, Nat.reduceBEq, Nat.reduceAdd, Nat.reduceLeDiff, Nat.reduceMul, Nat.reduceLT, Int.reduceEq, Int.reduceLT, Int.reduceLE, t0, t2, t3, t8, t9, z, m1, m2]
      refine (c_endOf P clp q _ hq.1).det ?_
      rw [hgat.endP]
      simp +contextual -dsimp -implicitDefEqProofs (maxSteps := 5000000) only [go_sem, reduceIte, reduceCtorEq, Nat.reduceEqDiff, Nat.reduceBEq, Nat.reduceAdd, Nat.reduceLeDiff, Nat.reduceMul, Nat.reduceLT, Int.reduceEq, Int.reduceLT, Int.reduceLE, t0, t2, t3, t8, t9, z, m1, m2, hq.1, hq.2]
      rintro b11 ⟨d1, d2, d3, d4, m4⟩
      have h11 : (H2.set bm ⟨5, 110, [[.vsl (t.map rClass) cl, aProg P clp, xl, xf, I s'.first]]⟩) b11 = none := by rw [set_other d3]; exact m4
      have hF11 := mach_none hM' h11
      have adv : ∀ (SZ : Nat) (g' : Fo) (q' : Nat) (s'' : RS) (H3 : AHeap), g'.size < SZ → g'.size ≤ rest.size → At P q' d g' → numsF t g' d = true → q' + g'.size = i + f.size → runF t (.node k a b kids rest) q none h s' = runF t g' q' none h s'' → FsOk t s''.fs → s.fs.length ≤ s''.fs.length → s''.log.length + cost g' ≤ 900000 → s''.fs.length + cost g' ≤ 900000 → H3 b8 = none → MachS F H3 bm t cl P clp s'' →
          ∃ m', m' < SZ ∧ ∃ (g : Fo) (q : Nat) (s' : RS) (H'' : AHeap), m' = g.size ∧ At P q d g ∧ numsF t g d = true ∧ g.size ≤ f.size ∧ q + g.size = i + f.size ∧ FsOk t s'.fs ∧ s.fs.length ≤ s'.fs.length ∧ s'.log.length + cost g ≤ 900000 ∧ s'.fs.length + cost g ≤ 900000 ∧ runF t f i none h s = runF t g q none h s' ∧ H3.set b8 ⟨2, 69, [[I 0, I 0]]⟩ = H''.set b8 ⟨2, 69, [[I 0, I 0]]⟩ ∧ H'' b8 = none ∧ MachS F H'' bm t cl P clp s' ∧ I q' = I q :=
        fun SZ g' q' s'' H3 w1 w0 w2 w3 w4 w5 w6 w7 w8 w9 w10 w11 => ⟨g'.size, w1, g', q', s'', H3, rfl, w2, w3, by omega, w4, w6, w7, w8, w9, by rw [he]; exact w5, rfl, w10, w11, rfl⟩
      have hMin := mach_in (K := ⟨2, 69, [[I 0, I 0]]⟩) (mach_in (K := ⟨2, 69, [[I 0, I 0]]⟩) hM' h8) (show ((H2.set bm _).set b8 _) b11 = none by rw [set_other d1]; exact h11)
      have mout : ∀ (s'' : RS) (H3 : AHeap), MachS ((F.set b8 ⟨2, 69, [[I 0, I 0]]⟩).set b11 ⟨2, 69, [[I 0, I 0]]⟩) H3 bm t cl P clp s'' → ∃ H4, H3 = (H4.set b8 ⟨2, 69, [[I 0, I 0]]⟩).set b11 ⟨2, 69, [[I 0, I 0]]⟩ ∧ MachS F H4 bm t cl P clp s'' ∧ H4 b8 = none ∧ H4 b11 = none := by
        intro s'' H3 hM3
        obtain ⟨H4, rfl, hM4, w1⟩ := mach_out hM3 (by rw [set_other d1]; exact hF11)
        obtain ⟨H5, rfl, hM5, w2⟩ := mach_out hM4 hF8
        rw [set_other d1] at w1
        exact ⟨H5, rfl, hM5, w2, w1⟩
      by_cases k7 : k = 7
      · subst k7
        have hc : cost (.node 7 a b kids rest) = 2 + cost kids + cost rest := cost_node_le (by omega)
        simp +contextual -dsimp -implicitDefEqProofs (maxSteps := 5000000) only [go_sem, reduceIte, reduceCtorEq, Nat.reduceEqDiff, Nat.reduceBEq, Nat.reduceAdd, Nat.reduceLeDiff, Nat.reduceMul, Nat.reduceLT, Int.reduceEq, Int.reduceLT, Int.reduceLE, t0, t2, t3, t8, t9, z, m1, m2, hq.1, hq.2, d1, d2, d3, d4]
        refine acalls_frz (c_tryFrom P clp q _ hq.1 hp) fun cl2 => ?_
        rw [chainP_at hgat]
        simp +contextual -dsimp -implicitDefEqProofs (maxSteps := 5000000) only [go_sem, reduceIte, reduceCtorEq, Nat.reduceEqDiff, Nat.reduceBEq, Nat.reduceAdd, Nat.reduceLeDiff, Nat.reduceMul, Nat.reduceLT, Int.reduceEq, Int.reduceLT, Int.reduceLE, t0, t2, t3, t8, t9, z, m1, m2, hq.1, hq.2, d1, d2, d3, d4]
        refine draw_intro [0, 0, 0, 0, 0, 0, 0, 0, 0, 0, 2, 0] AHeap.none (by kernel_rfl) none_le ?_
        have hce := chain_end rest (q + 1 + kids.size) q hgat.rest hgat.endP
        have hgl := getD_last q (chainN rest (q + 1 + kids.size))
        have hmem := chainP_mem hq.1 ((q :: chainN rest (q + 1 + kids.size)).getLastD 0) (by
          rw [chainP_at hgat, ← hgl, List.getD_eq_getElem?_getD, List.getElem?_eq_getElem (by simp)]
          exact List.getElem_mem _)
        have hwl : IntKind.i64.wrap (((chainN rest (q + 1 + kids.size)).length + 1 : Nat) - 1) = ((chainN rest (q + 1 + kids.size)).length : Int) := by
          have := chain_len rest (q + 1 + kids.size)
          rw [w64 (by omega) (by omega)]; omega
        have hlt1 : ((chainN rest (q + 1 + kids.size)).length : Int) < (((chainN rest (q + 1 + kids.size)).length + 1 : Nat) : Int) := by omega
        have hlt2 : (chainN rest (q + 1 + kids.size)).length < (chainN rest (q + 1 + kids.size)).length + 1 := by omega
        simp +contextual -dsimp -implicitDefEqProofs (maxSteps := 5000000) only [go_sem, reduceIte, reduceCtorEq, Nat.reduceEqDiff, Nat.reduceBEq, Nat.reduceAdd, Nat.reduceLeDiff, Nat.reduceMul, Nat.reduceLT, Int.reduceEq, Int.reduceLT, Int.reduceLE, t0, t2, t3, t8, t9, z, m1, m2, hq.1, hq.2, d1, d2, d3, d4, toI_len, toI_at, List.length_cons, hwl, hgl, hlt1, hlt2]
        refine (c_endOf P clp _ _ hmem).det ?_
        rw [hce]
        simp +contextual -dsimp -implicitDefEqProofs (maxSteps := 5000000) only [go_sem, reduceIte, reduceCtorEq, Nat.reduceEqDiff, Nat.reduceBEq, Nat.reduceAdd, Nat.reduceLeDiff, Nat.reduceMul, Nat.reduceLT, Int.reduceEq, Int.reduceLT, Int.reduceLE, t0, t2, t3, t8, t9, z, m1, m2, hq.1, hq.2, d1, d2, d3, d4]
        have hgo0 := goes_run ht kids (q + 1) none (d + 1) h s' n4 hs' (by omega) trivial
        have hgl0 := hgo0.len
        have hss := skipN_add rest (q + 1 + kids.size)
        have hsf := skipF_size rest
        refine (c_try ht ih cl2 (by omega) hgat n4 n5 hs' (by omega) (by omega) (by omega) hMin hp).mono ?_
        rintro _ H3 ⟨rfl, hM3⟩
        have hrun := runF_try (t := t) (a := a) (b := b) (kids := kids) (rest := rest) (i := q) (h := h) (s := s')
        simp only [runF_some] at hrun
        generalize runF t kids (q + 1) none h s' = r0 at hM3 hgo0 hgl0 hrun ⊢
        obtain ⟨c, hc1, hgo⟩ := goes_chain ht rest (q + 1 + kids.size) r0.1 r0.1 d h r0.2 n5 hgo0.ok (by omega) ⟨hgo0.val, hgo0.val⟩
        have hgl := hgo.len
        generalize chainR t rest (q + 1 + kids.size) r0.1 r0.1 h r0.2 = r at hM3 hgo hgl hrun ⊢
        obtain ⟨H4, rfl, hM4, w1, w2⟩ := mout _ _ hM3
        by_cases c0 : r.1.ed = 0
        · simp only [c0, if_true] at hrun
          simp +contextual -dsimp -implicitDefEqProofs (maxSteps := 5000000) only [go_sem, reduceIte, reduceCtorEq, Nat.reduceEqDiff, Nat.reduceBEq, Nat.reduceAdd, Nat.reduceLeDiff, Nat.reduceMul, Nat.reduceLT, Int.reduceEq, Int.reduceLT, Int.reduceLE, rEn, t0, t2, t3, t8, t9, z, m1, m2, hq.1, hq.2, d1, d2, d3, d4, c0, w2]
          exact adv _ (skipF rest) (skipN rest (q + 1 + kids.size)) r.2 H4 (by simp only [Fo.size]; omega) hsf hgat.rest.skip (numsF_skip rest n5) (by omega) hrun hgo.ok (by omega) (by omega) (by omega) w1 hM4
        · simp only [c0, if_false] at hrun
          simp +contextual -dsimp -implicitDefEqProofs (maxSteps := 5000000) only [go_sem, reduceIte, reduceCtorEq, Nat.reduceEqDiff, Nat.reduceBEq, Nat.reduceAdd, Nat.reduceLeDiff, Nat.reduceMul, Nat.reduceLT, Int.reduceEq, Int.reduceLT, Int.reduceLE, rEn, t0, t2, t3, t8, t9, z, m1, m2, hq.1, hq.2, d1, d2, d3, d4, c0]
          rw [he, hrun]
          refine retR_less (l := [.agg (rEn r.1)]) (H' := H4) ?_ (le_s1 (le_s1 (AHeap.le_refl _) w1) w2) ⟨rfl, hM4⟩
          simp only [resA, go_sem, reduceIte, reduceCtorEq, Nat.reduceEqDiff, Nat.reduceBEq, Nat.reduceAdd, Nat.reduceLeDiff, Nat.reduceMul, Nat.reduceLT, Int.reduceEq, Int.reduceLT, Int.reduceLE, rEn, d1, d2, t8]
      · have hgo := goes_lineR (h := h) (i := q) (body := fun s => runF t kids (q + 1) none h s) (n := cost kids) ht hs' n1 (by omega) (fun s2 hs2 hl2 => goes_run ht kids (q + 1) none (d + 1) h s2 n4 hs2 (by omega) trivial)
        have hgl := hgo.len
        have hrun := runF_line (t := t) (a := a) (b := b) (kids := kids) (rest := rest) (i := q) (h := h) (s := s') k7
        have hcn : cost (.node k a b kids rest) = 2 + (if k = 12 then a.toNat * cost kids else cost kids) + cost rest := rfl
        simp +contextual -dsimp -implicitDefEqProofs (maxSteps := 5000000) only [go_sem, reduceIte, reduceCtorEq, Nat.reduceEqDiff, Nat.reduceBEq, Nat.reduceAdd, Nat.reduceLeDiff, Nat.reduceMul, Nat.reduceLT, Int.reduceEq, Int.reduceLT, Int.reduceLE, t0, t2, t3, t8, t9, z, m1, m2, hq.1, hq.2, d1, d2, d3, d4, k7]
        refine (c_line ht ih (by omega) hgat n1 n4 hs' (by omega) (by omega) (by omega) hMin hp).mono ?_
        rintro _ H3 ⟨rfl, hM3⟩
        generalize lineR k a b q h (fun s => runF t kids (q + 1) none h s) s' = r at hM3 hgo hgl hrun ⊢
        obtain ⟨H4, rfl, hM4, w1, w2⟩ := mout _ _ hM3
        by_cases c0 : r.1.ed = 0
        · simp only [c0, if_true] at hrun
          simp +contextual -dsimp -implicitDefEqProofs (maxSteps := 5000000) only [go_sem, reduceIte, reduceCtorEq, Nat.reduceEqDiff, Nat.reduceBEq, Nat.reduceAdd, Nat.reduceLeDiff, Nat.reduceMul, Nat.reduceLT, Int.reduceEq, Int.reduceLT, Int.reduceLE, rEn, t0, t2, t3, t8, t9, z, m1, m2, hq.1, hq.2, d1, d2, d3, d4, c0, w2]
          exact adv _ rest (q + 1 + kids.size) r.2 H4 (by simp only [Fo.size]; omega) (Nat.le_refl _) hgat.rest n5 (by omega) hrun hgo.ok (by omega) (by omega) (by omega) w1 hM4
        · simp only [c0, if_false] at hrun
          simp +contextual -dsimp -implicitDefEqProofs (maxSteps := 5000000) only [go_sem, reduceIte, reduceCtorEq, Nat.reduceEqDiff, Nat.reduceBEq, Nat.reduceAdd, Nat.reduceLeDiff, Nat.reduceMul, Nat.reduceLT, Int.reduceEq, Int.reduceLT, Int.reduceLE, rEn, t0, t2, t3, t8, t9, z, m1, m2, hq.1, hq.2, d1, d2, d3, d4, c0]
          rw [he, hrun]
          refine retR_less (l := [.agg (rEn r.1)]) (H' := H4) ?_ (le_s1 (le_s1 (AHeap.le_refl _) w1) w2) ⟨rfl, hM4⟩
          simp only [resA, go_sem, reduceIte, reduceCtorEq, Nat.reduceEqDiff, Nat.reduceBEq, Nat.reduceAdd, Nat.reduceLeDiff, Nat.reduceMul, Nat.reduceLT, Int.reduceEq, Int.reduceLT, Int.reduceLE, rEn, d1, d2, t8]
theorem c_linesAll {t : List Class} {cl : Bool} {P : List Line} {clp : Bool} (ht : validT t = true) (hp : P.length ≤ 4398046511104) : ∀ n, LinesOk t cl P clp n
  | 0 => fun f i d h s F H bm hn => by omega
  | n + 1 => c_linesStep ht hp (c_linesAll ht hp n)
end
section
open Go Go.Sim
set_option maxRecDepth 100000
set_option maxHeartbeats 4000000

/-- The lines of a program, with their blocks. -/
noncomputable def forestP (p : List Line) : Fo := @dite _ (∃ f : Fo, p = f.flat 0) (Classical.propDecidable _) (fun h => h.choose) (fun _ => .nil)
theorem forestP_flat (f : Fo) : forestP (f.flat 0) = f := by
  have h : ∃ g : Fo, f.flat 0 = g.flat 0 := ⟨f, rfl⟩
  unfold forestP
  rw [dif_pos h]
  exact (flat_one h.choose_spec).symm
def rs0 : RS := ⟨[], [], -1⟩
noncomputable def runP (t : List Class) (p : List Line) : En × RS := runF t (forestP p) 0 none (-1) rs0
/-- The result of a run, as the program tells it. -/
def resOf (r : En × RS) : Res :=
  if r.1.ed = 2 then ⟨r.2.log, 2, idxF (fun x => decide (r.1.val = x)) (sortI (bfsF r.2.fs r.1.val)), isoL r.2.fs (sortI (bfsF r.2.fs r.1.val))⟩ else ⟨r.2.log, r.1.ed, r.1.val, []⟩
theorem validP_forest {t : List Class} {p : List Line} (h : ValidP t p) : validT t = true ∧ p = (forestP p).flat 0 ∧ numsF t (forestP p) 0 = true ∧ okF (forestP p) false false = true ∧ (forestP p).size = p.length ∧ (forestP p).size ≤ 24 := by
  obtain ⟨h1, h2, f, rfl, h3, h4⟩ := h
  rw [forestP_flat]
  rw [flat_len] at h2
  exact ⟨h1, rfl, h3, h4, (flat_len f 0).symm, h2⟩
theorem runP_goes {t : List Class} {p : List Line} (h : ValidP t p) : Goes t 34992 rs0 (runP t p).1 (runP t p).2 := by
  obtain ⟨h1, h2, h3, h4, h5, h6⟩ := validP_forest h
  exact (goes_run h1 (forestP p) 0 none 0 (-1) rs0 h3 (fsOk_nil t) (by show (-1 : Int) < 0; omega) trivial).le (cost_small h3 h6)
theorem c_mRunProgram (t : List Class) (cl : Bool) (p : List Line) (cl' : Bool) (H : AHeap) (hn : namesOk t) (hp : p.length ≤ 4398046511104) :
    ACalls Tryz.prog 10 [aTree t cl, aProg p cl'] H fun r H' => OwnRes H H' r (if validB t p = true then resOf (runP t p) else res0) := by
  refine acalls_of1 Tryz.func10 rfl (by kernel_rfl) rfl rfl (awp_sound (fz := fun _ => []) (im := fun s => s == 2) mixed _ _ _ _ (by kernel_rfl) ?_)
  simp +contextual -dsimp -implicitDefEqProofs (maxSteps := 5000000) only [go_sem, reduceIte, reduceCtorEq, Nat.reduceEqDiff, Nat.reduceBEq, Nat.reduceAdd, Nat.reduceLeDiff, Nat.reduceMul, Nat.reduceLT, Int.reduceEq, Int.reduceLT, Int.reduceLE]
  intro b4 hb4
  refine (c_ValidProgram t cl p cl' _ hn hp).det ?_
  cases hv : validB t p
  · simp +contextual -dsimp -implicitDefEqProofs (maxSteps := 5000000) only [go_sem, reduceIte, reduceCtorEq, Nat.reduceEqDiff, Nat.reduceBEq, Nat.reduceAdd, Nat.reduceLeDiff, Nat.reduceMul, Nat.reduceLT, Int.reduceEq, Int.reduceLT, Int.reduceLE]
    refine retR_less (l := [.agg [.vsl [] true, I 0, I 0, .vsl [] true]]) (H' := H) ?_ (le_set hb4) (own0 H)
    simp only [resA, go_sem, reduceIte, reduceCtorEq, Nat.reduceEqDiff, Nat.reduceBEq, Nat.reduceAdd, Nat.reduceLeDiff, Nat.reduceMul, Nat.reduceLT, Int.reduceEq, Int.reduceLT, Int.reduceLE]
  · have hval := validB_true.1 hv
    obtain ⟨h1, h2, h3, h4, h5, h6⟩ := validP_forest hval
    have hgo := runP_goes hval
    have hgl := hgo.len
    have hat := at_top h2
    have hcs := cost_small h3 h6
    have hlen : ((0 + (forestP p).size : Nat) : Int) = (p.length : Int) := by omega
    simp +contextual -dsimp -implicitDefEqProofs (maxSteps := 5000000) only [go_sem, reduceIte, reduceCtorEq, Nat.reduceEqDiff, Nat.reduceBEq, Nat.reduceAdd, Nat.reduceLeDiff, Nat.reduceMul, Nat.reduceLT, Int.reduceEq, Int.reduceLT, Int.reduceLE]
    refine (c_machineOf t cl _ (p.map rLine) cl').mono ?_
    rintro _ H1 ⟨bm, rfl, hM⟩
    simp +contextual -dsimp -implicitDefEqProofs (maxSteps := 5000000) only [go_sem, reduceIte, reduceCtorEq, Nat.reduceEqDiff, Nat.reduceBEq, Nat.reduceAdd, Nat.reduceLeDiff, Nat.reduceMul, Nat.reduceLT, Int.reduceEq, Int.reduceLT, Int.reduceLE]
    have key := c_linesAll (cl := cl) (P := p) (clp := cl') h1 hp ((forestP p).size + 1) (forestP p) 0 0 (-1) rs0 (H.set b4 ⟨4, 34, [[.vsl [] true, I 0, I 0, .vsl [] true]]⟩) H1 bm (by omega) hat h3 (fsOk_nil t) (by show (-1 : Int) < 0; omega) (by show 0 + _ ≤ _; omega) (by show 0 + _ ≤ _; omega) hM
    rw [hlen, show ((0 : Nat) : Int) = 0 from rfl] at key
    refine key.mono ?_
    rintro _ H2 ⟨rfl, hM2⟩
    have er : runF t (forestP p) 0 none (-1) rs0 = runP t p := rfl
    rw [er] at hM2 ⊢
    generalize runP t p = r at hM2 hgo hgl ⊢
    simp +contextual -dsimp -implicitDefEqProofs (maxSteps := 5000000) only [go_sem, reduceIte, reduceCtorEq, Nat.reduceEqDiff, Nat.reduceBEq, Nat.reduceAdd, Nat.reduceLeDiff, Nat.reduceMul, Nat.reduceLT, Int.reduceEq, Int.reduceLT, Int.reduceLE, rEn]
    refine (c_mresult _ H2 bm _ _ r.2.log r.2.fs r.2.first r.1.ed r.1.val hM2 hgo.ok.ho (by have : (rs0 : RS).fs.length = 0 := rfl; omega) hgo.val).mono ?_
    rintro x H3 hr
    have hr' : OwnRes (H.set b4 ⟨4, 34, [[.vsl [] true, I 0, I 0, .vsl [] true]]⟩) H3 x (resOf r) := by
      obtain ⟨xl, xh, G1, e1, e2, e3⟩ := hr
      refine ⟨xl, xh, G1, ?_, ?_, ?_⟩
      · rw [e1]; unfold resOf; split
        · rename_i q; rw [q]
        · rfl
      · unfold resOf; split <;> exact e2
      · unfold resOf; split
        · rename_i q; rw [if_pos q] at e3; exact e3
        · rename_i q; rw [if_neg q] at e3; exact e3
    obtain ⟨H4, rfl, hown, hn4⟩ := own_out hr' hb4
    obtain ⟨xl, xh, rfl, o1, o2⟩ := own_row hown
    simp +contextual -dsimp -implicitDefEqProofs (maxSteps := 5000000) only [go_sem, reduceIte, reduceCtorEq, Nat.reduceEqDiff, Nat.reduceBEq, Nat.reduceAdd, Nat.reduceLeDiff, Nat.reduceMul, Nat.reduceLT, Int.reduceEq, Int.reduceLT, Int.reduceLE, o1, o2]
    refine retR_less (l := [.agg [xl, I (resOf r).ed, I (resOf r).val, xh]]) (H' := H4) ?_ (le_set hn4) hown
    simp only [resA, go_sem, reduceIte, reduceCtorEq, Nat.reduceEqDiff, Nat.reduceBEq, Nat.reduceAdd, Nat.reduceLeDiff, Nat.reduceMul, Nat.reduceLT, Int.reduceEq, Int.reduceLT, Int.reduceLE]
end
section
open Go Go.Sim
set_option maxRecDepth 100000

/-- Programs with other numbers that are told. -/
def mapA (g : Int → Int) : Fo → Fo
  | .nil => .nil
  | .node k a b kids rest => .node k (if k = 1 then g a else a) b (mapA g kids) (mapA g rest)
theorem mapA_id : ∀ f : Fo, mapA (fun a => a) f = f
  | .nil => rfl
  | .node k a b kids rest => by simp only [mapA, mapA_id kids, mapA_id rest, ite_self]
/-- Nothing is raised again. -/
def noAg : Fo → Bool
  | .nil => true
  | .node k _ _ kids rest => !decide (k = 3) && (noAg kids && noAg rest)
/-- A number of a fault, further on. -/
def shv (n : Nat) (v : Int) : Int := if 0 ≤ v then v + n else v
def shf (n : Nat) (x : Fault) : Fault := { x with cause := shv n x.cause, ctx := shv n x.ctx }
theorem shv_zero (v : Int) : shv 0 v = v := by unfold shv; split <;> simp
theorem shf_zero (x : Fault) : shf 0 x = x := by simp [shf, shv_zero]
/-- How two runs are alike: logs as 'LR' says, faults behind 'F'; 'wk': but for what was handled. -/
structure SimP where
  LR : List Int → List Int → Prop
  F : List Fault
  wk : Bool
structure SR (P : SimP) (s s' : RS) : Prop where
  log : P.LR s.log s'.log
  fs : ∃ X, s'.fs = P.F ++ X ∧ (P.wk = true → X.map (·.cls) = s.fs.map (·.cls)) ∧ (P.wk = false → X = s.fs.map (shf P.F.length))
def ER (P : SimP) (e e' : En) : Prop := e'.ed = e.ed ∧ (e.ed = 2 → 0 ≤ e.val ∧ e'.val = e.val + P.F.length) ∧ (e.ed ≠ 2 → e'.val = e.val)
def HR (P : SimP) (h h' : Int) : Prop := (0 ≤ h ∧ h' = h + P.F.length) ∨ (h < 0 ∧ (P.wk = true ∨ h' < 0))
def RR (P : SimP) (r r' : En × RS) : Prop := ER P r.1 r'.1 ∧ SR P r.2 r'.2
def PR (P : SimP) : Option (En × En) → Option (En × En) → Prop
  | none, none => True
  | some q, some q' => ER P q.1 q'.1 ∧ ER P q.2 q'.2
  | _, _ => False
section
variable {P : SimP}
theorem er_same {e : En} (h : e.ed ≠ 2) : ER P e e := ⟨rfl, fun q => absurd q h, fun _ => rfl⟩
theorem SR.len {s s' : RS} (h : SR P s s') : s'.fs.length = P.F.length + s.fs.length := by
  obtain ⟨X, e, h1, h2⟩ := h.fs
  have : X.length = s.fs.length := by
    cases hw : P.wk
    · rw [h2 hw, List.length_map]
    · have := congrArg List.length (h1 hw)
      simpa using this
  rw [e, List.length_append, this]
theorem SR.cls {s s' : RS} (h : SR P s s') {v : Int} (hv : 0 ≤ v) : clsOf s' (v + P.F.length) = clsOf s v := by
  obtain ⟨X, e, h1, h2⟩ := h.fs
  have hc : X.map (·.cls) = s.fs.map (·.cls) := by
    cases hw : P.wk
    · rw [h2 hw, List.map_map]; rfl
    · exact h1 hw
  have hg : ∀ (l : List Fault) (k : Nat), (l.getD k default).cls = (l.map (·.cls)).getD k (default : Fault).cls := fun l k => by
    simp only [List.getD_eq_getElem?_getD, List.getElem?_map]
    cases l[k]? <;> rfl
  unfold clsOf
  have e2 : (v + (P.F.length : Int)).toNat = P.F.length + v.toNat := by omega
  rw [e, e2]
  have e3 : (P.F ++ X).getD (P.F.length + v.toNat) default = X.getD v.toNat default := by
    simp only [List.getD_eq_getElem?_getD]
    rw [List.getElem?_append_right (by omega), Nat.add_sub_cancel_left]
  rw [e3, hg, hg, hc]
theorem SR.tell {s s' : RS} (h : SR P s s') {n n' : Int} (hl : P.LR s.log s'.log → P.LR (s.log ++ [n]) (s'.log ++ [n'])) : SR P (s.tell n) (s'.tell n') := ⟨hl h.log, h.fs⟩
theorem SR.jump {s s' : RS} (h : SR P s s') (k : Int) (i i' : Nat) : SR P (s.jump k i) (s'.jump k i') := by
  unfold RS.jump
  constructor
  · split <;> split <;> exact h.log
  · split <;> split <;> exact h.fs
theorem SR.raise {s s' : RS} (h : SR P s s') (c d : Int) {g g' : Int} (hg : HR P g g') : SR P (s.raise c d g) (s'.raise c d g') := by
  refine ⟨h.log, ?_⟩
  obtain ⟨X, e, h1, h2⟩ := h.fs
  refine ⟨X ++ [⟨c, d, -1, if 0 ≤ g' then g' else -1, false⟩], ?_, fun q => ?_, fun q => ?_⟩
  · show raiseF s'.fs c d g' = _
    unfold raiseF
    rw [e, List.append_assoc]
  · show _ = (raiseF s.fs c d g).map (·.cls)
    unfold raiseF
    rw [List.map_append, List.map_append, h1 q]; rfl
  · show _ = (raiseF s.fs c d g).map (shf P.F.length)
    unfold raiseF
    rw [List.map_append, ← h2 q]
    congr 1
    rcases hg with ⟨g0, rfl⟩ | ⟨g0, g1⟩
    · have h3 : 0 ≤ g + (P.F.length : Int) := by omega
      simp [shf, shv, g0, h3]
    · have g2 : g' < 0 := by
        rcases g1 with g1 | g1
        · rw [q] at g1; cases g1
        · exact g1
      have n1 : ¬ 0 ≤ g := by omega
      have n2 : ¬ 0 ≤ g' := by omega
      simp [shf, shv, n1, n2]
theorem SR.raised {s s' : RS} (h : SR P s s') : ER P ⟨2, s.fs.length⟩ ⟨2, s'.fs.length⟩ := by
  refine ⟨rfl, fun _ => ⟨by show (0 : Int) ≤ s.fs.length; omega, ?_⟩, fun q => absurd rfl q⟩
  show (s'.fs.length : Int) = s.fs.length + P.F.length
  rw [h.len]; omega
theorem SR.line {g : Int → Int} (hA : ∀ l l' a, P.LR l l' → P.LR (l ++ [a]) (l' ++ [g a])) {s s' : RS} (h : SR P s s') (k a b : Int) {h0 h1 : Int} (hh : HR P h0 h1) (hk : P.wk = true → k ≠ 3) : RR P (lineS k a b h0 s) (lineS k (if k = 1 then g a else a) b h1 s') := by
  unfold lineS
  by_cases k1 : k = 1
  · simp only [k1, if_true]
    exact ⟨er_same (by show (0 : Int) ≠ 2; decide), h.tell fun q => hA _ _ a q⟩
  simp only [k1, if_false]
  by_cases k2 : k = 2
  · simp only [k2, if_true]
    exact ⟨h.raised, h.raise a b hh⟩
  simp only [k2, if_false]
  by_cases k3 : k = 3
  · simp only [k3, if_true]
    have hw : P.wk = false := by
      cases q : P.wk
      · rfl
      · exact absurd k3 (hk q)
    rcases hh with ⟨g0, rfl⟩ | ⟨g0, g1⟩
    · rw [if_neg (by omega), if_neg (by omega)]
      exact ⟨⟨rfl, fun _ => ⟨g0, rfl⟩, fun q => absurd rfl q⟩, h⟩
    · have g2 : h1 < 0 := by
        rcases g1 with g1 | g1
        · rw [hw] at g1; cases g1
        · exact g1
      rw [if_pos g0, if_pos g2]
      exact ⟨h.raised, h.raise 0 0 (.inr ⟨by decide, .inr (by decide)⟩)⟩
  simp only [k3, if_false]
  by_cases k4 : k = 4
  · simp only [k4, if_true]; exact ⟨er_same (by show (1 : Int) ≠ 2; decide), h⟩
  simp only [k4, if_false]
  by_cases k5 : k = 5
  · simp only [k5, if_true]; exact ⟨er_same (by show (3 : Int) ≠ 2; decide), h⟩
  simp only [k5, if_false]
  by_cases k6 : k = 6
  · simp only [k6, if_true]; exact ⟨er_same (by show (4 : Int) ≠ 2; decide), h⟩
  simp only [k6, if_false]
  exact ⟨er_same (by show (0 : Int) ≠ 2; decide), h⟩
theorem rr_loop {b b' : RS → En × RS} (hb : ∀ s s', SR P s s' → RR P (b s) (b' s')) : ∀ (n : Nat) (s s' : RS), SR P s s' → RR P (loopS b n s) (loopS b' n s')
  | 0, s, s', h => ⟨er_same (by show (0 : Int) ≠ 2; decide), h⟩
  | n + 1, s, s', h => by
    have h1 := hb s s' h
    simp only [loopS]
    rw [h1.1.1]
    split
    · exact h1
    · split
      · exact ⟨er_same (by show (0 : Int) ≠ 2; decide), h1.2⟩
      · exact rr_loop hb n _ _ h1.2
theorem noAg_node {k a b : Int} {kids rest : Fo} (h : noAg (.node k a b kids rest) = true) : k ≠ 3 ∧ noAg kids = true ∧ noAg rest = true := by
  simpa [noAg] using h
end
/-- Runs go alike. -/
theorem sim_run {P : SimP} {g : Int → Int} (hA : ∀ l l' a, P.LR l l' → P.LR (l ++ [a]) (l' ++ [g a])) (hB : ∀ l l' a, P.LR l l' → P.LR (l ++ [a]) (l' ++ [a])) (t : List Class) :
    ∀ (f : Fo) (i i' : Nat) (pd pd' : Option (En × En)) (h h' : Int) (s s' : RS), (P.wk = true → noAg f = true) → PR P pd pd' → HR P h h' → SR P s s' → RR P (runF t f i pd h s) (runF t (mapA g f) i' pd' h' s') := by
  intro f
  induction f with
  | nil =>
    intro i i' pd pd' h h' s s' _ hp _ hs
    cases pd with
    | none =>
      cases pd' with
      | none => exact ⟨er_same (by show (0 : Int) ≠ 2; decide), hs⟩
      | some q' => exact absurd hp id
    | some q =>
      cases pd' with
      | none => exact absurd hp id
      | some q' =>
        simp only [runF, mapA]
        rw [hp.2.1]
        split
        · exact ⟨er_same (by show (0 : Int) ≠ 2; decide), hs⟩
        · exact ⟨hp.2, hs⟩
  | node k a b kids rest ihk ihr =>
    intro i i' pd pd' h h' s s' hn hp hh hs
    have nk : P.wk = true → k ≠ 3 := fun q => (noAg_node (hn q)).1
    have n1 : P.wk = true → noAg kids = true := fun q => (noAg_node (hn q)).2.1
    have n2 : P.wk = true → noAg rest = true := fun q => (noAg_node (hn q)).2.2
    have el : mapA g (.node k a b kids rest) = .node k (if k = 1 then g a else a) b (mapA g kids) (mapA g rest) := rfl
    have hline : k ≠ 7 → RR P ((fun r : En × RS => if r.1.ed = 0 then runF t rest (i + 1 + kids.size) none h r.2 else r) (lineR k a b i h (fun s => runF t kids (i + 1) none h s) s)) ((fun r : En × RS => if r.1.ed = 0 then runF t (mapA g rest) (i' + 1 + (mapA g kids).size) none h' r.2 else r) (lineR k (if k = 1 then g a else a) b i' h' (fun s => runF t (mapA g kids) (i' + 1) none h' s) s')) := by
      intro _
      have h1 : RR P (lineR k a b i h (fun s => runF t kids (i + 1) none h s) s) (lineR k (if k = 1 then g a else a) b i' h' (fun s => runF t (mapA g kids) (i' + 1) none h' s) s') := by
        unfold lineR
        by_cases k11 : k = 11
        · rw [if_pos k11, if_pos k11, if_neg (by omega)]
          have h2 := ihk (i + 1) (i' + 1) none none h h' (s.tell (100 + a)) (s'.tell (100 + a)) n1 trivial hh (hs.tell fun q => hB _ _ _ q)
          unfold withS
          rw [h2.1.1]
          refine ⟨?_, h2.2.tell fun q => hB _ _ _ q⟩
          show ER P (if _ then _ else _) (if _ then _ else _)
          split
          · exact er_same (by show (0 : Int) ≠ 2; decide)
          · exact h2.1
        · rw [if_neg k11, if_neg k11]
          by_cases k12 : k = 12
          · rw [if_pos k12, if_pos k12, if_neg (by omega)]
            exact rr_loop (fun s s' hs => ihk (i + 1) (i' + 1) none none h h' s s' n1 trivial hh hs) _ _ _ hs
          · rw [if_neg k12, if_neg k12]
            exact (hs.jump k i i').line hA k a b hh nk
      generalize lineR k a b i h (fun s => runF t kids (i + 1) none h s) s = r at h1 ⊢
      generalize lineR k (if k = 1 then g a else a) b i' h' (fun s => runF t (mapA g kids) (i' + 1) none h' s) s' = r' at h1 ⊢
      show RR P (if r.1.ed = 0 then _ else r) (if r'.1.ed = 0 then _ else r')
      rw [h1.1.1]
      split
      · exact ihr _ _ none none h h' _ _ n2 trivial hh h1.2
      · exact h1
    have go : ∀ (g0 g1 : Int) (st st' : En) (e e' : En → En), HR P g0 g1 → ER P st st' → (∀ x x', ER P x x' → ER P (e x) (e' x')) → RR P ((fun r : En × RS => runF t rest (i + 1 + kids.size) (some (st, e r.1)) h r.2) (runF t kids (i + 1) none g0 s)) ((fun r : En × RS => runF t (mapA g rest) (i' + 1 + (mapA g kids).size) (some (st', e' r.1)) h' r.2) (runF t (mapA g kids) (i' + 1) none g1 s')) := by
      intro g0 g1 st st' e e' hg hst he
      have h1 := ihk (i + 1) (i' + 1) none none g0 g1 s s' n1 trivial hg hs
      exact ihr _ _ (some _) (some _) h h' _ _ n2 ⟨hst, he _ _ h1.1⟩ hh h1.2
    have htry : RR P ((fun r : En × RS => runF t rest (i + 1 + kids.size) (some (r.1, r.1)) h r.2) (runF t kids (i + 1) none h s)) ((fun r : En × RS => runF t (mapA g rest) (i' + 1 + (mapA g kids).size) (some (r.1, r.1)) h' r.2) (runF t (mapA g kids) (i' + 1) none h' s')) := by
      have h1 := ihk (i + 1) (i' + 1) none none h h' s s' n1 trivial hh hs
      exact ihr _ _ (some _) (some _) h h' _ _ n2 ⟨h1.1, h1.1⟩ hh h1.2
    rw [el]
    cases pd with
    | none =>
      cases pd' with
      | some q' => exact absurd hp id
      | none =>
        simp only [runF]
        split
        · exact htry
        · exact hline ‹_›
    | some q =>
      cases pd' with
      | none => exact absurd hp id
      | some q' =>
        obtain ⟨p1, p2⟩ := hp
        simp only [runF]
        by_cases hk : followsK k = true
        · have hk' := hk
          simp only [followsK, inR, Bool.and_eq_true, decide_eq_true_eq] at hk'
          have k1 : ¬ k = 1 := by omega
          simp only [hk, if_true, k1, if_false]
          have pass : RR P (runF t rest (i + 1 + kids.size) (some q) h s) (runF t (mapA g rest) (i' + 1 + (mapA g kids).size) (some q') h' s') := ihr _ _ (some _) (some _) h h' _ _ n2 ⟨p1, p2⟩ hh hs
          split
          · by_cases hc : q.1.ed = 2
            · have v0 := p1.2.1 hc
              have ec : clsOf s' q'.1.val = clsOf s q.1.val := by rw [v0.2]; exact hs.cls v0.1
              rw [p1.1, ec]
              split
              · exact go _ _ ⟨-1, 0⟩ ⟨-1, 0⟩ (fun e => e) (fun e => e) (.inl v0) (er_same (by show (-1 : Int) ≠ 2; decide)) (fun _ _ h => h)
              · exact pass
            · rw [p1.1, if_neg (fun q => hc q.1), if_neg (fun q => hc q.1)]
              exact pass
          · split
            · rw [p1.1]
              split
              · exact go h h' q.1 q'.1 (fun e => e) (fun e => e) hh p1 (fun _ _ h => h)
              · exact pass
            · refine go _ _ q.1 q'.1 (fun e => if e.ed = 0 then q.2 else e) (fun e => if e.ed = 0 then q'.2 else e) ?_ p1 (fun x x' hx => ?_)
              · rw [p2.1]
                split
                · exact .inl (p2.2.1 ‹_›)
                · exact hh
              · show ER P (if _ then _ else _) (if _ then _ else _)
                rw [hx.1]
                split
                · exact p2
                · exact hx
        · rw [if_neg hk, if_neg hk, p2.1]
          split
          · split
            · exact htry
            · exact hline ‹_›
          · exact ⟨p2, hs⟩
end
section
open Go Go.Sim
set_option maxRecDepth 100000

/-- Runs that are the same but for where the first jump is. -/
def REq (r r' : En × RS) : Prop := r'.1 = r.1 ∧ r'.2.log = r.2.log ∧ r'.2.fs = r.2.fs
theorem REq.refl (r : En × RS) : REq r r := ⟨rfl, rfl, rfl⟩
theorem REq.symm {r r' : En × RS} (h : REq r r') : REq r' r := ⟨h.1.symm, h.2.1.symm, h.2.2.symm⟩
theorem REq.trans {r r' r'' : En × RS} (h : REq r r') (g : REq r' r'') : REq r r'' := ⟨g.1.trans h.1, g.2.1.trans h.2.1, g.2.2.trans h.2.2⟩
theorem REq.res {r r' : En × RS} (h : REq r r') : resOf r' = resOf r := by
  unfold resOf
  rw [h.1, h.2.1, h.2.2]
/-- Logs and faults go on behind others. -/
abbrev behind (L : List Int) (F : List Fault) (wk : Bool) : SimP := ⟨fun l l' => l' = L ++ l, F, wk⟩
theorem sim_behind (L : List Int) (F : List Fault) (wk : Bool) (t : List Class) (f : Fo) (i i' : Nat) (h h' : Int) (s s' : RS) (hn : wk = true → noAg f = true) (hh : HR (behind L F wk) h h') (hs : SR (behind L F wk) s s') : RR (behind L F wk) (runF t f i none h s) (runF t f i' none h' s') := by
  have := sim_run (P := behind L F wk) (g := fun a => a) (fun l l' a q => by show _ = _; rw [show l' = L ++ l from q, List.append_assoc]) (fun l l' a q => by show _ = _; rw [show l' = L ++ l from q, List.append_assoc]) t f i i' none none h h' s s' hn trivial hh hs
  rwa [mapA_id] at this
theorem sr_zero {s s' : RS} (h1 : s'.log = s.log) (h2 : s'.fs = s.fs) : SR (behind [] [] false) s s' :=
  have e : shf (behind [] [] false).F.length = fun x => x := funext shf_zero
  ⟨h1, s'.fs, rfl, (fun q => by cases q), (fun _ => by rw [h2, e, List.map_id'])⟩
theorem rr_zero {r r' : En × RS} (h : RR (behind [] [] false) r r') : REq r r' := by
  obtain ⟨⟨a1, a2, a3⟩, b1, X, b2, b3, b4⟩ := h
  have e : shf (behind [] [] false).F.length = fun x => x := funext shf_zero
  have b5 := b4 rfl
  rw [e, List.map_id'] at b5
  refine ⟨?_, b1, by rw [b2, b5]; rfl⟩
  have hv : r'.1.val = r.1.val := by
    by_cases c : r.1.ed = 2
    · have := (a2 c).2; simpa using this
    · exact a3 c
  cases h1 : r.1; cases h2 : r'.1
  rw [h1, h2] at a1 hv
  simp only at a1 hv
  rw [a1, hv]
theorem run_eq (t : List Class) (f : Fo) (i i' : Nat) (h : Int) (s s' : RS) (h1 : s'.log = s.log) (h2 : s'.fs = s.fs) : REq (runF t f i none h s) (runF t f i' none h s') :=
  rr_zero (sim_behind [] [] false t f i i' h h s s' (fun q => by cases q) (by
    unfold HR
    show (0 ≤ h ∧ h = h + ((0 : Nat) : Int)) ∨ (h < 0 ∧ (false = true ∨ h < 0))
    omega) (sr_zero h1 h2))
/-- A program as a block. -/
def innF (f : Fo) : Fo := if f.isNil = true then .node 0 0 0 .nil .nil else f
def deepL (l : Line) : Line := { l with depth := l.depth + 1 }
def innP (p : List Line) : List Line := if p = [] then [⟨1, 0, 0, 0⟩] else p.map deepL
theorem flat_deepL : ∀ (f : Fo) (d : Int), f.flat (d + 1) = (f.flat d).map deepL
  | .nil, d => rfl
  | .node k a b kids rest, d => by simp only [Fo.flat, flat_deepL kids, flat_deepL rest, List.map_cons, List.map_append]; rfl
theorem isNil_flat (f : Fo) (d : Int) : f.isNil = true ↔ f.flat d = [] := by
  cases f <;> simp [Fo.isNil, Fo.flat]
theorem innF_flat (f : Fo) : (innF f).flat 1 = innP (f.flat 0) := by
  unfold innF innP
  by_cases c : f.isNil = true
  · rw [if_pos c, if_pos ((isNil_flat f 0).1 c)]; rfl
  · rw [if_neg c, if_neg (fun q => c ((isNil_flat f 0).2 q))]
    exact flat_deepL f 0
end
section
open Go Go.Sim
set_option maxRecDepth 100000
/-- A fault isolated: its number, and the faults. -/
def isoR (fs : List Fault) (v : Int) : Int × List Fault := (idxF (fun x => decide (v = x)) (sortI (bfsF fs v)), isoL fs (sortI (bfsF fs v)))
section
variable {F h : List Fault}
theorem dch_pre {X : List Fault} (ho : heapOk F) : ∀ (m : Nat) (v : Int), v < F.length → dchG (F ++ X) m v = dchG F m v
  | 0, v, _ => rfl
  | m + 1, v, hv => by
    simp only [dchG]
    split
    · rename_i h0
      obtain ⟨o1, o2, o3⟩ := ho v.toNat (by omega)
      have e : ctxOf (F ++ X) v = ctxOf F v := by
        unfold ctxOf
        simp only [List.getD_eq_getElem?_getD]
        rw [List.getElem?_append_left (by omega)]
      have e3 : ctxOf F v < F.length := by
        have : ctxOf F v < v.toNat := o3
        omega
      rw [e, dch_pre ho m _ e3]
    · rfl
end
theorem runP_def (t : List Class) (p : List Line) : runP t p = runF t (forestP p) 0 none (-1) rs0 := rfl
theorem res_two {r : En × RS} (h : r.1.ed = 2) : resOf r = ⟨r.2.log, 2, (isoR r.2.fs r.1.val).1, (isoR r.2.fs r.1.val).2⟩ := by unfold resOf isoR; rw [if_pos h]
theorem res_else {r : En × RS} (h : r.1.ed ≠ 2) : resOf r = ⟨r.2.log, r.1.ed, r.1.val, []⟩ := by unfold resOf; rw [if_neg h]
end
section
open Go Go.Sim
set_option maxRecDepth 100000

/-- All classes are below the root. -/
theorem isF_root {t : List Class} (ht : validT t = true) {a : Int} (h0 : 0 ≤ a) (h1 : a < t.length) : isF t a 0 = true := by
  have key : ∀ n : Nat, ∀ a : Int, 0 ≤ a → a < n → a < t.length → (aboveF t a).any (fun x => decide ((0 : Int) = x)) = true := by
    intro n
    induction n with
    | zero => intro a h0 hn; omega
    | succ n ih =>
      intro a h0 hn h1
      rw [aboveF_step ht h0 h1, List.any_cons]
      by_cases c : (0 : Int) = a
      · rw [decide_eq_true c]; rfl
      · have hp : 0 ≤ (t.getD a.toNat default).parent ∧ (t.getD a.toNat default).parent < a := by
          have := ht
          simp only [validT, Bool.and_eq_true, List.all_eq_true, List.mem_range] at this
          have h2 := this.1 a.toNat (by omega)
          simp only [clsOk, Bool.and_eq_true] at h2
          have h3 := h2.2
          rw [if_neg (by omega)] at h3
          simp only [inR, Bool.and_eq_true, decide_eq_true_eq] at h3
          omega
        rw [ih _ hp.1 (by omega) (by omega), Bool.or_true]
  exact key (a.toNat + 1) a h0 (by omega) h1
def tailL (e : Exi) : List Line :=
  if e.kind = 0 then [⟨0, 10, 0, 0⟩, ⟨1, 1, e.a, 0⟩]
  else if e.kind = 1 then [⟨0, 8, 0, 0⟩, ⟨1, 1, e.a, 0⟩, ⟨1, 3, 0, 0⟩]
  else if e.kind = 2 then [⟨0, 8, e.a, 0⟩, ⟨1, 0, 0, 0⟩]
  else [⟨0, 10, 0, 0⟩, ⟨1, 2, e.a, e.b⟩]
def tailFo (e : Exi) : Fo :=
  if e.kind = 0 then .node 10 0 0 (.node 1 e.a 0 .nil .nil) .nil
  else if e.kind = 1 then .node 8 0 0 (.node 1 e.a 0 .nil (.node 3 0 0 .nil .nil)) .nil
  else if e.kind = 2 then .node 8 e.a 0 (.node 0 0 0 .nil .nil) .nil
  else .node 10 0 0 (.node 2 e.a e.b .nil .nil) .nil
theorem tail_flat (e : Exi) : (tailFo e).flat 0 = tailL e := by
  unfold tailFo tailL
  split
  · rfl
  · split
    · rfl
    · split
      · rfl
      · rfl
/-- A program that is left by an exit. -/
def exitP (p : List Line) (e : Exi) : List Line := (⟨0, 7, 0, 0⟩ :: innP p) ++ tailL e
def exitFo (f : Fo) (e : Exi) : Fo := .node 7 0 0 f (tailFo e)
def startP (x : Sta) : List Line := if x.has = true then [⟨0, 2, x.cls, x.code⟩] else [⟨0, 0, 0, 0⟩]
def startFo (x : Sta) : Fo := if x.has = true then .node 2 x.cls x.code .nil .nil else .node 0 0 0 .nil .nil
def progP (l : List Exi) (x : Sta) : List Line := l.reverse.foldl exitP (startP x)
def progFo (l : List Exi) (x : Sta) : Fo := l.reverse.foldl exitFo (startFo x)
theorem exit_flat {f : Fo} (h : f.isNil = false) (e : Exi) : (exitFo f e).flat 0 = exitP (f.flat 0) e ∧ (exitFo f e).isNil = false := by
  refine ⟨?_, rfl⟩
  have : innF f = f := by unfold innF; rw [if_neg (by rw [h]; decide)]
  unfold exitFo exitP
  simp only [Fo.flat]
  rw [show (0 : Int) + 1 = 1 from rfl, tail_flat, ← innF_flat, this]; rfl
theorem start_flat (x : Sta) : (startFo x).flat 0 = startP x ∧ (startFo x).isNil = false := by
  unfold startFo startP
  split
  · exact ⟨rfl, rfl⟩
  · exact ⟨rfl, rfl⟩
theorem fold_flat : ∀ (L : List Exi) (f : Fo), f.isNil = false → (L.foldl exitFo f).flat 0 = L.foldl exitP (f.flat 0)
  | [], f, _ => rfl
  | e :: L, f, h => by
    rw [List.foldl_cons, List.foldl_cons, fold_flat L _ (exit_flat h e).2, (exit_flat h e).1]
theorem prog_forest (l : List Exi) (x : Sta) : forestP (progP l x) = progFo l x := by
  have : progP l x = (progFo l x).flat 0 := by
    unfold progFo progP
    rw [fold_flat _ _ (start_flat x).2, (start_flat x).1]
  rw [this, forestP_flat]
def enC (c : Clo) : En := if 0 ≤ c.cur then ⟨2, c.cur⟩ else .next
/-- What lines have done is what exits have done. -/
structure RelC (c : Clo) (r : En × RS) : Prop where
  en : r.1 = enC c
  log : r.2.log = c.log
  fs : r.2.fs = c.fs
theorem raiseF_neg {fs : List Fault} {a b g : Int} (h : g < 0) : raiseF fs a b g = raiseF fs a b (-1) := by
  unfold raiseF; rw [if_neg (by omega), if_neg (by omega)]
theorem exit_run {t : List Class} (ht : validT t = true) {f : Fo} {c : Clo} (hcl : ∀ k, k < c.fs.length → 0 ≤ (c.fs.getD k default).cls ∧ (c.fs.getD k default).cls < t.length) (hcur : c.cur < c.fs.length) {e : Exi} (hk : 0 ≤ e.kind ∧ e.kind ≤ 3) (h : RelC c (runF t f 0 none (-1) rs0)) : RelC (stepX t c e) (runF t (exitFo f e) 0 none (-1) rs0) := by
  have hb := run_eq t f 0 (0 + 1) (-1) rs0 rs0 rfl rfl
  have h1 : RelC c (runF t f (0 + 1) none (-1) rs0) := ⟨hb.1.trans h.en, hb.2.1.trans h.log, hb.2.2.trans h.fs⟩
  unfold exitFo
  rw [runF_try]
  generalize runF t f (0 + 1) none (-1) rs0 = r at h1
  obtain ⟨en, s⟩ := r
  obtain ⟨h2, h3, h4⟩ := h1
  simp only at h2 h3 h4
  subst h2
  simp only
  have h8 : followsK 8 = true := rfl
  have h10 : followsK 10 = true := rfl
  unfold stepX tailFo
  by_cases k0 : e.kind = 0
  · rw [if_pos k0, if_pos k0]
    simp only [runF, h10, if_true, show ¬ (10 : Int) = 8 by decide, show ¬ (10 : Int) = 9 by decide, if_false, show ¬ (1 : Int) = 7 by decide, lineR, lineS, show ¬ (1 : Int) = 11 by decide, show ¬ (1 : Int) = 12 by decide, RS.jump, jumpsK, inR, En.next, RS.tell]
    simp only [show (decide ((2 : Int) ≤ 1) && decide ((1 : Int) ≤ 6)) = false by decide, Bool.false_eq_true, false_and, if_false]
    by_cases q : 0 ≤ c.cur
    · simp only [enC, q, if_true, show ¬ (2 : Int) = 0 by decide, if_false]
      exact ⟨by simp [enC, q], by simp [h3], h4⟩
    · simp only [enC, q, if_false, En.next, if_true]
      exact ⟨by simp [enC, q, En.next], by simp [h3], h4⟩
  rw [if_neg k0, if_neg k0]
  by_cases k1 : e.kind = 1
  · rw [if_pos k1, if_pos k1]
    by_cases q : 0 ≤ c.cur
    · have hr : isF t (clsOf s c.cur) 0 = true := by
        have := hcl c.cur.toNat (by omega)
        unfold clsOf
        rw [h4]
        exact isF_root ht this.1 this.2
      have hn : ¬ c.cur < 0 := by omega
      simp only [runF, h8, if_true, enC, q, hr, and_self, show ¬ (1 : Int) = 7 by decide, show ¬ (3 : Int) = 7 by decide, if_false, lineR, lineS, show ¬ (1 : Int) = 11 by decide, show ¬ (1 : Int) = 12 by decide, show ¬ (3 : Int) = 11 by decide, show ¬ (3 : Int) = 12 by decide, show ¬ (3 : Int) = 1 by decide, show ¬ (3 : Int) = 2 by decide, RS.jump, jumpsK, inR, En.next, RS.tell, hn, show ¬ (2 : Int) = 0 by decide]
      simp only [show (decide ((2 : Int) ≤ 1) && decide ((1 : Int) ≤ 6)) = false by decide, Bool.false_eq_true, false_and, if_false]
      refine ⟨by simp [enC, q], ?_, ?_⟩
      · split <;> simp [h3]
      · split <;> simp [h4]
    · simp only [runF, h8, if_true, enC, q, if_false, En.next, show ¬ ((0 : Int) = 2) by decide, false_and]
      exact ⟨by simp [enC, q, En.next], h3, h4⟩
  rw [if_neg k1, if_neg k1]
  by_cases k2 : e.kind = 2
  · rw [if_pos k2, if_pos k2]
    have ec : clsOf s c.cur = (c.fs.getD c.cur.toNat default).cls := by unfold clsOf; rw [h4]
    by_cases q : 0 ≤ c.cur
    · by_cases w : isF t (c.fs.getD c.cur.toNat default).cls e.a = true
      · rw [if_pos ⟨q, w⟩]
        simp only [runF, h8, if_true, enC, q, ec, w, and_self, show ¬ (0 : Int) = 7 by decide, if_false, lineR, lineS, show ¬ (0 : Int) = 11 by decide, show ¬ (0 : Int) = 12 by decide, show ¬ (0 : Int) = 1 by decide, show ¬ (0 : Int) = 2 by decide, show ¬ (0 : Int) = 3 by decide, show ¬ (0 : Int) = 4 by decide, show ¬ (0 : Int) = 5 by decide, show ¬ (0 : Int) = 6 by decide, RS.jump, jumpsK, inR, En.next]
        simp only [show (decide ((2 : Int) ≤ 0) && decide ((0 : Int) ≤ 6)) = false by decide, Bool.false_eq_true, false_and, if_false]
        exact ⟨by simp [enC, En.next], h3, h4⟩
      · rw [if_neg (fun z => w z.2)]
        simp only [runF, h8, if_true, enC, q, ec, w, and_false, if_false, show ¬ (2 : Int) = 0 by decide]
        exact ⟨by simp [enC, q], h3, h4⟩
    · rw [if_neg (fun z => q z.1)]
      simp only [runF, h8, if_true, enC, q, if_false, En.next, show ¬ ((0 : Int) = 2) by decide, false_and]
      exact ⟨by simp [enC, q, En.next], h3, h4⟩
  rw [if_neg k2, if_neg k2]
  have k3 : e.kind = 3 := by omega
  rw [if_pos k3]
  have ej : ∀ i : Nat, (s.jump 2 i).log = s.log ∧ (s.jump 2 i).fs = s.fs := fun i => by unfold RS.jump; split <;> exact ⟨rfl, rfl⟩
  simp only [runF, h10, if_true, show ¬ (10 : Int) = 8 by decide, show ¬ (10 : Int) = 9 by decide, if_false, show ¬ (2 : Int) = 7 by decide, lineR, lineS, show ¬ (2 : Int) = 11 by decide, show ¬ (2 : Int) = 12 by decide, show ¬ (2 : Int) = 1 by decide, show ¬ (2 : Int) = 0 by decide, RS.raise]
  have e2 := ej (0 + 1 + f.size + 1)
  refine ⟨?_, ?_, ?_⟩
  · have : (0 : Int) ≤ c.fs.length := by omega
    simp only [enC, this, if_true]
    rw [e2.2, h4]
  · exact e2.1.trans h3
  · show raiseF _ _ _ _ = raiseF _ _ _ _
    rw [e2.2, h4]
    by_cases q : 0 ≤ c.cur
    · simp only [enC, q, if_true]
    · simp only [enC, q, if_false, En.next, show ¬ ((0 : Int) = 2) by decide]
      exact (raiseF_neg (by omega)).symm
theorem exit_kind {t : List Class} {e : Exi} (h : exitOk t e = true) : 0 ≤ e.kind ∧ e.kind ≤ 3 := by
  unfold exitOk at h
  split at h
  · omega
  · split at h
    · omega
    · split at h
      · omega
      · split at h
        · omega
        · cases h
theorem fold_run {t : List Class} (ht : validT t = true) : ∀ (L : List Exi) (f : Fo) (c : Clo) (n : Nat), (∀ e ∈ L, exitOk t e = true) → CloOk t c n → RelC c (runF t f 0 none (-1) rs0) → RelC (L.foldl (stepX t) c) (runF t (L.foldl exitFo f) 0 none (-1) rs0)
  | [], f, c, n, _, _, h => h
  | e :: L, f, c, n, hL, hc, h => by
    rw [List.foldl_cons, List.foldl_cons]
    have he := hL e (List.mem_cons_self ..)
    exact fold_run ht L _ _ (n + 1) (fun x hx => hL x (List.mem_cons_of_mem _ hx)) (hc.step he) (exit_run ht hc.cls hc.cur (exit_kind he) h)
theorem start_run {t : List Class} (x : Sta) : RelC (startX x) (runF t (startFo x) 0 none (-1) rs0) := by
  unfold startX startFo
  cases hx : x.has
  · refine ⟨?_, ?_, ?_⟩ <;> simp [runF, lineR, lineS, RS.jump, jumpsK, inR, En.next, enC, rs0]
  · refine ⟨?_, ?_, ?_⟩ <;> simp [runF, lineR, lineS, RS.jump, jumpsK, inR, En.next, enC, rs0, RS.raise]
/-- Programs of exits do what exits do. -/
theorem exits_law {t : List Class} {l : List Exi} {x : Sta} (hl : validX t l = true) (hx : startOk t x = true) : resOf (runP t (progP l x)) = resM (closeX t l x) := by
  obtain ⟨ht, _⟩ := validX_T hl
  have hall : ∀ e ∈ l.reverse, exitOk t e = true := fun e he => by
    obtain ⟨i, hi, rfl⟩ := List.mem_iff_getElem.1 (List.mem_reverse.1 he)
    have := validX_at hl hi
    rwa [List.getD_eq_getElem?_getD, List.getElem?_eq_getElem hi] at this
  have key := fold_run ht l.reverse (startFo x) (startX x) 0 hall (CloOk.start hx) (start_run x)
  have e1 : runP t (progP l x) = runF t (progFo l x) 0 none (-1) rs0 := by rw [runP_def, prog_forest]
  have e2 : closeX t l x = l.reverse.foldl (stepX t) (startX x) := rfl
  rw [e1, e2]
  unfold progFo
  generalize runF t (l.reverse.foldl exitFo (startFo x)) 0 none (-1) rs0 = r at key
  generalize l.reverse.foldl (stepX t) (startX x) = c at key
  obtain ⟨k1, k2, k3⟩ := key
  unfold resM
  by_cases q : 0 ≤ c.cur
  · have e3 : r.1 = ⟨2, c.cur⟩ := by rw [k1]; unfold enC; rw [if_pos q]
    rw [if_pos q, res_two (by rw [e3]), k2, k3, e3]
    rfl
  · have e3 : r.1 = .next := by rw [k1]; unfold enC; rw [if_neg q]
    rw [if_neg q, res_else (by rw [e3]; decide), k2, e3]
    rfl
/-- How deep lines are. -/
def maxD (p : List Line) : Int := p.foldl (fun n x => max n x.depth) 0
theorem maxD_app (p q : List Line) (n : Int) : (p ++ q).foldl (fun n x => max n x.depth) n = q.foldl (fun n x => max n x.depth) (p.foldl (fun n x => max n x.depth) n) := List.foldl_append
theorem maxD_deep : ∀ (p : List Line) (n : Int), (p.map deepL).foldl (fun n x => max n x.depth) (n + 1) = p.foldl (fun n x => max n x.depth) n + 1
  | [], n => rfl
  | x :: p, n => by
    simp only [List.map_cons, List.foldl_cons]
    have : max (n + 1) (deepL x).depth = max n x.depth + 1 := by show max (n + 1) (x.depth + 1) = _; omega
    rw [this, maxD_deep p]
theorem maxD_ge : ∀ (p : List Line) (n : Int), n ≤ p.foldl (fun n x => max n x.depth) n
  | [], n => Int.le_refl _
  | x :: p, n => by
    simp only [List.foldl_cons]
    have := maxD_ge p (max n x.depth)
    omega
theorem exitP_deep {p : List Line} (hp : p ≠ []) (h0 : ∀ x ∈ p, 0 ≤ x.depth) (e : Exi) : maxD (exitP p e) = maxD p + 1 ∧ exitP p e ≠ [] ∧ ∀ x ∈ exitP p e, 0 ≤ x.depth := by
  have hip : innP p = p.map deepL := by unfold innP; rw [if_neg hp]
  refine ⟨?_, by simp [exitP], ?_⟩
  · obtain ⟨y, r, rfl⟩ := List.exists_cons_of_ne_nil hp
    have hy := h0 y (List.mem_cons_self ..)
    unfold exitP maxD
    rw [maxD_app, hip]
    have e1 : (⟨0, 7, 0, 0⟩ :: (y :: r).map deepL : List Line).foldl (fun n x => max n x.depth) 0 = (y :: r).foldl (fun n x => max n x.depth) 0 + 1 := by
      simp only [List.foldl_cons, List.map_cons]
      have e2 : max (max (0 : Int) 0) (deepL y).depth = max 0 y.depth + 1 := by show max (max (0 : Int) 0) (y.depth + 1) = _; omega
      rw [e2, maxD_deep]
    rw [e1]
    have hg := maxD_ge (y :: r) 0
    have ht : ∀ n : Int, 1 ≤ n → (tailL e).foldl (fun n x => max n x.depth) n = n := by
      intro n hn
      unfold tailL
      split
      · simp only [List.foldl_cons, List.foldl_nil]; omega
      · split
        · simp only [List.foldl_cons, List.foldl_nil]; omega
        · split
          · simp only [List.foldl_cons, List.foldl_nil]; omega
          · simp only [List.foldl_cons, List.foldl_nil]; omega
    exact ht _ (by omega)
  · intro x hx
    unfold exitP at hx
    rw [hip] at hx
    simp only [List.mem_append, List.mem_cons, List.mem_map] at hx
    rcases hx with (rfl | ⟨z, hz, rfl⟩) | hx
    · exact Int.le_refl _
    · have := h0 z hz; show 0 ≤ z.depth + 1; omega
    · unfold tailL at hx
      split at hx
      · simp at hx; rcases hx with rfl | rfl <;> simp
      · split at hx
        · simp at hx; rcases hx with rfl | rfl | rfl <;> simp
        · split at hx
          · simp at hx; rcases hx with rfl | rfl <;> simp
          · simp at hx; rcases hx with rfl | rfl <;> simp
theorem fold_deep : ∀ (L : List Exi) (p : List Line), p ≠ [] → (∀ x ∈ p, 0 ≤ x.depth) → maxD (L.foldl exitP p) = maxD p + L.length
  | [], p, _, _ => by simp
  | e :: L, p, hp, h0 => by
    obtain ⟨h1, h2, h3⟩ := exitP_deep hp h0 e
    rw [List.foldl_cons, fold_deep L _ h2 h3, h1, List.length_cons]; omega
theorem prog_deep (l : List Exi) (x : Sta) : maxD (progP l x) = l.length := by
  have hs : startP x ≠ [] ∧ (∀ y ∈ startP x, 0 ≤ y.depth) ∧ maxD (startP x) = 0 := by
    unfold startP
    split
    · exact ⟨by simp, by simp, by simp [maxD]⟩
    · exact ⟨by simp, by simp, by simp [maxD]⟩
  unfold progP
  rw [fold_deep _ _ hs.1 hs.2.1, hs.2.2, List.length_reverse]; omega
end
section
open Go Go.Sim
set_option maxRecDepth 100000
set_option maxHeartbeats 4000000

theorem At.sub {p : List Line} {i : Nat} {d : Int} {f : Fo} (h : At p i d f) : (p.take (i + f.size)).drop i = f.flat d := by
  obtain ⟨pre, post, rfl, rfl, _⟩ := h
  have e1 : (pre ++ (f.flat d ++ post)).take (pre.length + f.size) = pre ++ f.flat d := by
    rw [← List.append_assoc, ← flat_len f d, ← List.length_append, List.take_left]
  rw [e1, List.drop_left]
theorem line_eq (x y : Line) : (decide (x.depth = y.depth) && (decide (x.kind = y.kind) && (decide (x.a = y.a) && decide (x.b = y.b)))) = decide (x = y) := by
  rw [Bool.eq_iff_iff]
  simp only [Bool.and_eq_true, decide_eq_true_eq]
  constructor
  · rintro ⟨h1, h2, h3, h4⟩
    cases x; cases y; simp_all
  · rintro rfl; simp
theorem c_equalLines (a b : List Line) (ca cb : Bool) (H : AHeap) : ACalls Tryz.prog 17 [aProg a ca, aProg b cb] H fun r H' => r = B (decide (a = b)) ∧ H' = H := by
  refine acalls_len (by kernel_rfl) (List.mem_cons_self ..) fun hl => ?_
  rw [List.length_map] at hl
  refine acalls_of0 Tryz.func17 rfl (by kernel_rfl) rfl rfl (awp_sound (fz := fun _ => []) (im := fun _ => false) mixed _ _ _ _ (by kernel_rfl) ?_)
  by_cases hab : a.length = b.length
  · simp +contextual -dsimp -implicitDefEqProofs (maxSteps := 5000000) only [go_sem, reduceIte, reduceCtorEq, Nat.reduceEqDiff, Nat.reduceBEq, Nat.reduceAdd, Nat.reduceLeDiff, Nat.reduceMul, Nat.reduceLT, Int.reduceEq, Int.reduceLT, Int.reduceLE, hab]
    refine aloop mixed (fz := fun _ => []) (im := fun _ => false) (by kernel_rfl) (fun m tm H' => ∃ k : Nat, m = a.length - k ∧ k ≤ a.length ∧ H' = H ∧ tm 0 = aProg a ca ∧ tm 1 = aProg b cb ∧ tm 5 = I k ∧ ∀ i, i < k → i < a.length → a.getD i default = b.getD i default) a.length ⟨0, by omega, by omega, rfl, ?_⟩ ?_
    · simp +contextual -dsimp -implicitDefEqProofs (maxSteps := 5000000) only [go_sem, reduceIte, reduceCtorEq, Nat.reduceEqDiff, Nat.reduceBEq, Nat.reduceAdd, Nat.reduceLeDiff, Nat.reduceMul, Nat.reduceLT, Int.reduceEq, Int.reduceLT, Int.reduceLE]
      exact fun i hi => by omega
    · rintro m tm H ⟨k, rfl, hk, rfl, h0, h1, h5, he⟩
      by_cases h : k < a.length
      · have h' : k < b.length := by omega
        simp +contextual -dsimp -implicitDefEqProofs (maxSteps := 5000000) only [go_sem, reduceIte, reduceCtorEq, Nat.reduceEqDiff, Nat.reduceBEq, Nat.reduceAdd, Nat.reduceLeDiff, Nat.reduceMul, Nat.reduceLT, Int.reduceEq, Int.reduceLT, Int.reduceLE, h0, h1, h5, h]
        refine draw_intro [0, 0, 0, 0, 0, 0, 0, 0, 0] AHeap.none (by kernel_rfl) none_le ?_
        simp +contextual -dsimp -implicitDefEqProofs (maxSteps := 5000000) only [go_sem, reduceIte, reduceCtorEq, Nat.reduceEqDiff, Nat.reduceBEq, Nat.reduceAdd, Nat.reduceLeDiff, Nat.reduceMul, Nat.reduceLT, Int.reduceEq, Int.reduceLT, Int.reduceLE, h0, h1, h5, h, h', line_eq]
        refine ⟨fun hb => ?_, fun hb => ⟨_, ?_, k + 1, rfl, h, I_wrap (by omega) (by omega) (by omega), ?_⟩⟩
        · rw [decide_eq_false (fun e => hb (by rw [e]))]
        · omega
        · intro i hi hi'
          rcases Nat.lt_or_ge i k with q | q
          · exact he i q hi'
          · have : i = k := by omega
            subst this; exact hb
      · simp +contextual -dsimp -implicitDefEqProofs (maxSteps := 5000000) only [go_sem, reduceIte, reduceCtorEq, Nat.reduceEqDiff, Nat.reduceBEq, Nat.reduceAdd, Nat.reduceLeDiff, Nat.reduceMul, Nat.reduceLT, Int.reduceEq, Int.reduceLT, Int.reduceLE, h0, h1, h5, h]
        rw [decide_eq_true (list_eq_of hab (Nat.le_of_not_lt h) he)]
  · have hab' : ¬ (a.length : Int) = b.length := by omega
    simp +contextual -dsimp -implicitDefEqProofs (maxSteps := 5000000) only [go_sem, reduceIte, reduceCtorEq, Nat.reduceEqDiff, Nat.reduceBEq, Nat.reduceAdd, Nat.reduceLeDiff, Nat.reduceMul, Nat.reduceLT, Int.reduceEq, Int.reduceLT, Int.reduceLE, hab']
    rw [decide_eq_false (fun e => hab (by rw [e]))]
theorem app_lines {H0 H : AHeap} {x : AV} {out m : List Line} {es : List (List AV)} {cl : Bool} {K : AV → AHeap → Prop} {g : Tag (H, K)} (hg : Grow rLine 4 50 H0 H x out) (hb : out.length + m.length ≤ 1000000) (he : es = m.map rLine) (k : ∀ x' H', Grow rLine 4 50 H0 H' x' (out ++ m) → K x' H') : appT Tryz.prog H 26 x (.vsl es cl) K g :=
  grow_append (m := m) te26 ti50 rLine_len (by decide) hg (by show (out.length + m.length) * 32 ≤ _; omega) (by omega) he fun x' H'' hg' => k x' H'' hg'
end
section
open Go Go.Sim
set_option maxRecDepth 100000
set_option maxHeartbeats 4000000

/-- A function that draws lines into a block of their own. -/
def Drawn (f : FuncId) (p : Nat) (d : Int) : Prop := ∀ (F : AHeap) (br n : Nat) (K : ABlk) (t : List Class) (cl : Bool) (lp : Bool), RdK n K → F br = none → n + p < 600000000 →
  ACalls Tryz.prog f [.ptr br 2 0 0, aTree t cl, I d, B lp] (F.set br K) fun r H' => ∃ (l : List Line) (G : AHeap) (K' : ABlk), Grow rLine 4 50 F G r l ∧ G br = none ∧ H' = G.set br K' ∧ RdK (n + p) K' ∧ 1 ≤ l.length ∧ l.length ≤ p
/-- The same, told when nobody writes them any more. -/
def DrawnF (f : FuncId) (p : Nat) (d : Int) : Prop := ∀ (F : AHeap) (br n : Nat) (K : ABlk) (t : List Class) (cl : Bool) (lp : Bool), RdK n K → F br = none → n + p < 600000000 →
  ACalls Tryz.prog f [.ptr br 2 0 0, aTree t cl, I d, B lp] (F.set br K) fun r H' => ∃ (l : List Line) (cl' : Bool) (K' : ABlk), r = .vsl (l.map rLine) cl' ∧ H' = F.set br K' ∧ RdK (n + p) K' ∧ 1 ≤ l.length ∧ l.length ≤ p
theorem Drawn.frz {f : FuncId} {p : Nat} {d : Int} (h : Drawn f p d) : DrawnF f p d := by
  intro F br n K t cl lp hK hF hn
  refine acalls_fz (h F br n K t cl lp hK hF hn) ?_
  rintro x _ ⟨l, G, K', hg, hr, rfl, hK', h1, h2⟩
  have hg' := grow_in (K := K') hg hr
  obtain ⟨cl', hz⟩ := grow_fz hg'
  exact ⟨_, F.set br K', grow_le hg', hz, l, cl', K', rfl, rfl, hK', h1, h2⟩
/-- Lines put behind a line that stands alone. -/
theorem app_lit {H : AHeap} {y : Line} {l : List Line} {cl : Bool} {d : AV} {K : AV → AHeap → Prop} {g : Tag (H, K)} (hd : d = .vsl [rLine y] true) (hl : 1 ≤ l.length) (hb : l.length ≤ 1000000) (k : ∀ x' H', Grow rLine 4 50 H H' x' (y :: l) → K x' H') : appT Tryz.prog H 26 d (.vsl (l.map rLine) cl) K g := by
  subst hd
  show appendA Tryz.prog H 26 (.vsl [rLine y] true) (.vsl (l.map rLine) cl) K
  have hmax : maxLen = 9223372036854775807 := rfl
  unfold appendA
  simp only [te26, ti50, rowsOf]
  refine ⟨by decide, fun r hr => by simp at hr; obtain ⟨y, _, rfl⟩ := hr; rfl, fun r hr => by simp at hr; subst hr; rfl, by simp; omega, by simp; omega, fun e => ?_, fun e => ⟨trivial, fun b' hb' => ?_⟩⟩
  · have : l = [] := by simpa using e
    rw [this] at hl; simp at hl
  · refine k _ _ (.inr ⟨b', false, hb', by simp [Nat.add_comm], by simp⟩)
end
section
open Go Go.Sim
set_option maxRecDepth 100000
set_option maxHeartbeats 4000000

theorem c_ClipL (l : List Line) (cl : Bool) (H : AHeap) : ACalls Tryz.prog 91 [aProg l cl] H fun r H' => r = aProg l true ∧ H' = H := by
  refine acalls_len (by kernel_rfl) (List.mem_cons_self ..) fun hl => ?_
  rw [List.length_map] at hl
  refine acalls_of0 Tryz.func91 rfl (by kernel_rfl) rfl rfl (awp_sound (fz := fun _ => []) (im := fun _ => false) mixed _ _ _ _ (by kernel_rfl) ?_)
  simp +contextual -dsimp -implicitDefEqProofs (maxSteps := 5000000) only [go_sem, reduceIte, reduceCtorEq, Nat.reduceEqDiff, Nat.reduceBEq, Nat.reduceAdd, Nat.reduceLeDiff, Nat.reduceMul, Nat.reduceLT, Int.reduceEq, Int.reduceLT, Int.reduceLE, List.take_length]
  exact Nat.le_refl _
/-- A program, if it is valid. -/
noncomputable def madeF (t : List Class) (p : List Line) : List Line := if validB t p = true then p else []
theorem c_programMade (t : List Class) (cl : Bool) (p : List Line) (cl' : Bool) (H : AHeap) (hn : namesOk t) (hp : p.length ≤ 4398046511104) : ACalls Tryz.prog 48 [aTree t cl, aProg p cl'] H fun r H' => (∃ c, r = .tup [aProg (madeF t p) c, B (validB t p)]) ∧ H' = H := by
  refine acalls_of0 Tryz.func48 rfl (by kernel_rfl) rfl rfl (awp_sound (fz := fun _ => []) (im := fun s => s == 2) mixed _ _ _ _ (by kernel_rfl) ?_)
  simp +contextual -dsimp -implicitDefEqProofs (maxSteps := 5000000) only [go_sem, reduceIte, reduceCtorEq, Nat.reduceEqDiff, Nat.reduceBEq, Nat.reduceAdd, Nat.reduceLeDiff, Nat.reduceMul, Nat.reduceLT, Int.reduceEq, Int.reduceLT, Int.reduceLE]
  refine (c_ValidProgram t cl p cl' _ hn hp).det ?_
  unfold madeF
  cases hv : validB t p
  · simp +contextual -dsimp -implicitDefEqProofs (maxSteps := 5000000) only [go_sem, reduceIte, reduceCtorEq, Nat.reduceEqDiff, Nat.reduceBEq, Nat.reduceAdd, Nat.reduceLeDiff, Nat.reduceMul, Nat.reduceLT, Int.reduceEq, Int.reduceLT, Int.reduceLE]
    exact ⟨true, rfl⟩
  · simp +contextual -dsimp -implicitDefEqProofs (maxSteps := 5000000) only [go_sem, reduceIte, reduceCtorEq, Nat.reduceEqDiff, Nat.reduceBEq, Nat.reduceAdd, Nat.reduceLeDiff, Nat.reduceMul, Nat.reduceLT, Int.reduceEq, Int.reduceLT, Int.reduceLE]
    refine (c_ClipL p cl' _).det ?_
    simp +contextual -dsimp -implicitDefEqProofs (maxSteps := 5000000) only [go_sem, reduceIte, reduceCtorEq, Nat.reduceEqDiff, Nat.reduceBEq, Nat.reduceAdd, Nat.reduceLeDiff, Nat.reduceMul, Nat.reduceLT, Int.reduceEq, Int.reduceLT, Int.reduceLE]
    exact ⟨true, rfl⟩
theorem c_checkedProgram (t : List Class) (cl : Bool) (p : List Line) (cl' : Bool) (H : AHeap) (hn : namesOk t) (hp : p.length ≤ 4398046511104) : ACalls Tryz.prog 52 [aTree t cl, aProg p cl'] H fun r H' => (∃ c, r = .tup [aProg (madeF t p) c, B (validB t p)]) ∧ H' = H := by
  refine acalls_of0 Tryz.func52 rfl (by kernel_rfl) rfl rfl (awp_sound (fz := fun _ => []) (im := fun s => s == 2) mixed _ _ _ _ (by kernel_rfl) ?_)
  simp +contextual -dsimp -implicitDefEqProofs (maxSteps := 5000000) only [go_sem, reduceIte, reduceCtorEq, Nat.reduceEqDiff, Nat.reduceBEq, Nat.reduceAdd, Nat.reduceLeDiff, Nat.reduceMul, Nat.reduceLT, Int.reduceEq, Int.reduceLT, Int.reduceLE]
  refine (c_svalidProgram t cl p cl' _ hn hp).det ?_
  unfold madeF
  cases hv : validB t p
  · simp +contextual -dsimp -implicitDefEqProofs (maxSteps := 5000000) only [go_sem, reduceIte, reduceCtorEq, Nat.reduceEqDiff, Nat.reduceBEq, Nat.reduceAdd, Nat.reduceLeDiff, Nat.reduceMul, Nat.reduceLT, Int.reduceEq, Int.reduceLT, Int.reduceLE]
    exact ⟨true, rfl⟩
  · simp +contextual -dsimp -implicitDefEqProofs (maxSteps := 5000000) only [go_sem, reduceIte, reduceCtorEq, Nat.reduceEqDiff, Nat.reduceBEq, Nat.reduceAdd, Nat.reduceLeDiff, Nat.reduceMul, Nat.reduceLT, Int.reduceEq, Int.reduceLT, Int.reduceLE]
    exact ⟨cl', rfl⟩
end
section
open Go Go.Sim
set_option maxRecDepth 100000
set_option maxHeartbeats 4000000

theorem c_GrowL (n : Nat) (H : AHeap) (hn : n ≤ 1000000) : ACalls Tryz.prog 92 [.vsl [] true, I n] H fun r H' => Grow rLine 4 50 H H' r [] := by
  rcases Nat.eq_zero_or_pos n with h0 | h0
  · subst h0
    refine (acalls_grow0 (by kernel_rfl) fun base w => ?_).mono ?_
    · exact Tryz.growRoomLine base 0 0 0 w (by omega) (by omega) (by omega) (by omega)
    · rintro _ _ ⟨rfl, rfl⟩
      exact grow_nil
  · obtain ⟨i, d, z, hi, hd, hz, hsz, hby, hag, hzl, hzs, hz1⟩ := tinfo_spec ti50
    have hzz : z.cells.size = 4 := by rw [hzs]
    refine acalls_growN (bytes := i.bytes) (by kernel_rfl) (by decide) (fun base m w hm hb h63 => ?_) h0 (by rw [hby]; show n * 32 ≤ _; omega) (by omega)
    refine (Any8.slices_Grow_grow Tryz.laysGrowLine i z hi hz (by rw [hsz]; decide) base 0 0 m [] w (by omega) (by omega) (by simpa using hb) (by simpa using h63) (by simp) (fun _ => rfl) (fun a _ j v hj => by simp at hj)).mono ?_
    rintro e w' ⟨rfl, rfl⟩
    refine ⟨by rw [Nat.zero_add]; rfl, _, rfl, ?_⟩
    have hge := grownCap_ge w (0 + m) 0 (Tryz.laysGrowLine_ren.t 25)
    simp only [Array.size_append, size_zeroCells, hzz, List.size_toArray, List.length_nil, Nat.zero_add, ← Nat.add_mul] at hge ⊢
    refine Nat.mul_le_mul_right _ ?_
    show grownCap w m 0 (Tryz.laysGrowLine_ren.t 25) ≤ _
    omega
def rSeg (q : List Line × Bool) : List AV := [.vsl (q.1.map rLine) q.2]
theorem rSeg_len (q : List Line × Bool) : (rSeg q).length = 1 := rfl
def segs (ps : List (List Line × Bool)) : List Line := (ps.map (·.1)).flatten
theorem segs_next {ps : List (List Line × Bool)} {k : Nat} (h : k < ps.length) : segs (ps.take (k + 1)) = segs (ps.take k) ++ (ps.getD k default).1 := by
  unfold segs
  rw [List.take_succ_eq_append_getElem h, List.map_append, List.flatten_append, List.getD_eq_getElem?_getD, List.getElem?_eq_getElem h]
  simp
theorem segs_le (ps : List (List Line × Bool)) (k : Nat) : (segs (ps.take k)).length ≤ (segs ps).length := by
  have : segs ps = segs (ps.take k) ++ segs (ps.drop k) := by
    unfold segs
    rw [← List.flatten_append, ← List.map_append, List.take_append_drop]
  rw [this, List.length_append]; omega
theorem c_ConcatL (ps : List (List Line × Bool)) (cl : Bool) (H : AHeap) (hb : (segs ps).length ≤ 1000000) : ACalls Tryz.prog 49 [.vsl (ps.map rSeg) cl] H fun r H' => Grow rLine 4 50 H H' r (segs ps) := by
  refine acalls_len (by kernel_rfl) (List.mem_cons_self ..) fun hl => ?_
  rw [List.length_map] at hl
  refine acalls_of0 Tryz.func49 rfl (by kernel_rfl) rfl rfl (awp_sound (fz := fun _ => []) (im := fun _ => false) mixed _ _ _ _ (by kernel_rfl) ?_)
  simp +contextual -dsimp -implicitDefEqProofs (maxSteps := 5000000) only [go_sem, reduceIte, reduceCtorEq, Nat.reduceEqDiff, Nat.reduceBEq, Nat.reduceAdd, Nat.reduceLeDiff, Nat.reduceMul, Nat.reduceLT, Int.reduceEq, Int.reduceLT, Int.reduceLE]
  refine aloop mixed (fz := fun _ => []) (im := fun _ => false) (by kernel_rfl) (fun m tm H' => ∃ k : Nat, m = ps.length - k ∧ k ≤ ps.length ∧ H' = H ∧ tm 0 = .vsl (ps.map rSeg) cl ∧ tm 3 = I (segs (ps.take k)).length ∧ tm 9 = .vsl (ps.map rSeg) cl ∧ tm 10 = I ps.length ∧ tm 11 = I k) ps.length ⟨0, by omega, by omega, rfl, ?_⟩ ?_
  · simp +contextual -dsimp -implicitDefEqProofs (maxSteps := 5000000) only [go_sem, reduceIte, reduceCtorEq, Nat.reduceEqDiff, Nat.reduceBEq, Nat.reduceAdd, Nat.reduceLeDiff, Nat.reduceMul, Nat.reduceLT, Int.reduceEq, Int.reduceLT, Int.reduceLE]
    rfl
  · rintro m tm H ⟨k, rfl, hk, rfl, t0, t3, t9, t10, t11⟩
    by_cases hlt : k < ps.length
    · have h1 := segs_next hlt
      have h2 := segs_le ps (k + 1)
      rw [h1, List.length_append] at h2
      have hw : IntKind.i64.wrap (((segs (ps.take k)).length : Int) + ((ps.getD k default).1.length : Int)) = (((segs (ps.take (k + 1))).length : Nat) : Int) := by rw [h1, List.length_append, w64 (by omega) (by omega)]; omega
      have hnn : ¬ ((segs (ps.take (k + 1))).length : Int) < 0 := by omega
      simp +contextual -dsimp -implicitDefEqProofs (maxSteps := 5000000) only [go_sem, reduceIte, reduceCtorEq, Nat.reduceEqDiff, Nat.reduceBEq, Nat.reduceAdd, Nat.reduceLeDiff, Nat.reduceMul, Nat.reduceLT, Int.reduceEq, Int.reduceLT, Int.reduceLE, ixv te133 ti26 rSeg_len (show 0 < 1 by decide), rSeg, Nat.lt_irrefl, t0, t3, t9, t10, t11, hlt, hw, hnn]
      exact ⟨_, by omega, k + 1, rfl, hlt, rfl, I_wrap (by omega) (by omega) (by omega)⟩
    · have hke : k = ps.length := by omega
      subst hke
      rw [List.take_length] at t3
      simp +contextual -dsimp -implicitDefEqProofs (maxSteps := 5000000) only [go_sem, reduceIte, reduceCtorEq, Nat.reduceEqDiff, Nat.reduceBEq, Nat.reduceAdd, Nat.reduceLeDiff, Nat.reduceMul, Nat.reduceLT, Int.reduceEq, Int.reduceLT, Int.reduceLE, ixv te133 ti26 rSeg_len (show 0 < 1 by decide), rSeg, Nat.lt_irrefl, t0, t3, t9, t10, t11]
      refine (c_GrowL _ _ hb).mono ?_
      intro x H1 hg
      simp +contextual -dsimp -implicitDefEqProofs (maxSteps := 5000000) only [go_sem, reduceIte, reduceCtorEq, Nat.reduceEqDiff, Nat.reduceBEq, Nat.reduceAdd, Nat.reduceLeDiff, Nat.reduceMul, Nat.reduceLT, Int.reduceEq, Int.reduceLT, Int.reduceLE, ixv te133 ti26 rSeg_len (show 0 < 1 by decide), rSeg, Nat.lt_irrefl, t0, t3, t9, t10, t11]
      refine aloop mixed (fz := fun _ => []) (im := fun _ => false) (by kernel_rfl) (fun m tm H' => ∃ (k : Nat) (x : AV), m = ps.length - k ∧ k ≤ ps.length ∧ Grow rLine 4 50 H H' x (segs (ps.take k)) ∧ tm 6 = x ∧ tm 25 = .vsl (ps.map rSeg) cl ∧ tm 26 = I ps.length ∧ tm 27 = I k) ps.length ⟨0, x, by omega, by omega, by simpa [segs] using hg, ?_⟩ ?_
      · simp +contextual -dsimp -implicitDefEqProofs (maxSteps := 5000000) only [go_sem, reduceIte, reduceCtorEq, Nat.reduceEqDiff, Nat.reduceBEq, Nat.reduceAdd, Nat.reduceLeDiff, Nat.reduceMul, Nat.reduceLT, Int.reduceEq, Int.reduceLT, Int.reduceLE, ixv te133 ti26 rSeg_len (show 0 < 1 by decide), rSeg, Nat.lt_irrefl, t0]
      · rintro m tm H' ⟨k, x, rfl, hk, hg, t6, t25, t26, t27⟩
        by_cases hlt : k < ps.length
        · have h1 := segs_next hlt
          have h2 := segs_le ps (k + 1)
          rw [h1, List.length_append] at h2
          simp +contextual -dsimp -implicitDefEqProofs (maxSteps := 5000000) only [go_sem, reduceIte, reduceCtorEq, Nat.reduceEqDiff, Nat.reduceBEq, Nat.reduceAdd, Nat.reduceLeDiff, Nat.reduceMul, Nat.reduceLT, Int.reduceEq, Int.reduceLT, Int.reduceLE, ixv te133 ti26 rSeg_len (show 0 < 1 by decide), rSeg, Nat.lt_irrefl, t6, t25, t26, t27, hlt]
          refine app_lines (m := (ps.getD k default).1) hg (by omega) rfl fun x' H'' hg' => ?_
          simp +contextual -dsimp -implicitDefEqProofs (maxSteps := 5000000) only [go_sem, reduceIte, reduceCtorEq, Nat.reduceEqDiff, Nat.reduceBEq, Nat.reduceAdd, Nat.reduceLeDiff, Nat.reduceMul, Nat.reduceLT, Int.reduceEq, Int.reduceLT, Int.reduceLE, ixv te133 ti26 rSeg_len (show 0 < 1 by decide), rSeg, Nat.lt_irrefl, t6, t25, t26, t27, hlt]
          exact ⟨_, by omega, k + 1, x', rfl, hlt, by rw [h1]; exact hg', rfl, I_wrap (by omega) (by omega) (by omega)⟩
        · simp +contextual -dsimp -implicitDefEqProofs (maxSteps := 5000000) only [go_sem, reduceIte, reduceCtorEq, Nat.reduceEqDiff, Nat.reduceBEq, Nat.reduceAdd, Nat.reduceLeDiff, Nat.reduceMul, Nat.reduceLT, Int.reduceEq, Int.reduceLT, Int.reduceLE, ixv te133 ti26 rSeg_len (show 0 < 1 by decide), rSeg, Nat.lt_irrefl, t6, t25, t26, t27, hlt]
          rw [show k = ps.length by omega, List.take_length] at hg
          exact hg
end
section
open Go Go.Sim
set_option maxRecDepth 100000
set_option maxHeartbeats 4000000
theorem getD_mem {l : List Line} {k : Nat} (h : k < l.length) : l.getD k default ∈ l := by
  rw [List.getD_eq_getElem?_getD, List.getElem?_eq_getElem h]; exact List.getElem_mem h
theorem take_nextL {l : List Line} {k : Nat} (h : k < l.length) : l.take (k + 1) = l.take k ++ [l.getD k default] := by
  rw [List.take_succ_eq_append_getElem h, List.getD_eq_getElem?_getD, List.getElem?_eq_getElem h]; rfl
theorem c_innerD (p : List Line) (cl : Bool) (H : AHeap) (hp : p.length ≤ 1000) (hd : ∀ x ∈ p, 0 ≤ x.depth ∧ x.depth ≤ 100) : ACalls Tryz.prog 50 [aProg p cl] H fun r H' => (∃ c, r = aProg (innP p) c) ∧ H' = H := by
  refine acalls_of1 Tryz.func50 rfl (by kernel_rfl) rfl rfl (awp_sound (fz := fun r => if r = 7 then [5] else []) (im := fun s => s == 10 || s == 26) mixed _ _ _ _ (by kernel_rfl) ?_)
  simp +contextual -dsimp -implicitDefEqProofs (maxSteps := 5000000) only [go_sem, reduceIte, reduceCtorEq, Nat.reduceEqDiff, Nat.reduceBEq, Nat.reduceAdd, Nat.reduceLeDiff, Nat.reduceMul, Nat.reduceLT, Int.reduceEq, Int.reduceLT, Int.reduceLE]
  refine ⟨fun h0 => ?_, fun h0 => ?_⟩
  · have hp0 : p = [] := List.eq_nil_of_length_eq_zero (by omega)
    subst hp0
    refine retR_less (l := [aProg (innP []) true]) (H' := H) ?_ (AHeap.le_refl _) ⟨⟨true, rfl⟩, rfl⟩
    simp only [resA, go_sem, reduceIte, reduceCtorEq, Nat.reduceEqDiff, Nat.reduceBEq, Nat.reduceAdd, Nat.reduceLeDiff, Nat.reduceMul, Nat.reduceLT, Int.reduceEq, Int.reduceLT, Int.reduceLE]
    try rfl
  · have hip : innP p = p.map deepL := by unfold innP; rw [if_neg (fun e => h0 (by rw [e]; rfl))]
    rw [hip]
    refine ⟨by omega, by omega, fun b3 hb3 => ?_⟩
    refine aloop mixed (fz := fun r => if r = 7 then [5] else []) (im := fun s => s == 10 || s == 26) (by kernel_rfl) (fun m tm H' => ∃ (k : Nat) (x : AV), m = p.length - k ∧ k ≤ p.length ∧ Grow rLine 4 50 H H' x ((p.take k).map deepL) ∧ tm 3 = x ∧ tm 14 = aProg p cl ∧ tm 15 = I p.length ∧ tm 16 = I k) p.length ⟨0, .sl b3 4 0 0 false, by omega, by omega, grow_new hb3, ?_⟩ ?_
    · simp +contextual -dsimp -implicitDefEqProofs (maxSteps := 5000000) only [go_sem, reduceIte, reduceCtorEq, Nat.reduceEqDiff, Nat.reduceBEq, Nat.reduceAdd, Nat.reduceLeDiff, Nat.reduceMul, Nat.reduceLT, Int.reduceEq, Int.reduceLT, Int.reduceLE]
    · rintro m tm H' ⟨k, x, rfl, hk, hg, t3, t14, t15, t16⟩
      by_cases hlt : k < p.length
      · have hdk := hd _ (getD_mem hlt)
        have hw : IntKind.i64.wrap ((p.getD k default).depth + 1) = (p.getD k default).depth + 1 := w64 (by omega) (by omega)
        simp +contextual -dsimp -implicitDefEqProofs (maxSteps := 5000000) only [go_sem, reduceIte, reduceCtorEq, Nat.reduceEqDiff, Nat.reduceBEq, Nat.reduceAdd, Nat.reduceLeDiff, Nat.reduceMul, Nat.reduceLT, Int.reduceEq, Int.reduceLT, Int.reduceLE, t3, t14, t15, t16, hlt]
        intro b5 hb5
        rw [hw]
        refine app_lines (m := [deepL (p.getD k default)]) hg (by simp; omega) rfl fun x' H'' hg' => ?_
        simp +contextual -dsimp -implicitDefEqProofs (maxSteps := 5000000) only [go_sem, reduceIte, reduceCtorEq, Nat.reduceEqDiff, Nat.reduceBEq, Nat.reduceAdd, Nat.reduceLeDiff, Nat.reduceMul, Nat.reduceLT, Int.reduceEq, Int.reduceLT, Int.reduceLE, t3, t14, t15, t16, hlt]
        exact ⟨_, by omega, k + 1, x', rfl, hlt, by rw [take_nextL hlt, List.map_append]; exact hg', rfl, I_wrap (by omega) (by omega) (by omega)⟩
      · rw [show k = p.length by omega, List.take_length] at hg
        simp +contextual -dsimp -implicitDefEqProofs (maxSteps := 5000000) only [go_sem, reduceIte, reduceCtorEq, Nat.reduceEqDiff, Nat.reduceBEq, Nat.reduceAdd, Nat.reduceLeDiff, Nat.reduceMul, Nat.reduceLT, Int.reduceEq, Int.reduceLT, Int.reduceLE, t3, t14, t15, t16, hlt]
        refine grow_frz (t := 2) (by simpa only [upd_same] using hg) fun c => ?_
        refine retR_less (l := [aProg (p.map deepL) c]) (H' := H) ?_ (AHeap.le_refl _) ⟨⟨c, rfl⟩, rfl⟩
        simp only [resA, go_sem, reduceIte, reduceCtorEq, Nat.reduceEqDiff, Nat.reduceBEq, Nat.reduceAdd, Nat.reduceLeDiff, Nat.reduceMul, Nat.reduceLT, Int.reduceEq, Int.reduceLT, Int.reduceLE]
/-- Lines that are half made deeper. -/
def halfL (p : List Line) (k : Nat) : List Line := (p.take k).map deepL ++ p.drop k
theorem halfL_len {p : List Line} {k : Nat} (h : k ≤ p.length) : (halfL p k).length = p.length := by simp [halfL]; omega
theorem halfL_at {p : List Line} {k : Nat} (h : k < p.length) : (halfL p k).getD k default = p.getD k default := by
  unfold halfL
  simp only [List.getD_eq_getElem?_getD]
  rw [List.getElem?_append_right (by simp; omega)]
  simp [Nat.min_eq_left (Nat.le_of_lt h)]
theorem halfL_set {p : List Line} {k : Nat} (h : k < p.length) : (halfL p k).set k (deepL (p.getD k default)) = halfL p (k + 1) := by
  unfold halfL
  rw [List.set_append_right _ _ (by simp; omega), take_nextL h, List.map_append, List.append_assoc]
  congr 1
  have e : k - ((p.take k).map deepL).length = 0 := by simp; omega
  rw [e]
  have e2 : p.getD k default = p[k] := by simp [List.getD_eq_getElem?_getD, h]
  rw [e2, List.drop_eq_getElem_cons h]; rfl
theorem c_indent (p : List Line) (cl : Bool) (H : AHeap) (hp : p.length ≤ 1000) (h0 : p ≠ []) (hd : ∀ x ∈ p, 0 ≤ x.depth ∧ x.depth ≤ 100) : ACalls Tryz.prog 93 [aProg p cl] H fun r H' => Grow rLine 4 50 H H' r (p.map deepL) := by
  refine acalls_of0 Tryz.func93 rfl (by kernel_rfl) rfl rfl (awp_sound (fz := fun _ => []) (im := fun s => s == 5) mixed _ _ _ _ (by kernel_rfl) ?_)
  simp +contextual -dsimp -implicitDefEqProofs (maxSteps := 5000000) only [go_sem, reduceIte, reduceCtorEq, Nat.reduceEqDiff, Nat.reduceBEq, Nat.reduceAdd, Nat.reduceLeDiff, Nat.reduceMul, Nat.reduceLT, Int.reduceEq, Int.reduceLT, Int.reduceLE]
  refine app_lines (m := p) grow_nil (by simp; omega) rfl fun x' H' hg => ?_
  rcases hg with ⟨e, _, _⟩ | ⟨bx, c, hbx, rfl, rfl⟩
  · exact absurd (by simpa using e) h0
  simp +contextual -dsimp -implicitDefEqProofs (maxSteps := 5000000) only [go_sem, reduceIte, reduceCtorEq, Nat.reduceEqDiff, Nat.reduceBEq, Nat.reduceAdd, Nat.reduceLeDiff, Nat.reduceMul, Nat.reduceLT, Int.reduceEq, Int.reduceLT, Int.reduceLE]
  refine aloop mixed (fz := fun _ => []) (im := fun s => s == 5) (by kernel_rfl) (fun m tm H' => ∃ (k : Nat), m = p.length - k ∧ k ≤ p.length ∧ H' = H.set bx ⟨4, 50, (halfL p k).map rLine⟩ ∧ tm 3 = .sl bx 4 0 p.length c ∧ tm 4 = I k) p.length ⟨0, by omega, by omega, by simp [halfL], ?_⟩ ?_
  · simp +contextual -dsimp -implicitDefEqProofs (maxSteps := 5000000) only [go_sem, reduceIte, reduceCtorEq, Nat.reduceEqDiff, Nat.reduceBEq, Nat.reduceAdd, Nat.reduceLeDiff, Nat.reduceMul, Nat.reduceLT, Int.reduceEq, Int.reduceLT, Int.reduceLE]
  · rintro m tm H' ⟨k, rfl, hk, rfl, t3, t4⟩
    by_cases hlt : k < p.length
    · have hdk := hd _ (getD_mem hlt)
      have hw : IntKind.i64.wrap ((p.getD k default).depth + 1) = (p.getD k default).depth + 1 := w64 (by omega) (by omega)
      have hl2 : k < (halfL p k).length := by rw [halfL_len hk]; exact hlt
      simp +contextual -dsimp -implicitDefEqProofs (maxSteps := 5000000) only [go_sem, reduceIte, reduceCtorEq, Nat.reduceEqDiff, Nat.reduceBEq, Nat.reduceAdd, Nat.reduceLeDiff, Nat.reduceMul, Nat.reduceLT, Int.reduceEq, Int.reduceLT, Int.reduceLE, t3, t4, hlt, hl2, halfL_at hlt, hw]
      rw [wrO_y (y := deepL (p.getD k default)) hl2 (by rw [halfL_at hlt]; rfl), halfL_set hlt]
      simp +contextual -dsimp -implicitDefEqProofs (maxSteps := 5000000) only [go_sem, reduceIte, reduceCtorEq, Nat.reduceEqDiff, Nat.reduceBEq, Nat.reduceAdd, Nat.reduceLeDiff, Nat.reduceMul, Nat.reduceLT, Int.reduceEq, Int.reduceLT, Int.reduceLE, t3, t4, hlt]
      exact ⟨_, by omega, k + 1, rfl, hlt, rfl, I_wrap (by omega) (by omega) (by omega)⟩
    · simp +contextual -dsimp -implicitDefEqProofs (maxSteps := 5000000) only [go_sem, reduceIte, reduceCtorEq, Nat.reduceEqDiff, Nat.reduceBEq, Nat.reduceAdd, Nat.reduceLeDiff, Nat.reduceMul, Nat.reduceLT, Int.reduceEq, Int.reduceLT, Int.reduceLE, t3, t4, hlt]
      have hke : k = p.length := by omega
      subst hke
      refine .inr ⟨bx, c, hbx, by simp, ?_⟩
      simp [halfL]
end
section
open Go Go.Sim
set_option maxRecDepth 100000
set_option maxHeartbeats 4000000

theorem c_underD (y : Line) (p : List Line) (cl : Bool) (H : AHeap) (hp : p.length ≤ 1000) (hd : ∀ x ∈ p, 0 ≤ x.depth ∧ x.depth ≤ 100) : ACalls Tryz.prog 53 [.agg (rLine y), aProg p cl] H fun r H' => Grow rLine 4 50 H H' r (y :: innP p) := by
  refine acalls_of1 Tryz.func53 rfl (by kernel_rfl) rfl rfl (awp_sound (fz := fun _ => []) (im := fun s => s == 2 || s == 9) mixed _ _ _ _ (by kernel_rfl) ?_)
  simp +contextual -dsimp -implicitDefEqProofs (maxSteps := 5000000) only [go_sem, reduceIte, reduceCtorEq, Nat.reduceEqDiff, Nat.reduceBEq, Nat.reduceAdd, Nat.reduceLeDiff, Nat.reduceMul, Nat.reduceLT, Int.reduceEq, Int.reduceLT, Int.reduceLE]
  refine ⟨fun h0 => ?_, fun h0 => ?_⟩
  · have hp0 : p = [] := List.eq_nil_of_length_eq_zero h0
    subst hp0
    refine draw_intro [1, 0, 0, 3, 2, 0] AHeap.none (by kernel_rfl) none_le ?_
    simp +contextual -dsimp -implicitDefEqProofs (maxSteps := 5000000) only [go_sem, reduceIte, reduceCtorEq, Nat.reduceEqDiff, Nat.reduceBEq, Nat.reduceAdd, Nat.reduceLeDiff, Nat.reduceMul, Nat.reduceLT, Int.reduceEq, Int.reduceLT, Int.reduceLE]
    refine acalls_frz (c_indent [⟨0, 0, 0, 0⟩] true _ (by simp) (by simp) (by simp)) fun c => ?_
    simp +contextual -dsimp -implicitDefEqProofs (maxSteps := 5000000) only [go_sem, reduceIte, reduceCtorEq, Nat.reduceEqDiff, Nat.reduceBEq, Nat.reduceAdd, Nat.reduceLeDiff, Nat.reduceMul, Nat.reduceLT, Int.reduceEq, Int.reduceLT, Int.reduceLE]
    refine app_lit (y := y) (l := [deepL ⟨0, 0, 0, 0⟩]) rfl (by simp) (by simp) fun x' H' hg => ?_
    simp +contextual -dsimp -implicitDefEqProofs (maxSteps := 5000000) only [go_sem, reduceIte, reduceCtorEq, Nat.reduceEqDiff, Nat.reduceBEq, Nat.reduceAdd, Nat.reduceLeDiff, Nat.reduceMul, Nat.reduceLT, Int.reduceEq, Int.reduceLT, Int.reduceLE]
    refine retR_less (l := [x']) (H' := H') ?_ (AHeap.le_refl _) hg
    simp only [resA, go_sem, reduceIte, reduceCtorEq, Nat.reduceEqDiff, Nat.reduceBEq, Nat.reduceAdd, Nat.reduceLeDiff, Nat.reduceMul, Nat.reduceLT, Int.reduceEq, Int.reduceLT, Int.reduceLE]
  · have hp0 : p ≠ [] := fun e => h0 (by rw [e]; rfl)
    have hip : innP p = p.map deepL := by unfold innP; rw [if_neg hp0]
    rw [hip]
    refine draw_intro [1, 0, 0, 3, 2, 0] AHeap.none (by kernel_rfl) none_le ?_
    simp +contextual -dsimp -implicitDefEqProofs (maxSteps := 5000000) only [go_sem, reduceIte, reduceCtorEq, Nat.reduceEqDiff, Nat.reduceBEq, Nat.reduceAdd, Nat.reduceLeDiff, Nat.reduceMul, Nat.reduceLT, Int.reduceEq, Int.reduceLT, Int.reduceLE]
    refine acalls_frz (c_indent p cl _ hp hp0 hd) fun c => ?_
    simp +contextual -dsimp -implicitDefEqProofs (maxSteps := 5000000) only [go_sem, reduceIte, reduceCtorEq, Nat.reduceEqDiff, Nat.reduceBEq, Nat.reduceAdd, Nat.reduceLeDiff, Nat.reduceMul, Nat.reduceLT, Int.reduceEq, Int.reduceLT, Int.reduceLE]
    refine app_lit (y := y) (l := p.map deepL) rfl (by simp; omega) (by simp; omega) fun x' H' hg => ?_
    simp +contextual -dsimp -implicitDefEqProofs (maxSteps := 5000000) only [go_sem, reduceIte, reduceCtorEq, Nat.reduceEqDiff, Nat.reduceBEq, Nat.reduceAdd, Nat.reduceLeDiff, Nat.reduceMul, Nat.reduceLT, Int.reduceEq, Int.reduceLT, Int.reduceLE]
    refine retR_less (l := [x']) (H' := H') ?_ (AHeap.le_refl _) hg
    simp only [resA, go_sem, reduceIte, reduceCtorEq, Nat.reduceEqDiff, Nat.reduceBEq, Nat.reduceAdd, Nat.reduceLeDiff, Nat.reduceMul, Nat.reduceLT, Int.reduceEq, Int.reduceLT, Int.reduceLE]
/-- What is made, if it may be and is valid. -/
noncomputable def mkR (b : Bool) (t : List Class) (l : List Line) : List Line := if b = true then madeF t l else []
noncomputable def mkB (b : Bool) (t : List Class) (l : List Line) : Bool := b && validB t l
theorem innP_len (p : List Line) : (innP p).length ≤ p.length + 1 := by
  unfold innP; split <;> simp
end
section
open Go Go.Sim
set_option maxRecDepth 100000
set_option maxHeartbeats 4000000
theorem mk_true {t : List Class} {b : Bool} {l : List Line} (h : mkB b t l = true) : b = true ∧ ValidP t l ∧ validB t l = true ∧ mkR b t l = l := by
  unfold mkB at h
  rw [Bool.and_eq_true] at h
  refine ⟨h.1, validB_true.1 h.2, h.2, ?_⟩
  unfold mkR madeF
  rw [if_pos h.1, if_pos h.2]
theorem c_mRun (t : List Class) (cl : Bool) (p : List Line) (c1 : Bool) (H : AHeap) (hn : namesOk t) (hp : p.length ≤ 1000) (hv : validB t p = true) : ACalls Tryz.prog 10 [aTree t cl, aProg p c1] H fun r H' => (∃ c2 c3, r = aRes (resOf (runP t p)) c2 c3) ∧ H' = H := by
  have k := own_frz (c_mRunProgram t cl p c1 H hn (by omega))
  rw [if_pos hv] at k
  exact k
end
section
open Go Go.Sim
set_option maxRecDepth 100000
set_option maxHeartbeats 4000000

/-- The size of a program that is built around a start. -/
structure ProgOk (p : List Line) (k : Nat) : Prop where
  len : p.length ≤ 1 + 5 * k
  dep : ∀ x ∈ p, 0 ≤ x.depth ∧ x.depth ≤ k
theorem startP_ok (x : Sta) : ProgOk (startP x) 0 := by
  unfold startP
  split
  · exact ⟨by simp, by simp⟩
  · exact ⟨by simp, by simp⟩
theorem tailL_ok (e : Exi) : (tailL e).length ≤ 3 ∧ ∀ x ∈ tailL e, 0 ≤ x.depth ∧ x.depth ≤ 1 := by
  unfold tailL
  split
  · exact ⟨by simp, by simp⟩
  · split
    · exact ⟨by simp, by simp⟩
    · split
      · exact ⟨by simp, by simp⟩
      · exact ⟨by simp, by simp⟩
theorem innP_dep {p : List Line} {k : Nat} (h : ∀ x ∈ p, 0 ≤ x.depth ∧ x.depth ≤ k) : ∀ x ∈ innP p, 0 ≤ x.depth ∧ x.depth ≤ (k + 1 : Nat) := by
  intro x hx
  unfold innP at hx
  split at hx
  · simp at hx; subst hx; refine ⟨by decide, ?_⟩; show (1 : Int) ≤ _; omega
  · obtain ⟨y, hy, rfl⟩ := List.mem_map.1 hx
    have := h y hy
    refine ⟨?_, ?_⟩
    · show 0 ≤ y.depth + 1; omega
    · show y.depth + 1 ≤ _; omega
theorem ProgOk.step {p : List Line} {k : Nat} (h : ProgOk p k) (e : Exi) : ProgOk (exitP p e) (k + 1) := by
  have h1 := innP_len p
  have h2 := tailL_ok e
  have h3 := h.len
  refine ⟨?_, fun x hx => ?_⟩
  · unfold exitP
    simp only [List.length_append, List.length_cons]
    omega
  · unfold exitP at hx
    rw [List.mem_append, List.mem_cons] at hx
    rcases hx with (rfl | hx) | hx
    · refine ⟨by decide, ?_⟩; show (0 : Int) ≤ _; omega
    · exact innP_dep h.dep x hx
    · have := h2.2 x hx; omega
theorem ProgOk.fold (x : Sta) : ∀ (L : List Exi) (p : List Line) (k : Nat), ProgOk p k → ProgOk (L.foldl exitP p) (k + L.length)
  | [], p, k, h => h
  | e :: L, p, k, h => by
    rw [List.foldl_cons, List.length_cons]
    have := ProgOk.fold x L _ _ (h.step e)
    rwa [show k + 1 + L.length = k + (L.length + 1) by omega] at this
theorem progP_ok (l : List Exi) (x : Sta) : ProgOk (progP l x) l.length := by
  have := ProgOk.fold x l.reverse _ _ (startP_ok x)
  rwa [List.length_reverse, Nat.zero_add] at this
theorem c_around (p q : List Line) (c1 c2 : Bool) (H : AHeap) (hp : p.length ≤ 1000) (hq : q.length ≤ 1000) (hd : ∀ x ∈ p, 0 ≤ x.depth ∧ x.depth ≤ 100) : ACalls Tryz.prog 71 [aProg p c1, aProg q c2] H fun r H' => (∃ c, r = aProg ((⟨0, 7, 0, 0⟩ :: innP p) ++ q) c) ∧ H' = H := by
  have hil := innP_len p
  refine acalls_of0 Tryz.func71 rfl (by kernel_rfl) rfl rfl (awp_sound (fz := fun _ => []) (im := fun s => s == 6 || s == 10) mixed _ _ _ _ (by kernel_rfl) ?_)
  simp +contextual -dsimp -implicitDefEqProofs (maxSteps := 5000000) only [go_sem, reduceIte, reduceCtorEq, Nat.reduceEqDiff, Nat.reduceBEq, Nat.reduceAdd, Nat.reduceLeDiff, Nat.reduceMul, Nat.reduceLT, Int.reduceEq, Int.reduceLT, Int.reduceLE]
  refine (c_innerD p c1 _ hp hd).mono ?_
  rintro _ H ⟨⟨c3, rfl⟩, rfl⟩
  simp +contextual -dsimp -implicitDefEqProofs (maxSteps := 5000000) only [go_sem, reduceIte, reduceCtorEq, Nat.reduceEqDiff, Nat.reduceBEq, Nat.reduceAdd, Nat.reduceLeDiff, Nat.reduceMul, Nat.reduceLT, Int.reduceEq, Int.reduceLT, Int.reduceLE]
  refine acalls_frz (c_ConcatL [([⟨0, 7, 0, 0⟩], true), (innP p, c3), (q, c2)] true _ (by simp [segs]; omega)) fun c5 => ?_
  have e : segs [([⟨0, 7, 0, 0⟩], true), (innP p, c3), (q, c2)] = (⟨0, 7, 0, 0⟩ :: innP p) ++ q := by simp [segs]
  rw [e]
  simp +contextual -dsimp -implicitDefEqProofs (maxSteps := 5000000) only [go_sem, reduceIte, reduceCtorEq, Nat.reduceEqDiff, Nat.reduceBEq, Nat.reduceAdd, Nat.reduceLeDiff, Nat.reduceMul, Nat.reduceLT, Int.reduceEq, Int.reduceLT, Int.reduceLE]
  exact ⟨c5, rfl⟩
theorem c_exitLines0 (p : List Line) (cl : Bool) (e : Exi) (H : AHeap) (hp : p.length ≤ 1000) (hd : ∀ x ∈ p, 0 ≤ x.depth ∧ x.depth ≤ 100) (hk : 0 ≤ e.kind ∧ e.kind ≤ 3) : ACalls Tryz.prog 72 [aProg p cl, .agg (rExit e)] H fun r H' => Grow rLine 4 50 H H' r (exitP p e) := by
  have hil := innP_len p
  refine acalls_of1 Tryz.func72 rfl (by kernel_rfl) rfl rfl (awp_sound (fz := fun _ => []) (im := fun s => s == 3 || s == 18 || s == 27 || s == 38 || s == 46) mixed _ _ _ _ (by kernel_rfl) ?_)
  simp +contextual -dsimp -implicitDefEqProofs (maxSteps := 5000000) only [go_sem, reduceIte, reduceCtorEq, Nat.reduceEqDiff, Nat.reduceBEq, Nat.reduceAdd, Nat.reduceLeDiff, Nat.reduceMul, Nat.reduceLT, Int.reduceEq, Int.reduceLT, Int.reduceLE]
  refine (c_underD ⟨0, 7, 0, 0⟩ p cl _ hp hd).mono ?_
  rintro x1 H1 hg1
  simp +contextual -dsimp -implicitDefEqProofs (maxSteps := 5000000) only [go_sem, reduceIte, reduceCtorEq, Nat.reduceEqDiff, Nat.reduceBEq, Nat.reduceAdd, Nat.reduceLeDiff, Nat.reduceMul, Nat.reduceLT, Int.reduceEq, Int.reduceLT, Int.reduceLE]
  have fin : ∀ x' H', Grow rLine 4 50 H H' x' ((⟨0, 7, 0, 0⟩ :: innP p) ++ tailL e) → Grow rLine 4 50 H H' x' (exitP p e) := fun _ _ h => h
  refine ⟨fun k0 => ?_, fun k0 => ⟨fun k2 => ?_, fun k2 => ⟨fun k3 => ?_, fun k3 => ?_⟩⟩⟩
  · have et : tailL e = [⟨0, 10, 0, 0⟩, ⟨1, 1, e.a, 0⟩] := by unfold tailL; rw [if_pos k0]
    refine app_lines (m := tailL e) hg1 (by rw [et]; simp; omega) (by rw [et]; rfl) fun x2 H2 hg2 => ?_
    simp +contextual -dsimp -implicitDefEqProofs (maxSteps := 5000000) only [go_sem, reduceIte, reduceCtorEq, Nat.reduceEqDiff, Nat.reduceBEq, Nat.reduceAdd, Nat.reduceLeDiff, Nat.reduceMul, Nat.reduceLT, Int.reduceEq, Int.reduceLT, Int.reduceLE]
    refine retR_less (l := [x2]) (H' := H2) ?_ (AHeap.le_refl _) (fin _ _ hg2)
    simp only [resA, go_sem, reduceIte, reduceCtorEq, Nat.reduceEqDiff, Nat.reduceBEq, Nat.reduceAdd, Nat.reduceLeDiff, Nat.reduceMul, Nat.reduceLT, Int.reduceEq, Int.reduceLT, Int.reduceLE]
  · have et : tailL e = [⟨0, 8, e.a, 0⟩, ⟨1, 0, 0, 0⟩] := by unfold tailL; rw [if_neg k0, if_neg (by omega), if_pos k2]
    refine app_lines (m := tailL e) hg1 (by rw [et]; simp; omega) (by rw [et]; rfl) fun x2 H2 hg2 => ?_
    simp +contextual -dsimp -implicitDefEqProofs (maxSteps := 5000000) only [go_sem, reduceIte, reduceCtorEq, Nat.reduceEqDiff, Nat.reduceBEq, Nat.reduceAdd, Nat.reduceLeDiff, Nat.reduceMul, Nat.reduceLT, Int.reduceEq, Int.reduceLT, Int.reduceLE]
    refine retR_less (l := [x2]) (H' := H2) ?_ (AHeap.le_refl _) (fin _ _ hg2)
    simp only [resA, go_sem, reduceIte, reduceCtorEq, Nat.reduceEqDiff, Nat.reduceBEq, Nat.reduceAdd, Nat.reduceLeDiff, Nat.reduceMul, Nat.reduceLT, Int.reduceEq, Int.reduceLT, Int.reduceLE]
  · have et : tailL e = [⟨0, 10, 0, 0⟩, ⟨1, 2, e.a, e.b⟩] := by unfold tailL; rw [if_neg k0, if_neg (by omega), if_neg k2]
    refine app_lines (m := tailL e) hg1 (by rw [et]; simp; omega) (by rw [et]; rfl) fun x2 H2 hg2 => ?_
    simp +contextual -dsimp -implicitDefEqProofs (maxSteps := 5000000) only [go_sem, reduceIte, reduceCtorEq, Nat.reduceEqDiff, Nat.reduceBEq, Nat.reduceAdd, Nat.reduceLeDiff, Nat.reduceMul, Nat.reduceLT, Int.reduceEq, Int.reduceLT, Int.reduceLE]
    refine retR_less (l := [x2]) (H' := H2) ?_ (AHeap.le_refl _) (fin _ _ hg2)
    simp only [resA, go_sem, reduceIte, reduceCtorEq, Nat.reduceEqDiff, Nat.reduceBEq, Nat.reduceAdd, Nat.reduceLeDiff, Nat.reduceMul, Nat.reduceLT, Int.reduceEq, Int.reduceLT, Int.reduceLE]
  · have et : tailL e = [⟨0, 8, 0, 0⟩, ⟨1, 1, e.a, 0⟩, ⟨1, 3, 0, 0⟩] := by unfold tailL; rw [if_neg k0, if_pos (by omega)]
    refine app_lines (m := tailL e) hg1 (by rw [et]; simp; omega) (by rw [et]; rfl) fun x2 H2 hg2 => ?_
    simp +contextual -dsimp -implicitDefEqProofs (maxSteps := 5000000) only [go_sem, reduceIte, reduceCtorEq, Nat.reduceEqDiff, Nat.reduceBEq, Nat.reduceAdd, Nat.reduceLeDiff, Nat.reduceMul, Nat.reduceLT, Int.reduceEq, Int.reduceLT, Int.reduceLE]
    refine retR_less (l := [x2]) (H' := H2) ?_ (AHeap.le_refl _) (fin _ _ hg2)
    simp only [resA, go_sem, reduceIte, reduceCtorEq, Nat.reduceEqDiff, Nat.reduceBEq, Nat.reduceAdd, Nat.reduceLeDiff, Nat.reduceMul, Nat.reduceLT, Int.reduceEq, Int.reduceLT, Int.reduceLE]
theorem c_exitLines (p : List Line) (cl : Bool) (e : Exi) (H : AHeap) (hp : p.length ≤ 1000) (hd : ∀ x ∈ p, 0 ≤ x.depth ∧ x.depth ≤ 100) (hk : 0 ≤ e.kind ∧ e.kind ≤ 3) : ACalls Tryz.prog 72 [aProg p cl, .agg (rExit e)] H fun r H' => (∃ c, r = aProg (exitP p e) c) ∧ H' = H := by
  refine acalls_fz (c_exitLines0 p cl e H hp hd hk) ?_
  rintro _ H' hg
  obtain ⟨c1, hz⟩ := grow_fz hg
  exact ⟨_, H, grow_le hg, hz, ⟨c1, rfl⟩, rfl⟩
theorem foldP_ok (l : List Exi) (x : Sta) (k : Nat) (hk : k ≤ l.length) : ProgOk ((l.reverse.take k).foldl exitP (startP x)) k := by
  have := ProgOk.fold x (l.reverse.take k) _ _ (startP_ok x)
  rwa [List.length_take, List.length_reverse, Nat.zero_add, Nat.min_eq_left hk] at this
theorem foldP_next {l : List Exi} {x : Sta} {k : Nat} (hk : k < l.length) : (l.reverse.take (k + 1)).foldl exitP (startP x) = exitP ((l.reverse.take k).foldl exitP (startP x)) (l.getD (l.length - 1 - k) default) := by
  rw [rev_take hk, List.foldl_append]; rfl
theorem foldP_all (l : List Exi) (x : Sta) : (l.reverse.take l.length).foldl exitP (startP x) = progP l x := by
  rw [List.take_of_length_le (by simp)]; rfl
theorem ProgOk.small {p : List Line} {k : Nat} (h : ProgOk p k) (hk : k ≤ 8) : p.length ≤ 41 ∧ ∀ x ∈ p, 0 ≤ x.depth ∧ x.depth ≤ 100 := by
  have := h.len
  exact ⟨by omega, fun x hx => by have := h.dep x hx; omega⟩
theorem c_sProgramOf (t : List Class) (cl : Bool) (l : List Exi) (cl' : Bool) (x : Sta) (H : AHeap) (hn : namesOk t) :
    ACalls Tryz.prog 31 [aTree t cl, .vsl (l.map rExit) cl', .agg (rStart x)] H fun r H' => (∃ c, r = .tup [aProg (mkR (validX t l && startOk t x) t (progP l x)) c, B (mkB (validX t l && startOk t x) t (progP l x))]) ∧ H' = H := by
  refine acalls_of1 Tryz.func31 rfl (by kernel_rfl) rfl rfl (awp_sound (fz := fun _ => []) (im := fun s => s == 3 || s == 5 || s == 16 || s == 24) mixed _ _ _ _ (by kernel_rfl) ?_)
  simp +contextual -dsimp -implicitDefEqProofs (maxSteps := 5000000) only [go_sem, reduceIte, reduceCtorEq, Nat.reduceEqDiff, Nat.reduceBEq, Nat.reduceAdd, Nat.reduceLeDiff, Nat.reduceMul, Nat.reduceLT, Int.reduceEq, Int.reduceLT, Int.reduceLE]
  refine (c_goodClose t cl l cl' x _ hn).det ?_
  cases hv : validX t l && startOk t x
  · simp +contextual -dsimp -implicitDefEqProofs (maxSteps := 5000000) only [go_sem, reduceIte, reduceCtorEq, Nat.reduceEqDiff, Nat.reduceBEq, Nat.reduceAdd, Nat.reduceLeDiff, Nat.reduceMul, Nat.reduceLT, Int.reduceEq, Int.reduceLT, Int.reduceLE]
    refine retR_less (l := [aProg [] true, B false]) (H' := H) ?_ (AHeap.le_refl _) ⟨⟨true, rfl⟩, rfl⟩
    simp only [resA, go_sem, reduceIte, reduceCtorEq, Nat.reduceEqDiff, Nat.reduceBEq, Nat.reduceAdd, Nat.reduceLeDiff, Nat.reduceMul, Nat.reduceLT, Int.reduceEq, Int.reduceLT, Int.reduceLE]
    try rfl
  · have hv2 := hv
    rw [Bool.and_eq_true] at hv2
    have hvx := hv2.1
    have hl8 := (validX_T hvx).2
    simp +contextual -dsimp -implicitDefEqProofs (maxSteps := 5000000) only [go_sem, reduceIte, reduceCtorEq, Nat.reduceEqDiff, Nat.reduceBEq, Nat.reduceAdd, Nat.reduceLeDiff, Nat.reduceMul, Nat.reduceLT, Int.reduceEq, Int.reduceLT, Int.reduceLE]
    refine ⟨fun hx => ?_, fun hx => ?_⟩
    ·
      refine aloop mixed (fz := fun _ => []) (im := fun s => s == 3 || s == 5 || s == 16 || s == 24) (by kernel_rfl) (fun m tm H' => ∃ (k : Nat) (i : Int) (c : Bool), m = l.length - k ∧ k ≤ l.length ∧ i + 1 + k = l.length ∧ H' = H ∧ tm 1 = .vsl (l.map rExit) cl' ∧ tm 3 = .vptr [[.vsl (t.map rClass) cl]] 0 0 ∧ tm 8 = aProg ((l.reverse.take k).foldl exitP (startP x)) c ∧ tm 9 = I i) l.length ⟨0, (l.length : Int) - 1, true, rfl, by omega, by omega, rfl, ?_⟩ ?_
      · simp +contextual -dsimp -implicitDefEqProofs (maxSteps := 5000000) only [go_sem, reduceIte, reduceCtorEq, Nat.reduceEqDiff, Nat.reduceBEq, Nat.reduceAdd, Nat.reduceLeDiff, Nat.reduceMul, Nat.reduceLT, Int.reduceEq, Int.reduceLT, Int.reduceLE, startP, hx]
        exact ⟨rfl, I_wrap rfl (by omega) (by omega)⟩
      · rintro m tm H ⟨k, i, c, rfl, hk, hi, rfl, t1, t3, t8, t9⟩
        have hfo := (foldP_ok l x k hk).small (by omega)
        by_cases h : 0 ≤ i
        · have hk2 : k < l.length := by omega
          have hi2 : i.toNat < l.length := by omega
          have he := validX_at hvx hi2
          have hnx := foldP_next (x := x) hk2
          rw [show l.length - 1 - k = i.toNat by omega] at hnx
          simp +contextual -dsimp -implicitDefEqProofs (maxSteps := 5000000) only [go_sem, reduceIte, reduceCtorEq, Nat.reduceEqDiff, Nat.reduceBEq, Nat.reduceAdd, Nat.reduceLeDiff, Nat.reduceMul, Nat.reduceLT, Int.reduceEq, Int.reduceLT, Int.reduceLE, t1, t3, t8, t9, h, hi2]
          refine ⟨by omega, ?_⟩
          generalize l.getD i.toNat default = e at he hnx ⊢
          refine (c_exitLines _ c e _ (by omega) hfo.2 (exit_kind he)).mono ?_
          rintro _ H ⟨⟨c2, rfl⟩, rfl⟩
          simp +contextual -dsimp -implicitDefEqProofs (maxSteps := 5000000) only [go_sem, reduceIte, reduceCtorEq, Nat.reduceEqDiff, Nat.reduceBEq, Nat.reduceAdd, Nat.reduceLeDiff, Nat.reduceMul, Nat.reduceLT, Int.reduceEq, Int.reduceLT, Int.reduceLE, t1, t3, t8, t9, h, hi2]
          exact ⟨_, by omega, k + 1, i - 1, c2, rfl, hk2, by omega, by rw [hnx], I_wrap rfl (by omega) (by omega)⟩
        · have hk2 : k = l.length := by omega
          rw [hk2, foldP_all] at t8
          have hle := (progP_ok l x).small (by omega)
          simp +contextual -dsimp -implicitDefEqProofs (maxSteps := 5000000) only [go_sem, reduceIte, reduceCtorEq, Nat.reduceEqDiff, Nat.reduceBEq, Nat.reduceAdd, Nat.reduceLeDiff, Nat.reduceMul, Nat.reduceLT, Int.reduceEq, Int.reduceLT, Int.reduceLE, t1, t3, t8, t9, h]
          refine (c_checkedProgram t cl (progP l x) c _ hn (by omega)).mono ?_
          rintro _ H ⟨⟨c2, rfl⟩, rfl⟩
          simp +contextual -dsimp -implicitDefEqProofs (maxSteps := 5000000) only [go_sem, reduceIte, reduceCtorEq, Nat.reduceEqDiff, Nat.reduceBEq, Nat.reduceAdd, Nat.reduceLeDiff, Nat.reduceMul, Nat.reduceLT, Int.reduceEq, Int.reduceLT, Int.reduceLE, t1, t3, t8, t9, h]
          refine retR_less (l := [aProg (madeF t (progP l x)) c2, B (validB t (progP l x))]) (H' := H) ?_ (AHeap.le_refl _) ⟨⟨c2, rfl⟩, rfl⟩
          simp only [resA, go_sem, reduceIte, reduceCtorEq, Nat.reduceEqDiff, Nat.reduceBEq, Nat.reduceAdd, Nat.reduceLeDiff, Nat.reduceMul, Nat.reduceLT, Int.reduceEq, Int.reduceLT, Int.reduceLE]
    ·
      refine aloop mixed (fz := fun _ => []) (im := fun s => s == 3 || s == 5 || s == 16 || s == 24) (by kernel_rfl) (fun m tm H' => ∃ (k : Nat) (i : Int) (c : Bool), m = l.length - k ∧ k ≤ l.length ∧ i + 1 + k = l.length ∧ H' = H ∧ tm 1 = .vsl (l.map rExit) cl' ∧ tm 3 = .vptr [[.vsl (t.map rClass) cl]] 0 0 ∧ tm 8 = aProg ((l.reverse.take k).foldl exitP (startP x)) c ∧ tm 9 = I i) l.length ⟨0, (l.length : Int) - 1, true, rfl, by omega, by omega, rfl, ?_⟩ ?_
      · simp +contextual -dsimp -implicitDefEqProofs (maxSteps := 5000000) only [go_sem, reduceIte, reduceCtorEq, Nat.reduceEqDiff, Nat.reduceBEq, Nat.reduceAdd, Nat.reduceLeDiff, Nat.reduceMul, Nat.reduceLT, Int.reduceEq, Int.reduceLT, Int.reduceLE, startP, hx]
        exact ⟨rfl, I_wrap rfl (by omega) (by omega)⟩
      · rintro m tm H ⟨k, i, c, rfl, hk, hi, rfl, t1, t3, t8, t9⟩
        have hfo := (foldP_ok l x k hk).small (by omega)
        by_cases h : 0 ≤ i
        · have hk2 : k < l.length := by omega
          have hi2 : i.toNat < l.length := by omega
          have he := validX_at hvx hi2
          have hnx := foldP_next (x := x) hk2
          rw [show l.length - 1 - k = i.toNat by omega] at hnx
          simp +contextual -dsimp -implicitDefEqProofs (maxSteps := 5000000) only [go_sem, reduceIte, reduceCtorEq, Nat.reduceEqDiff, Nat.reduceBEq, Nat.reduceAdd, Nat.reduceLeDiff, Nat.reduceMul, Nat.reduceLT, Int.reduceEq, Int.reduceLT, Int.reduceLE, t1, t3, t8, t9, h, hi2]
          refine ⟨by omega, ?_⟩
          generalize l.getD i.toNat default = e at he hnx ⊢
          refine (c_exitLines _ c e _ (by omega) hfo.2 (exit_kind he)).mono ?_
          rintro _ H ⟨⟨c2, rfl⟩, rfl⟩
          simp +contextual -dsimp -implicitDefEqProofs (maxSteps := 5000000) only [go_sem, reduceIte, reduceCtorEq, Nat.reduceEqDiff, Nat.reduceBEq, Nat.reduceAdd, Nat.reduceLeDiff, Nat.reduceMul, Nat.reduceLT, Int.reduceEq, Int.reduceLT, Int.reduceLE, t1, t3, t8, t9, h, hi2]
          exact ⟨_, by omega, k + 1, i - 1, c2, rfl, hk2, by omega, by rw [hnx], I_wrap rfl (by omega) (by omega)⟩
        · have hk2 : k = l.length := by omega
          rw [hk2, foldP_all] at t8
          have hle := (progP_ok l x).small (by omega)
          simp +contextual -dsimp -implicitDefEqProofs (maxSteps := 5000000) only [go_sem, reduceIte, reduceCtorEq, Nat.reduceEqDiff, Nat.reduceBEq, Nat.reduceAdd, Nat.reduceLeDiff, Nat.reduceMul, Nat.reduceLT, Int.reduceEq, Int.reduceLT, Int.reduceLE, t1, t3, t8, t9, h]
          refine (c_checkedProgram t cl (progP l x) c _ hn (by omega)).mono ?_
          rintro _ H ⟨⟨c2, rfl⟩, rfl⟩
          simp +contextual -dsimp -implicitDefEqProofs (maxSteps := 5000000) only [go_sem, reduceIte, reduceCtorEq, Nat.reduceEqDiff, Nat.reduceBEq, Nat.reduceAdd, Nat.reduceLeDiff, Nat.reduceMul, Nat.reduceLT, Int.reduceEq, Int.reduceLT, Int.reduceLE, t1, t3, t8, t9, h]
          refine retR_less (l := [aProg (madeF t (progP l x)) c2, B (validB t (progP l x))]) (H' := H) ?_ (AHeap.le_refl _) ⟨⟨c2, rfl⟩, rfl⟩
          simp only [resA, go_sem, reduceIte, reduceCtorEq, Nat.reduceEqDiff, Nat.reduceBEq, Nat.reduceAdd, Nat.reduceLeDiff, Nat.reduceMul, Nat.reduceLT, Int.reduceEq, Int.reduceLT, Int.reduceLE]
theorem c_mProgramOf (t : List Class) (cl : Bool) (l : List Exi) (cl' : Bool) (x : Sta) (H : AHeap) (hn : namesOk t) :
    ACalls Tryz.prog 29 [aTree t cl, .vsl (l.map rExit) cl', .agg (rStart x)] H fun r H' => (∃ c, r = .tup [aProg (mkR (validX t l && startOk t x) t (progP l x)) c, B (mkB (validX t l && startOk t x) t (progP l x))]) ∧ H' = H := by
  refine acalls_of1 Tryz.func29 rfl (by kernel_rfl) rfl rfl (awp_sound (fz := fun _ => []) (im := fun s => s == 3 || s == 5 || s == 22 || s == 30 || s == 44 || s == 54 || s == 63 || s == 74) mixed _ _ _ _ (by kernel_rfl) ?_)
  simp +contextual -dsimp -implicitDefEqProofs (maxSteps := 5000000) only [go_sem, reduceIte, reduceCtorEq, Nat.reduceEqDiff, Nat.reduceBEq, Nat.reduceAdd, Nat.reduceLeDiff, Nat.reduceMul, Nat.reduceLT, Int.reduceEq, Int.reduceLT, Int.reduceLE]
  refine (c_ValidExits t cl l cl' _ hn).det ?_
  cases hv : validX t l
  · simp +contextual -dsimp -implicitDefEqProofs (maxSteps := 5000000) only [go_sem, reduceIte, reduceCtorEq, Nat.reduceEqDiff, Nat.reduceBEq, Nat.reduceAdd, Nat.reduceLeDiff, Nat.reduceMul, Nat.reduceLT, Int.reduceEq, Int.reduceLT, Int.reduceLE]
    refine retR_less (l := [aProg [] true, B false]) (H' := H) ?_ (AHeap.le_refl _) ⟨⟨true, rfl⟩, rfl⟩
    simp only [resA, go_sem, reduceIte, reduceCtorEq, Nat.reduceEqDiff, Nat.reduceBEq, Nat.reduceAdd, Nat.reduceLeDiff, Nat.reduceMul, Nat.reduceLT, Int.reduceEq, Int.reduceLT, Int.reduceLE]
    try rfl
  · simp +contextual -dsimp -implicitDefEqProofs (maxSteps := 5000000) only [go_sem, reduceIte, reduceCtorEq, Nat.reduceEqDiff, Nat.reduceBEq, Nat.reduceAdd, Nat.reduceLeDiff, Nat.reduceMul, Nat.reduceLT, Int.reduceEq, Int.reduceLT, Int.reduceLE]
    refine (c_startValid t cl x _).det ?_
    cases hs : startOk t x
    · simp +contextual -dsimp -implicitDefEqProofs (maxSteps := 5000000) only [go_sem, reduceIte, reduceCtorEq, Nat.reduceEqDiff, Nat.reduceBEq, Nat.reduceAdd, Nat.reduceLeDiff, Nat.reduceMul, Nat.reduceLT, Int.reduceEq, Int.reduceLT, Int.reduceLE]
      refine retR_less (l := [aProg [] true, B false]) (H' := H) ?_ (AHeap.le_refl _) ⟨⟨true, rfl⟩, rfl⟩
      simp only [resA, go_sem, reduceIte, reduceCtorEq, Nat.reduceEqDiff, Nat.reduceBEq, Nat.reduceAdd, Nat.reduceLeDiff, Nat.reduceMul, Nat.reduceLT, Int.reduceEq, Int.reduceLT, Int.reduceLE]
      try rfl
    · have hl8 := (validX_T hv).2
      simp +contextual -dsimp -implicitDefEqProofs (maxSteps := 5000000) only [go_sem, reduceIte, reduceCtorEq, Nat.reduceEqDiff, Nat.reduceBEq, Nat.reduceAdd, Nat.reduceLeDiff, Nat.reduceMul, Nat.reduceLT, Int.reduceEq, Int.reduceLT, Int.reduceLE]
      intro b7 hb7
      refine ⟨fun hx => ?_, fun hx => ?_⟩
      ·
        refine (c_BackExit l cl' _).det ?_
        simp +contextual -dsimp -implicitDefEqProofs (maxSteps := 5000000) only [go_sem, reduceIte, reduceCtorEq, Nat.reduceEqDiff, Nat.reduceBEq, Nat.reduceAdd, Nat.reduceLeDiff, Nat.reduceMul, Nat.reduceLT, Int.reduceEq, Int.reduceLT, Int.reduceLE]
        refine sim_rangeFunc (caps := [.vptr [[.vsl (l.map rExit) cl']] 0 0]) (by simp only [go_sem, reduceIte, reduceCtorEq, Nat.reduceEqDiff, Nat.reduceBEq, Nat.reduceAdd, Nat.reduceLeDiff, Nat.reduceMul, Nat.reduceLT, Int.reduceEq, Int.reduceLT, Int.reduceLE]) (it_backExit l cl' (by omega)) (by decide) backL_len
          (fun k H' => ∃ c : Bool, H' = H.set b7 ⟨1, 26, [[aProg ((l.reverse.take k).foldl exitP (startP x)) c]]⟩) (fun _ _ => False) ?_ ?_ ?_ (fun _ h => h.elim) (fun _ _ h => h.elim)
        · refine ⟨true, ?_⟩
          unfold startP
          rw [hx]
          rfl
        · rintro k x' H' lp hx' ⟨c, rfl⟩
          obtain ⟨hkl, rfl⟩ := backL_get hx'
          have hi2 : l.length - 1 - k < l.length := by omega
          have he := validX_at hv hi2
          have hnx := foldP_next (x := x) hkl
          have hfo := (foldP_ok l x k (by omega)).small (by omega)
          generalize l.getD (l.length - 1 - k) default = e at he hnx ⊢
          generalize (l.reverse.take k).foldl exitP (startP x) = P at hfo hnx ⊢
          refine awp_soundAt (fz := fun r => if r = 7 then [10] else []) (im := fun s => s == 3 || s == 5 || s == 22 || s == 30 || s == 44 || s == 54 || s == 63 || s == 74) mixed _ _ _ _ (by kernel_rfl) (.inr (by kernel_rfl)) ?_
          simp +contextual -dsimp -implicitDefEqProofs (maxSteps := 5000000) only [go_sem, reduceIte, reduceCtorEq, Nat.reduceEqDiff, Nat.reduceBEq, Nat.reduceAdd, Nat.reduceLeDiff, Nat.reduceMul, Nat.reduceLT, Int.reduceEq, Int.reduceLT, Int.reduceLE]
          rintro b9 ⟨m1, m2, hb9⟩
          refine awp_soundAt (fz := fun r => if r = 7 then [10] else []) (im := fun s => s == 3 || s == 5 || s == 22 || s == 30 || s == 44 || s == 54 || s == 63 || s == 74) mixed _ _ _ _ (by kernel_rfl) (.inr (by kernel_rfl)) ?_
          have hkd := exit_kind he
          have around : ∀ (q : List Line) (H : AHeap), q.length ≤ 3 → tailL e = q → ACalls Tryz.prog 71 [aProg P c, aProg q true] H fun r H' => (∃ c, r = aProg (exitP P e) c) ∧ H' = H := fun q H hq hqe => by
            have := c_around P q c true H (by omega) (by omega) hfo.2
            unfold exitP; rw [hqe]; exact this
          by_cases k0 : e.kind = 0
          · have et : tailL e = [⟨0, 10, 0, 0⟩, ⟨1, 1, e.a, 0⟩] := by unfold tailL; rw [if_pos k0]
            simp +contextual -dsimp -implicitDefEqProofs (maxSteps := 5000000) only [go_sem, reduceIte, reduceCtorEq, Nat.reduceEqDiff, Nat.reduceBEq, Nat.reduceAdd, Nat.reduceLeDiff, Nat.reduceMul, Nat.reduceLT, Int.reduceEq, Int.reduceLT, Int.reduceLE, k0, m1, m2]
            refine (around _ _ (by simp) et).mono ?_
            rintro _ _ ⟨⟨c2, rfl⟩, rfl⟩
            simp +contextual -dsimp -implicitDefEqProofs (maxSteps := 5000000) only [go_sem, reduceIte, reduceCtorEq, Nat.reduceEqDiff, Nat.reduceBEq, Nat.reduceAdd, Nat.reduceLeDiff, Nat.reduceMul, Nat.reduceLT, Int.reduceEq, Int.reduceLT, Int.reduceLE, k0, m1, m2]
            exact ⟨c2, by rw [hnx]⟩
          · by_cases k1 : e.kind = 1
            · have et : tailL e = [⟨0, 8, 0, 0⟩, ⟨1, 1, e.a, 0⟩, ⟨1, 3, 0, 0⟩] := by unfold tailL; rw [if_neg k0, if_pos k1]
              simp +contextual -dsimp -implicitDefEqProofs (maxSteps := 5000000) only [go_sem, reduceIte, reduceCtorEq, Nat.reduceEqDiff, Nat.reduceBEq, Nat.reduceAdd, Nat.reduceLeDiff, Nat.reduceMul, Nat.reduceLT, Int.reduceEq, Int.reduceLT, Int.reduceLE, k0, k1, m1, m2]
              refine (around _ _ (by simp) et).mono ?_
              rintro _ _ ⟨⟨c2, rfl⟩, rfl⟩
              simp +contextual -dsimp -implicitDefEqProofs (maxSteps := 5000000) only [go_sem, reduceIte, reduceCtorEq, Nat.reduceEqDiff, Nat.reduceBEq, Nat.reduceAdd, Nat.reduceLeDiff, Nat.reduceMul, Nat.reduceLT, Int.reduceEq, Int.reduceLT, Int.reduceLE, k0, k1, m1, m2]
              exact ⟨c2, by rw [hnx]⟩
            · by_cases k2 : e.kind = 2
              · have et : tailL e = [⟨0, 8, e.a, 0⟩, ⟨1, 0, 0, 0⟩] := by unfold tailL; rw [if_neg k0, if_neg k1, if_pos k2]
                simp +contextual -dsimp -implicitDefEqProofs (maxSteps := 5000000) only [go_sem, reduceIte, reduceCtorEq, Nat.reduceEqDiff, Nat.reduceBEq, Nat.reduceAdd, Nat.reduceLeDiff, Nat.reduceMul, Nat.reduceLT, Int.reduceEq, Int.reduceLT, Int.reduceLE, k0, k1, k2, m1, m2]
                refine (around _ _ (by simp) et).mono ?_
                rintro _ _ ⟨⟨c2, rfl⟩, rfl⟩
                simp +contextual -dsimp -implicitDefEqProofs (maxSteps := 5000000) only [go_sem, reduceIte, reduceCtorEq, Nat.reduceEqDiff, Nat.reduceBEq, Nat.reduceAdd, Nat.reduceLeDiff, Nat.reduceMul, Nat.reduceLT, Int.reduceEq, Int.reduceLT, Int.reduceLE, k0, k1, k2, m1, m2]
                exact ⟨c2, by rw [hnx]⟩
              · have k3 : e.kind = 3 := by omega
                have et : tailL e = [⟨0, 10, 0, 0⟩, ⟨1, 2, e.a, e.b⟩] := by unfold tailL; rw [if_neg k0, if_neg k1, if_neg k2]
                simp +contextual -dsimp -implicitDefEqProofs (maxSteps := 5000000) only [go_sem, reduceIte, reduceCtorEq, Nat.reduceEqDiff, Nat.reduceBEq, Nat.reduceAdd, Nat.reduceLeDiff, Nat.reduceMul, Nat.reduceLT, Int.reduceEq, Int.reduceLT, Int.reduceLE, k0, k1, k2, k3, m1, m2]
                refine (around _ _ (by simp) et).mono ?_
                rintro _ _ ⟨⟨c2, rfl⟩, rfl⟩
                simp +contextual -dsimp -implicitDefEqProofs (maxSteps := 5000000) only [go_sem, reduceIte, reduceCtorEq, Nat.reduceEqDiff, Nat.reduceBEq, Nat.reduceAdd, Nat.reduceLeDiff, Nat.reduceMul, Nat.reduceLT, Int.reduceEq, Int.reduceLT, Int.reduceLE, k0, k1, k2, k3, m1, m2]
                exact ⟨c2, by rw [hnx]⟩
        · rintro H' ⟨c, rfl⟩
          rw [backL_length, foldP_all]
          have hle := (progP_ok l x).small (by omega)
          simp +contextual -dsimp -implicitDefEqProofs (maxSteps := 5000000) only [go_sem, reduceIte, reduceCtorEq, Nat.reduceEqDiff, Nat.reduceBEq, Nat.reduceAdd, Nat.reduceLeDiff, Nat.reduceMul, Nat.reduceLT, Int.reduceEq, Int.reduceLT, Int.reduceLE]
          refine (c_programMade t cl (progP l x) c _ hn (by omega)).mono ?_
          rintro _ _ ⟨⟨c2, rfl⟩, rfl⟩
          simp +contextual -dsimp -implicitDefEqProofs (maxSteps := 5000000) only [go_sem, reduceIte, reduceCtorEq, Nat.reduceEqDiff, Nat.reduceBEq, Nat.reduceAdd, Nat.reduceLeDiff, Nat.reduceMul, Nat.reduceLT, Int.reduceEq, Int.reduceLT, Int.reduceLE]
          refine retR_less (l := [aProg (madeF t (progP l x)) c2, B (validB t (progP l x))]) (H' := H) ?_ (le_set hb7) ⟨⟨c2, rfl⟩, rfl⟩
          simp only [resA, go_sem, reduceIte, reduceCtorEq, Nat.reduceEqDiff, Nat.reduceBEq, Nat.reduceAdd, Nat.reduceLeDiff, Nat.reduceMul, Nat.reduceLT, Int.reduceEq, Int.reduceLT, Int.reduceLE]
      ·
        refine (c_BackExit l cl' _).det ?_
        simp +contextual -dsimp -implicitDefEqProofs (maxSteps := 5000000) only [go_sem, reduceIte, reduceCtorEq, Nat.reduceEqDiff, Nat.reduceBEq, Nat.reduceAdd, Nat.reduceLeDiff, Nat.reduceMul, Nat.reduceLT, Int.reduceEq, Int.reduceLT, Int.reduceLE]
        refine sim_rangeFunc (caps := [.vptr [[.vsl (l.map rExit) cl']] 0 0]) (by simp only [go_sem, reduceIte, reduceCtorEq, Nat.reduceEqDiff, Nat.reduceBEq, Nat.reduceAdd, Nat.reduceLeDiff, Nat.reduceMul, Nat.reduceLT, Int.reduceEq, Int.reduceLT, Int.reduceLE]) (it_backExit l cl' (by omega)) (by decide) backL_len
          (fun k H' => ∃ c : Bool, H' = H.set b7 ⟨1, 26, [[aProg ((l.reverse.take k).foldl exitP (startP x)) c]]⟩) (fun _ _ => False) ?_ ?_ ?_ (fun _ h => h.elim) (fun _ _ h => h.elim)
        · refine ⟨true, ?_⟩
          unfold startP
          rw [hx]
          rfl
        · rintro k x' H' lp hx' ⟨c, rfl⟩
          obtain ⟨hkl, rfl⟩ := backL_get hx'
          have hi2 : l.length - 1 - k < l.length := by omega
          have he := validX_at hv hi2
          have hnx := foldP_next (x := x) hkl
          have hfo := (foldP_ok l x k (by omega)).small (by omega)
          generalize l.getD (l.length - 1 - k) default = e at he hnx ⊢
          generalize (l.reverse.take k).foldl exitP (startP x) = P at hfo hnx ⊢
          refine awp_soundAt (fz := fun r => if r = 7 then [10] else []) (im := fun s => s == 3 || s == 5 || s == 22 || s == 30 || s == 44 || s == 54 || s == 63 || s == 74) mixed _ _ _ _ (by kernel_rfl) (.inr (by kernel_rfl)) ?_
          simp +contextual -dsimp -implicitDefEqProofs (maxSteps := 5000000) only [go_sem, reduceIte, reduceCtorEq, Nat.reduceEqDiff, Nat.reduceBEq, Nat.reduceAdd, Nat.reduceLeDiff, Nat.reduceMul, Nat.reduceLT, Int.reduceEq, Int.reduceLT, Int.reduceLE]
          rintro b9 ⟨m1, m2, hb9⟩
          refine awp_soundAt (fz := fun r => if r = 7 then [10] else []) (im := fun s => s == 3 || s == 5 || s == 22 || s == 30 || s == 44 || s == 54 || s == 63 || s == 74) mixed _ _ _ _ (by kernel_rfl) (.inr (by kernel_rfl)) ?_
          have hkd := exit_kind he
          have around : ∀ (q : List Line) (H : AHeap), q.length ≤ 3 → tailL e = q → ACalls Tryz.prog 71 [aProg P c, aProg q true] H fun r H' => (∃ c, r = aProg (exitP P e) c) ∧ H' = H := fun q H hq hqe => by
            have := c_around P q c true H (by omega) (by omega) hfo.2
            unfold exitP; rw [hqe]; exact this
          by_cases k0 : e.kind = 0
          · have et : tailL e = [⟨0, 10, 0, 0⟩, ⟨1, 1, e.a, 0⟩] := by unfold tailL; rw [if_pos k0]
            simp +contextual -dsimp -implicitDefEqProofs (maxSteps := 5000000) only [go_sem, reduceIte, reduceCtorEq, Nat.reduceEqDiff, Nat.reduceBEq, Nat.reduceAdd, Nat.reduceLeDiff, Nat.reduceMul, Nat.reduceLT, Int.reduceEq, Int.reduceLT, Int.reduceLE, k0, m1, m2]
            refine (around _ _ (by simp) et).mono ?_
            rintro _ _ ⟨⟨c2, rfl⟩, rfl⟩
            simp +contextual -dsimp -implicitDefEqProofs (maxSteps := 5000000) only [go_sem, reduceIte, reduceCtorEq, Nat.reduceEqDiff, Nat.reduceBEq, Nat.reduceAdd, Nat.reduceLeDiff, Nat.reduceMul, Nat.reduceLT, Int.reduceEq, Int.reduceLT, Int.reduceLE, k0, m1, m2]
            exact ⟨c2, by rw [hnx]⟩
          · by_cases k1 : e.kind = 1
            · have et : tailL e = [⟨0, 8, 0, 0⟩, ⟨1, 1, e.a, 0⟩, ⟨1, 3, 0, 0⟩] := by unfold tailL; rw [if_neg k0, if_pos k1]
              simp +contextual -dsimp -implicitDefEqProofs (maxSteps := 5000000) only [go_sem, reduceIte, reduceCtorEq, Nat.reduceEqDiff, Nat.reduceBEq, Nat.reduceAdd, Nat.reduceLeDiff, Nat.reduceMul, Nat.reduceLT, Int.reduceEq, Int.reduceLT, Int.reduceLE, k0, k1, m1, m2]
              refine (around _ _ (by simp) et).mono ?_
              rintro _ _ ⟨⟨c2, rfl⟩, rfl⟩
              simp +contextual -dsimp -implicitDefEqProofs (maxSteps := 5000000) only [go_sem, reduceIte, reduceCtorEq, Nat.reduceEqDiff, Nat.reduceBEq, Nat.reduceAdd, Nat.reduceLeDiff, Nat.reduceMul, Nat.reduceLT, Int.reduceEq, Int.reduceLT, Int.reduceLE, k0, k1, m1, m2]
              exact ⟨c2, by rw [hnx]⟩
            · by_cases k2 : e.kind = 2
              · have et : tailL e = [⟨0, 8, e.a, 0⟩, ⟨1, 0, 0, 0⟩] := by unfold tailL; rw [if_neg k0, if_neg k1, if_pos k2]
                simp +contextual -dsimp -implicitDefEqProofs (maxSteps := 5000000) only [go_sem, reduceIte, reduceCtorEq, Nat.reduceEqDiff, Nat.reduceBEq, Nat.reduceAdd, Nat.reduceLeDiff, Nat.reduceMul, Nat.reduceLT, Int.reduceEq, Int.reduceLT, Int.reduceLE, k0, k1, k2, m1, m2]
                refine (around _ _ (by simp) et).mono ?_
                rintro _ _ ⟨⟨c2, rfl⟩, rfl⟩
                simp +contextual -dsimp -implicitDefEqProofs (maxSteps := 5000000) only [go_sem, reduceIte, reduceCtorEq, Nat.reduceEqDiff, Nat.reduceBEq, Nat.reduceAdd, Nat.reduceLeDiff, Nat.reduceMul, Nat.reduceLT, Int.reduceEq, Int.reduceLT, Int.reduceLE, k0, k1, k2, m1, m2]
                exact ⟨c2, by rw [hnx]⟩
              · have k3 : e.kind = 3 := by omega
                have et : tailL e = [⟨0, 10, 0, 0⟩, ⟨1, 2, e.a, e.b⟩] := by unfold tailL; rw [if_neg k0, if_neg k1, if_neg k2]
                simp +contextual -dsimp -implicitDefEqProofs (maxSteps := 5000000) only [go_sem, reduceIte, reduceCtorEq, Nat.reduceEqDiff, Nat.reduceBEq, Nat.reduceAdd, Nat.reduceLeDiff, Nat.reduceMul, Nat.reduceLT, Int.reduceEq, Int.reduceLT, Int.reduceLE, k0, k1, k2, k3, m1, m2]
                refine (around _ _ (by simp) et).mono ?_
                rintro _ _ ⟨⟨c2, rfl⟩, rfl⟩
                simp +contextual -dsimp -implicitDefEqProofs (maxSteps := 5000000) only [go_sem, reduceIte, reduceCtorEq, Nat.reduceEqDiff, Nat.reduceBEq, Nat.reduceAdd, Nat.reduceLeDiff, Nat.reduceMul, Nat.reduceLT, Int.reduceEq, Int.reduceLT, Int.reduceLE, k0, k1, k2, k3, m1, m2]
                exact ⟨c2, by rw [hnx]⟩
        · rintro H' ⟨c, rfl⟩
          rw [backL_length, foldP_all]
          have hle := (progP_ok l x).small (by omega)
          simp +contextual -dsimp -implicitDefEqProofs (maxSteps := 5000000) only [go_sem, reduceIte, reduceCtorEq, Nat.reduceEqDiff, Nat.reduceBEq, Nat.reduceAdd, Nat.reduceLeDiff, Nat.reduceMul, Nat.reduceLT, Int.reduceEq, Int.reduceLT, Int.reduceLE]
          refine (c_programMade t cl (progP l x) c _ hn (by omega)).mono ?_
          rintro _ _ ⟨⟨c2, rfl⟩, rfl⟩
          simp +contextual -dsimp -implicitDefEqProofs (maxSteps := 5000000) only [go_sem, reduceIte, reduceCtorEq, Nat.reduceEqDiff, Nat.reduceBEq, Nat.reduceAdd, Nat.reduceLeDiff, Nat.reduceMul, Nat.reduceLT, Int.reduceEq, Int.reduceLT, Int.reduceLE]
          refine retR_less (l := [aProg (madeF t (progP l x)) c2, B (validB t (progP l x))]) (H' := H) ?_ (le_set hb7) ⟨⟨c2, rfl⟩, rfl⟩
          simp only [resA, go_sem, reduceIte, reduceCtorEq, Nat.reduceEqDiff, Nat.reduceBEq, Nat.reduceAdd, Nat.reduceLeDiff, Nat.reduceMul, Nat.reduceLT, Int.reduceEq, Int.reduceLT, Int.reduceLE]
end
section
open Go Go.Sim
set_option maxRecDepth 100000

/-- How many faults a fault has behind it, itself counted. -/
def dep (fs : List Fault) (v : Int) : Nat := (dchF fs v).length
theorem dep_pre {F X : List Fault} (ho : heapOk F) {v : Int} (h : v < F.length) : dep (F ++ X) v = dep F v := by
  unfold dep dchF
  rw [dch_pre ho _ v h]
theorem Goes.dep {t : List Class} {n : Nat} {s : RS} {e : En} {s' : RS} (h : Goes t n s e s') (ho : heapOk s.fs) {v : Int} (hv : v < s.fs.length) : dep s'.fs v = dep s.fs v := by
  obtain ⟨l, e1, _⟩ := h.fs
  rw [e1]; exact dep_pre ho hv
end
section
open Go Go.Sim
set_option maxRecDepth 100000
def linkF (n : Nat) (f to : Int) : Bool := decide (to = -1) || (inR to 0 (n - 1) && !decide (to = f))
theorem chainF_in {h : List Fault} (hc : ∀ k, k < h.length → (h.getD k default).ctx < h.length) {f : Int} (hf : f < h.length) {a : Int} (ha : a ∈ chainF h f) : 0 ≤ a ∧ a < h.length := by
  have := walkG_mem (nx := ctxOf h) (p := fun a => a < h.length) (fun a a0 a1 => hc a.toNat (by omega)) (h.length + 1) [] f hf a ha
  simpa using this
def lastI (l : List Int) : Int := l.getD (l.length - 1) default
theorem lastI_in {h : List Fault} (hc : ∀ k, k < h.length → (h.getD k default).ctx < h.length) {f : Int} (h0 : 0 ≤ f) (hf : f < h.length) : 0 ≤ lastI (chainF h f) ∧ lastI (chainF h f) < h.length := by
  have hne := List.length_pos_iff.2 (chainF_ne (h := h) h0)
  apply chainF_in hc hf
  have : (chainF h f).length - 1 < (chainF h f).length := by omega
  unfold lastI
  rw [List.getD_eq_getElem?_getD, List.getElem?_eq_getElem this]
  exact List.getElem_mem this
def faultOk (t : List Class) (h : List Fault) (k : Nat) : Bool := hasF t (h.getD k default).cls && inR (h.getD k default).code 0 99 && linkF h.length k (h.getD k default).cause && linkF h.length k (h.getD k default).ctx
def lastOk (h : List Fault) (k : Nat) : Bool := decide (ctxOf h (lastI (chainF h k)) = -1)
def validH (t : List Class) (h : List Fault) : Bool := (List.range h.length).all (faultOk t h) && ((List.range h.length).all (lastOk h) && (validT t && decide (h.length ≤ 24)))
end
end
end Go.Proofs.YtckipeopgimenaaGreat
