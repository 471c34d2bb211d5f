/- Walks and plain laws that the claims of this seat lean on. No condition. -/
import Derived.Test.YtoacjmckefahcaaGreatJ3
set_option linter.unusedVariables false
set_option linter.unusedSimpArgs false
namespace Go.Proofs.YtoacjmckefahcaaGreat
open Go Go.Sim
section
set_option maxRecDepth 100000
attribute [local go_sem ↓] aw_skip aw_ret aw_exit aw_region aw_draw aw_seq aw_block aw_loop aw_cond frz_nil frz_cons sq_normal sq_ret sq_exit exB_normal exB_ret exB_same exB_other retQ_ret retQ_normal ret0_ret ret0_normal ao_nil go1 g_move g_assign g_pick g_build g_load g_binOp g_unOp g_convert g_fieldAddr g_field g_indexAddr g_index g_extract g_lookup g_slice g_nilCheck g_len g_makeFunc h_call h_append h_alloc h_box h_buildSlice h_makeSlice h_store gV i_box i_buildSlice i_move i_assign i_build i_load i_binOp i_unOp i_convert i_fieldAddr i_field i_indexAddr i_index i_extract i_lookup i_makeMap i_mapUpdate i_slice i_nilCheck i_makeFunc i_len i_max i_min i_alloc i_makeSlice i_store i_append i_call i_pick boxI boxA buildSliceI buildSliceA makeSliceA makeMapA allocA storeA p_move p_assign p_pick p_build p_load p_binOp p_unOp p_convert p_fieldAddr p_field p_indexAddr p_index p_extract p_lookup p_makeMap p_mapUpdate p_slice p_nilCheck p_makeFunc p_len p_max p_min p_alloc p_box p_buildSlice p_makeSlice p_store p_append p_call x_nil x_go1 x_g0 x_g1 x_g2 x_g3 x_s0 x_s1 x_s2 x_s3 u_move u_assign u_pick u_build u_load u_binOp u_unOp u_convert u_fieldAddr u_field u_indexAddr u_index u_extract u_lookup u_slice u_nilCheck u_makeFunc u_len u_buildSlice x_s4 x_g4 rq_normal rq_ret rq_exit aw_range
attribute [local go_sem] frzV_sl frzK_some set_none set_other AHeap.set_self set_del set_set cnd_t cnd_f cnd_b retA_one retA_two retA_three retA_four retA_nil gIf_b mrgV_b mrgV_wh mrgV_U gIf_U gIf_wh mrgB_f mrgB_some mrgB_if wh_true wh_false keepA_some keepA_if gD_zero gD_succ gT_some bxA_t bxA_f callA_fn ev_tmp ev_const ev_global ev_func oc_bool oc_int oc_string oc_nil oc_nilptr oc_nilfunc cl_bool cl_int cl_string cl_nil updO_some updO_none upd_same upd_other init_at pickA_b pickA_wh selA_t selA_f selA_and selA_or selA_orn selA_orm selA_bb selA_ii beqt b_add b_sub b_mul b_and b_or b_xor b_eql b_neq b_lss b_leq b_gtr b_geq b_quo b_rem b_shr b_seql b_sneq b_sadd b_beql b_bneq b_aeql b_aneq u_not u_neg isConstOp eqA eqCellV List.getD_cons_zero List.getD_cons_succ List.map_cons List.map_nil List.nil_append List.cons_append List.append_nil if_true if_false Option.map_some Option.map_none ne_eq not_false_eq_true oneA ldv ld1v ld1s wr1s ldRow stRow row_lit row_agg row_vsl row_sl row_ptr row_fn one_I one_B one_S one_vsl one_sl one_ptr one_fn extractA okA rI rS rU rClass rFault rExit rStart rLine Int.toNat_natCast List.length_cons List.length_nil List.length_map List.all_cons List.all_nil Bool.and_true Nat.zero_add List.getElem?_cons_zero List.getElem?_cons_succ List.take_succ_cons List.take_zero List.drop_succ_cons List.drop_zero and_self true_and and_true implies_true decide_eq_true_eq decide_eq_false_iff_not Bool.or_eq_true Bool.or_eq_false_iff Bool.and_eq_true Bool.not_eq_true' Bool.not_eq_false' beq_false decide_true decide_false Int.ofNat_lt Int.ofNat_le Int.natCast_nonneg Bool.or_true Bool.or_false Bool.true_or Bool.false_or beq_self_eq_true List.drop_one Bool.not_true Bool.not_false Bool.not_not Bool.false_eq_true Bool.true_eq_false false_implies true_implies Bool.true_and Bool.false_and Bool.and_false not_true_eq_false Int.natCast_eq_zero Int.natCast_pos Int.natCast_zero false_and and_false or_false false_or or_true true_or Bool.or_self none_le_iff List.replicate_zero Int.toNat_zero List.replicate_succ buildRows List.set_cons_zero List.set_cons_succ List.set_nil List.mapM_nil maxLen_eq Nat.zero_le Nat.mul_one Nat.one_mul bldA fillA spliceA List.take_nil List.drop_nil List.getElem?_nil ld1o wr1o bldSliceA le_same cv_i cvI_t quietT_fn qvd_some ld_o ldO_1 ldO_l wr_o wrO_1 set_2 set_3 set_4 putL_nil putL_cons List.zip_cons_cons List.zip_nil_left List.zip_nil_right List.toList_toArray frzV_set ti1 ti2 tk2 ti3 te3 ts3 tk3 tz3 ti4 tb4 ti5 tk5 tz5 ti9 te9 ts9 tk9 tz9 ti12 tk12 ti13 tp13 tf13_0 tf13_1 ti20 ti21 tk21 tz21 ti22 te22 tz22 ti23 te23 ti24 tp24 tf24_0 ti25 tp25 tf25_0 ti26 te26 ti28 ti29 ti30 ti31 ti32 ti33 te33 ti34 te34 ti35 tp35 tf35_0 ti36 tp36 tf36_0 ti37 tp37 tf37_0 tf37_1 tf37_2 tf37_3 ti38 tp38 tf38_0 tf38_1 tf38_2 tf38_3 ti39 ti40 ti41 ti42 ti43 tq43 tp43 tf43_0 tf43_1 tf43_2 tf43_3 ti44 tq44 tp44 tf44_0 tf44_1 tf44_2 tf44_3 ti45 ti46 ti47 ti48 ti49 ti50 ti51 tq51 tp51 tf51_0 tf51_1 tf51_2 ti52 tq52 tp52 tf52_0 tf52_1 tf52_2 ti54 ti55 ti56 ti57 ti58 ti59 ti60 ti61 ti62 ti63 ti64 ti65 ti66 ti67 ti68 ti69 ti70 tq70 tp70 tf70_0 tf70_1 ti71 tq71 tp71 tf71_0 tf71_1 ti72 ti73 ti74 ti75 ti76 ti77 ti78 ti79 tp79 tf79_0 tf79_1 tf79_2 tf79_3 tf79_4 ti80 tp80 tf80_0 tf80_1 tf80_2 tf80_3 tf80_4 ti81 ti83 ti84 ti85 ti86 tq86 tp86 tf86_0 tf86_1 tf86_2 tf86_3 tf86_4 ti87 tq87 tp87 tf87_0 tf87_1 tf87_2 tf87_3 tf87_4 ti88 ti89 ti90 ti91 ti92 tp92 tf92_0 tf92_1 ti93 tp93 tf93_0 tf93_1 ti94 ti95 ti96 ti97 tq97 tp97 tf97_0 tf97_1 ti98 tq98 tp98 tf98_0 tf98_1 ti99 ti100 ti101 ti103 ti104 ti105 ti106 ti107 ti108 ti109 ti110 ti111 te111 ti112 ti113 ti114 ti115 ti116 ti117 ti118 ti119 ti120 ti121 ti122 ti123 ti124 ti125 ti126 ti127 tk127 tz127 ti128 ti129 ti130 tk130 ti132 ti133 ti134 ti136 ti137 ti138 tk138 tz138 ti139 ti140 tk140 tz140 ti141 tk141 ti142 ti143 ti144 ti145 ti146 ti147 ti148 ti149 ti155 ti159 fp13_0 fv13_0 fp13_1 fv13_1 fp24_0 fv24_0 fp25_0 fv25_0 fp35_0 fv35_0 fp36_0 fv36_0 fp37_0 fv37_0 fp37_1 fv37_1 fp37_2 fv37_2 fp37_3 fv37_3 fp38_0 fv38_0 fp38_1 fv38_1 fp38_2 fv38_2 fp38_3 fv38_3 fp43_0 fv43_0 fp43_1 fv43_1 fp43_2 fv43_2 fp43_3 fv43_3 fp44_0 fv44_0 fp44_1 fv44_1 fp44_2 fv44_2 fp44_3 fv44_3 fp51_0 fv51_0 fp51_1 fv51_1 fp51_2 fv51_2 fp52_0 fv52_0 fp52_1 fv52_1 fp52_2 fv52_2 fp70_0 fv70_0 fp70_1 fv70_1 fp71_0 fv71_0 fp71_1 fv71_1 fp79_0 fv79_0 fp79_1 fv79_1 fp79_2 fv79_2 fp79_3 fv79_3 fp79_4 fv79_4 fp80_0 fv80_0 fp80_1 fv80_1 fp80_2 fv80_2 fp80_3 fv80_3 fp80_4 fv80_4 fp86_0 fv86_0 fp86_1 fv86_1 fp86_2 fv86_2 fp86_3 fv86_3 fp86_4 fv86_4 fp87_0 fv87_0 fp87_1 fv87_1 fp87_2 fv87_2 fp87_3 fv87_3 fp87_4 fv87_4 fp92_0 fv92_0 fp92_1 fv92_1 fp93_0 fv93_0 fp93_1 fv93_1 fp97_0 fv97_0 fp97_1 fv97_1 fp98_0 fv98_0 fp98_1 fv98_1 lv22 ll22 is22 ix22 sh22 so22 sb22 sm22 sp22 lv23 ll23 is23 ix23 sh23 so23 sb23 sm23 sp23 lv26 ll26 is26 ix26 sh26 so26 sb26 sm26 sp26 lv33 ll33 is33 ix33 sh33 so33 sb33 sm33 sp33 lv34 ll34 is34 ix34 sh34 so34 sb34 sm34 sp34 lv111 ll111 is111 ix111 sh111 so111 sb111 sm111 sp111 xs9 ls9 sx9 sy9 sz9
section
open Go Go.Sim
set_option maxRecDepth 100000
set_option maxHeartbeats 4000000

section
variable {F H : AHeap} {bm c6 c7 c8 : Nat} {t p : AV} {log : List Int} {fs : List Fault} {first : Int} {K6 K7 K8 : ABlk}
theorem mach_in3 (hM : Mach F H bm t p log fs first) (h6 : H c6 = none) (h7 : H c7 = none) (h8 : H c8 = none) (d67 : ¬ c7 = c6) (d68 : ¬ c8 = c6) (d78 : ¬ c8 = c7) :
    Mach (((F.set c6 K6).set c7 K7).set c8 K8) (((H.set c6 K6).set c7 K7).set c8 K8) bm t p log fs first :=
  mach_in (mach_in (mach_in hM h6) (by rw [set_other d67]; exact h7)) (by rw [set_other d78, set_other d68]; exact h8)
theorem mach_out3 (hM : Mach (((F.set c6 K6).set c7 K7).set c8 K8) H bm t p log fs first) (h6 : F c6 = none) (h7 : F c7 = none) (h8 : F c8 = none) (d67 : ¬ c7 = c6) (d68 : ¬ c8 = c6) (d78 : ¬ c8 = c7) :
    ∃ H', H = ((H'.set c6 K6).set c7 K7).set c8 K8 ∧ Mach F H' bm t p log fs first ∧ H' c6 = none ∧ H' c7 = none ∧ H' c8 = none := by
  obtain ⟨H1, rfl, m1, n1⟩ := mach_out hM (by rw [set_other d78, set_other d68]; exact h8)
  obtain ⟨H2, rfl, m2, n2⟩ := mach_out m1 (by rw [set_other d67]; exact h7)
  obtain ⟨H3, rfl, m3, n3⟩ := mach_out m2 h6
  rw [set_other d78, set_other d68] at n1
  rw [set_other d67] at n2
  exact ⟨H3, rfl, m3, n3, n2, n1⟩
end
theorem c_try {t : List Class} {cl : Bool} {P : List Line} {clp : Bool} {n : Nat} (ht : validT t = true) (ih : LinesOk t cl P clp n) {i : Nat} {d k a b h : Int} {kids rest : Fo} {s : RS} {F H : AHeap} {bm : Nat} (cl2 : Bool)
    (hn : kids.size + rest.size < n) (hat : At P i d (.node k a b kids rest)) (hk : numsF t kids (d + 1) = true) (hr : numsF t rest d = true) (hs : FsOk t s.fs) (hh : h < s.fs.length) (hl : s.log.length + (cost kids + cost rest) ≤ 900000) (hf : s.fs.length + (cost kids + cost rest) ≤ 900000) (hM : MachS F H bm t cl P clp s) (hp : P.length ≤ 4398046511104) :
    ACalls Tryz.prog 82 [.ptr bm 5 0 0, .vsl ((toI (i :: chainN rest (i + 1 + kids.size))).map rI) cl2, I h] H fun r H' =>
      r = .agg (rEn (chainR t rest (i + 1 + kids.size) (runF t kids (i + 1) none h s).1 (runF t kids (i + 1) none h s).1 h (runF t kids (i + 1) none h s).2).1) ∧
      MachS F H' bm t cl P clp (chainR t rest (i + 1 + kids.size) (runF t kids (i + 1) none h s).1 (runF t kids (i + 1) none h s).1 h (runF t kids (i + 1) none h s).2).2 := by
  have ed : ∀ k : Nat, (toI (i :: chainN rest (i + 1 + kids.size))).drop k = toI ((i :: chainN rest (i + 1 + kids.size)).drop k) := fun k => toI_drop _ _
  have e0 : (i :: chainN rest (i + 1 + kids.size)).getD 0 default = i := rfl
  refine acalls_of1 Tryz.func82 rfl (by kernel_rfl) rfl rfl (awp_sound (fz := fun r => if r = 6 then [11] else if r = 19 then [13] else []) (im := fun _ => false) mixed _ _ _ _ (by kernel_rfl) ?_)
  simp +contextual -dsimp -implicitDefEqProofs (maxSteps := 5000000) only [go_sem, reduceIte, reduceCtorEq, Nat.reduceEqDiff, Nat.reduceBEq, Nat.reduceAdd, Nat.reduceLeDiff, Nat.reduceMul, Nat.reduceLT, Int.reduceEq, Int.reduceLT, Int.reduceLE, toI_len, toI_at, List.length_cons, e0]
  intro b6 hb6
  have hF6 := mach_none hM hb6
  have hgo := goes_run ht kids (i + 1) none (d + 1) h s hk hs hh trivial
  have hgl := hgo.len
  refine ⟨by omega, by omega, ?_⟩
  refine (c_block ih (by omega) hat hk hs hh (by omega) (by omega) (mach_in (K := ⟨2, 71, [[I 0, I 0]]⟩) hM hb6) hp).mono ?_
  rintro _ H3 ⟨rfl, hM3⟩
  generalize runF t kids (i + 1) none h s = r at hM3 hgo hgl ⊢
  obtain ⟨H4, rfl, hM4, hn4⟩ := mach_out hM3 hF6
  simp +contextual -dsimp -implicitDefEqProofs (maxSteps := 5000000) only [go_sem, reduceIte, reduceCtorEq, Nat.reduceEqDiff, Nat.reduceBEq, Nat.reduceAdd, Nat.reduceLeDiff, Nat.reduceMul, Nat.reduceLT, Int.reduceEq, Int.reduceLT, Int.reduceLE, rEn]
  rintro b7 ⟨d76, d67, n7⟩ b8 ⟨d87, d78, d86, d68, n8⟩
  rw [show (1 : Int).toNat = 1 from rfl, ed, List.drop_succ_cons, List.drop_zero, toI_len]
  refine ⟨by rw [List.length_cons]; omega, ?_⟩
  have hrat := hat.rest
  have hF7 : F b7 = none := mach_none hM4 n7
  have hF8 : F b8 = none := mach_none hM4 n8
  generalize i + 1 + kids.size = j at hrat ⊢
  have hch := chain_len rest j
  have hrl := hrat.len
  refine aloop mixed (fz := fun r => if r = 6 then [11] else if r = 19 then [13] else []) (im := fun _ => false) (by kernel_rfl) (fun m tm H' => ∃ (g : Fo) (q x : Nat) (st e : En) (s' : RS) (H'' : AHeap), m = g.size ∧ At P q d g ∧ numsF t g d = true ∧ g.size ≤ rest.size ∧ (chainN rest j).drop x = chainN g q ∧ x ≤ (chainN rest j).length ∧ FsOk t s'.fs ∧ s.fs.length ≤ s'.fs.length ∧ PdOk s' (some (st, e)) ∧ s'.log.length + cost g ≤ 900000 ∧ s'.fs.length + cost g ≤ 900000 ∧ chainR t rest j r.1 r.1 h r.2 = chainR t g q st e h s' ∧
      H' = ((H''.set b6 ⟨2, 71, [[I 0, I 0]]⟩).set b7 ⟨2, 71, [rEn e]⟩).set b8 ⟨2, 71, [rEn st]⟩ ∧ H'' b6 = none ∧ H'' b7 = none ∧ H'' b8 = none ∧ MachS F H'' bm t cl P clp s' ∧
      tm 0 = .ptr bm 5 0 0 ∧ tm 2 = I h ∧ tm 6 = .ptr b6 2 0 0 ∧ tm 7 = .ptr b7 2 0 0 ∧ tm 8 = .ptr b8 2 0 0 ∧ tm 22 = .vsl ((toI (chainN rest j)).map rI) cl2 ∧ tm 23 = I (chainN rest j).length ∧ tm 24 = I x) rest.size ⟨rest, j, 0, r.1, r.1, r.2, H4, rfl, hrat, hr, Nat.le_refl _, rfl, Nat.zero_le _, hgo.ok, hgl.1, ⟨hgo.val, hgo.val⟩, by omega, by omega, rfl, rfl, hn4, n7, n8, hM4, ?_⟩ ?_
  · simp +contextual -dsimp -implicitDefEqProofs (maxSteps := 5000000) only [go_sem, reduceIte, reduceCtorEq, Nat.reduceEqDiff, Nat.reduceBEq, Nat.reduceAdd, Nat.reduceLeDiff, Nat.reduceMul, Nat.reduceLT, Int.reduceEq, Int.reduceLT, Int.reduceLE, rEn]
    rw [toI_len]
  · rintro m tm _ ⟨g, q, x, st, e, s', H'', rfl, hgat, hgn, hgs, hdx, hxl, hs', hsl, hpd, bl, bf, he, rfl, h6, h7, h8, hM', t0, t2, t6, t7, t8, t22, t23, t24⟩
    have hexit : chainN g q = [] → chainR t g q st e h s' = (e, s') := by
      intro hq
      cases g with
      | nil => rfl
      | node k2 a2 b2 ks re =>
        simp only [chainN] at hq
        split at hq
        · cases hq
        · rename_i hk2
          simp only [chainR]; rw [if_neg hk2]
    cases hcq : chainN g q with
    | nil =>
      rw [hcq] at hdx
      have hx := drop_nil hdx
      rw [he, hexit hcq]
      simp +contextual -dsimp -implicitDefEqProofs (maxSteps := 5000000) only [go_sem, reduceIte, reduceCtorEq, Nat.reduceEqDiff, Nat.reduceBEq, Nat.reduceAdd, Nat.reduceLeDiff, Nat.reduceMul, Nat.reduceLT, Int.reduceEq, Int.reduceLT, Int.reduceLE, rEn, d76, d67, d87, d78, d86, d68, t0, t2, t6, t7, t8, t22, t23, t24, hx]
      refine retR_less (l := [.agg (rEn e)]) (H' := H'') ?_ (le_s1 (le_s1 (le_s1 (AHeap.le_refl _) h6) h7) h8) ⟨rfl, hM'⟩
      simp only [resA, go_sem, reduceIte, reduceCtorEq, Nat.reduceEqDiff, Nat.reduceBEq, Nat.reduceAdd, Nat.reduceLeDiff, Nat.reduceMul, Nat.reduceLT, Int.reduceEq, Int.reduceLT, Int.reduceLE, rEn, d76, d67, d87, d78, d86, d68, t6]
    | cons q' tl =>
      cases g with
      | nil => simp [chainN] at hcq
      | node k2 a2 b2 ks re =>
        have hk2 : followsK k2 = true := by
          simp only [chainN] at hcq
          split at hcq
          · assumption
          · cases hcq
        have hdx' : (chainN rest j).drop x = q :: chainN re (q + 1 + ks.size) := by
          rw [hdx]; simp only [chainN]; rw [if_pos hk2]
        obtain ⟨hx1, hx2, hx3⟩ := drop_cons hdx'
        have hf' := hk2
        simp only [followsK, inR, Bool.and_eq_true, decide_eq_true_eq] at hf'
        obtain ⟨n1, n2, n3, n4, n5⟩ := numsF_node hgn
        have hc := cost_node_le (k := k2) (a := a2) (b := b2) (kids := ks) (rest := re) (by omega)
        have hh2 := hgat.head
        have hsz : (Fo.node k2 a2 b2 ks re).size = 1 + ks.size + re.size := rfl
        have hch2 : chainR t (.node k2 a2 b2 ks re) q st e h s' = chainR t (.node k2 a2 b2 ks re) q st e h s' := rfl
        conv at hch2 => rhs; simp only [chainR]; rw [if_pos hk2]
        obtain ⟨xl, xf, H1, H2, hFm, hg1, hg2, hb, rfl⟩ := id hM'
        have h6' := h6
        have h7' := h7
        have h8' := h8
        rw [set_none] at h6' h7' h8'
        obtain ⟨m1, m2, m3⟩ := h6'
        obtain ⟨m4, m5, m6⟩ := h7'
        obtain ⟨m7, m8, m9⟩ := h8'
        have hgol : h < s'.fs.length := by omega
        have adv : ∀ (SZ : Nat) (st' e' : En) (s'' : RS) (H3 : AHeap), re.size < SZ → chainR t (.node k2 a2 b2 ks re) q st e h s' = chainR t re (q + 1 + ks.size) st' e' h s'' → FsOk t s''.fs → s.fs.length ≤ s''.fs.length → PdOk s'' (some (st', e')) → s''.log.length + cost re ≤ 900000 → s''.fs.length + cost re ≤ 900000 → H3 b6 = none → H3 b7 = none → H3 b8 = none → MachS F H3 bm t cl P clp s'' →
            ∃ m', m' < SZ ∧ ∃ (g : Fo) (q x_1 : Nat) (st_1 e_1 : En) (s'_1 : RS) (H'' : AHeap), m' = g.size ∧ At P q d g ∧ numsF t g d = true ∧ g.size ≤ rest.size ∧ (chainN rest j).drop x_1 = chainN g q ∧ x_1 ≤ (chainN rest j).length ∧ FsOk t s'_1.fs ∧ s.fs.length ≤ s'_1.fs.length ∧ PdOk s'_1 (some (st_1, e_1)) ∧ s'_1.log.length + cost g ≤ 900000 ∧ s'_1.fs.length + cost g ≤ 900000 ∧ chainR t rest j r.1 r.1 h r.2 = chainR t g q st_1 e_1 h s'_1 ∧
              ((H3.set b6 ⟨2, 71, [[I 0, I 0]]⟩).set b7 ⟨2, 71, [[I e'.ed, I e'.val]]⟩).set b8 ⟨2, 71, [[I st'.ed, I st'.val]]⟩ = ((H''.set b6 ⟨2, 71, [[I 0, I 0]]⟩).set b7 ⟨2, 71, [[I e_1.ed, I e_1.val]]⟩).set b8 ⟨2, 71, [[I st_1.ed, I st_1.val]]⟩ ∧ H'' b6 = none ∧ H'' b7 = none ∧ H'' b8 = none ∧ MachS F H'' bm t cl P clp s'_1 ∧ AV.lit (.int .i64 (IntKind.i64.wrap ((x : Int) + 1))) = I x_1 :=
          fun SZ st' e' s'' H3 q1 q2 q3 q4 q5 q6 q7 q8 q9 q10 q11 => ⟨re.size, q1, re, q + 1 + ks.size, x + 1, st', e', s'', H3, rfl, hgat.rest, n5, by omega, hx3, hx1, q3, q4, q5, q6, q7, by rw [he]; exact q2, rfl, q8, q9, q10, q11, I_wrap (by omega) (by omega) (by omega)⟩
        have szl : ∀ k : Int, re.size < (Fo.node k a2 b2 ks re).size := fun k => by simp only [Fo.size]; omega
        by_cases k9 : k2 = 9
        · rw [if_neg (by omega), if_pos k9] at hch2
          by_cases c0 : st.ed = 0
          · rw [if_pos c0] at hch2
            simp +contextual -dsimp -implicitDefEqProofs (maxSteps := 5000000) only [go_sem, reduceIte, reduceCtorEq, Nat.reduceEqDiff, Nat.reduceBEq, Nat.reduceAdd, Nat.reduceLeDiff, Nat.reduceMul, Nat.reduceLT, Int.reduceEq, Int.reduceLT, Int.reduceLE, rEn, d76, d67, d87, d78, d86, d68, m1, m2, m4, m5, m7, m8, t0, t2, t6, t7, t8, t22, t23, t24, toI_len, toI_at, hx1, hx2, hh2.1, hh2.2, k9, c0]
            rintro b11 hb11
            have hgo2 := goes_run ht ks (q + 1) none (d + 1) h s' n4 hs' hgol trivial
            have hgl2 := hgo2.len
            refine (c_block ih (by omega) hgat n4 hs' hgol (by omega) (by omega) (mach_in3 (K6 := ⟨2, 71, [[I 0, I 0]]⟩) (K7 := ⟨2, 71, [rEn e]⟩) (K8 := ⟨2, 71, [[I 0, I st.val]]⟩) hM' h6 h7 h8 d76 d86 d87) hp).mono ?_
            rintro _ H3 ⟨rfl, hM3⟩
            generalize runF t ks (q + 1) none h s' = r2 at hM3 hgo2 hgl2 hch2
            obtain ⟨H5, rfl, hM5, w6, w7, w8⟩ := mach_out3 hM3 hF6 hF7 hF8 d76 d86 d87
            simp +contextual -dsimp -implicitDefEqProofs (maxSteps := 5000000) only [go_sem, reduceIte, reduceCtorEq, Nat.reduceEqDiff, Nat.reduceBEq, Nat.reduceAdd, Nat.reduceLeDiff, Nat.reduceMul, Nat.reduceLT, Int.reduceEq, Int.reduceLT, Int.reduceLE, rEn, d76, d67, d87, d78, d86, d68, m1, m2, m4, m5, m7, m8, t0, t2, t6, t7, t8, t22, t23, t24, toI_len, toI_at, hx1, hx2, hh2.1, hh2.2, k9, c0]
            have fin := adv _ st r2.1 r2.2 H5 (szl 9) hch2 hgo2.ok (by omega) ⟨fun z => absurd (show st.ed = 2 from z) (by omega), hgo2.val⟩ (by omega) (by omega) w6 w7 w8 hM5
            rw [c0] at fin
            exact fin
          · rw [if_neg c0] at hch2
            simp +contextual -dsimp -implicitDefEqProofs (maxSteps := 5000000) only [go_sem, reduceIte, reduceCtorEq, Nat.reduceEqDiff, Nat.reduceBEq, Nat.reduceAdd, Nat.reduceLeDiff, Nat.reduceMul, Nat.reduceLT, Int.reduceEq, Int.reduceLT, Int.reduceLE, rEn, d76, d67, d87, d78, d86, d68, m1, m2, m4, m5, m7, m8, t0, t2, t6, t7, t8, t22, t23, t24, toI_len, toI_at, hx1, hx2, hh2.1, hh2.2, k9, c0]
            rintro b11 hb11
            exact adv _ st e s' _ (szl 9) hch2 hs' hsl hpd (by omega) (by omega) h6 h7 h8 hM'
        · by_cases k8 : k2 = 8
          · rw [if_pos k8] at hch2
            by_cases c2 : st.ed = 2
            · have hsv := hpd.1 c2
              simp only at hsv
              have sv0 := hsv.1
              have sv1 := hsv.2
              have sv2 : st.val.toNat < s'.fs.length := by omega
              have hcl := (hs'.cls st.val.toNat sv2).1
              have hcl2 := hasF_spec hcl
              simp +contextual -dsimp -implicitDefEqProofs (maxSteps := 5000000) only [go_sem, reduceIte, reduceCtorEq, Nat.reduceEqDiff, Nat.reduceBEq, Nat.reduceAdd, Nat.reduceLeDiff, Nat.reduceMul, Nat.reduceLT, Int.reduceEq, Int.reduceLT, Int.reduceLE, rEn, d76, d67, d87, d78, d86, d68, m1, m2, m4, m5, m7, m8, t0, t2, t6, t7, t8, t22, t23, t24, toI_len, toI_at, hx1, hx2, hh2.1, hh2.2, k8, c2]
              rintro b11 hb11
              refine draw_intro [0, 0, 0, 0, 0, 0, 0, 0, 0, 0, 0, 0, 0, 0, 0, 0, 0, 0, 0, 0, 2, 0] AHeap.none (by kernel_rfl) none_le ?_
              rcases hg2 with ⟨ee, _, _⟩ | ⟨bf, clf, hbf, rfl, rfl⟩
              · rw [ee] at sv1; simp at sv1; omega
              have ub := hb
              have u6 := m3
              have u7 := m6
              have u8 := m9
              rw [set_none] at ub u6 u7 u8
              obtain ⟨v1, v2, _⟩ := ub
              obtain ⟨v3, v4, _⟩ := u6
              obtain ⟨v5, v6, _⟩ := u7
              obtain ⟨v7, v8, _⟩ := u8
              simp +contextual -dsimp -implicitDefEqProofs (maxSteps := 5000000) only [go_sem, reduceIte, reduceCtorEq, Nat.reduceEqDiff, Nat.reduceBEq, Nat.reduceAdd, Nat.reduceLeDiff, Nat.reduceMul, Nat.reduceLT, Int.reduceEq, Int.reduceLT, Int.reduceLE, rEn, d76, d67, d87, d78, d86, d68, m1, m2, m4, m5, m7, m8, t0, t2, t6, t7, t8, t22, t23, t24, toI_len, toI_at, hx1, hx2, hh2.1, hh2.2, k8, c2, v1, v2, v3, v4, v5, v6, v7, v8, sv0, sv1, sv2]
              refine (c_is t cl _ a2 _ ht hcl2.2).det ?_
              simp +contextual -dsimp -implicitDefEqProofs (maxSteps := 5000000) only [go_sem, reduceIte, reduceCtorEq, Nat.reduceEqDiff, Nat.reduceBEq, Nat.reduceAdd, Nat.reduceLeDiff, Nat.reduceMul, Nat.reduceLT, Int.reduceEq, Int.reduceLT, Int.reduceLE, rEn, d76, d67, d87, d78, d86, d68, m1, m2, m4, m5, m7, m8, t0, t2, t6, t7, t8, t22, t23, t24, toI_len, toI_at, hx1, hx2, hh2.1, hh2.2, k8, c2, v1, v2, v3, v4, v5, v6, v7, v8, sv0, sv1, sv2]
              refine ⟨fun hq => ?_, fun hq => ?_⟩
              · rw [if_pos ⟨c2, hq⟩] at hch2
                have hgo2 := goes_run ht ks (q + 1) none (d + 1) st.val s' n4 hs' sv1 trivial
                have hgl2 := hgo2.len
                refine (c_block ih (by omega) hgat n4 hs' sv1 (by omega) (by omega) (mach_in3 (K6 := ⟨2, 71, [[I 0, I 0]]⟩) (K7 := ⟨2, 71, [rEn e]⟩) (K8 := ⟨2, 71, [[I 2, I st.val]]⟩) hM' h6 h7 h8 d76 d86 d87) hp).mono ?_
                rintro _ H3 ⟨rfl, hM3⟩
                generalize runF t ks (q + 1) none st.val s' = r2 at hM3 hgo2 hgl2 hch2
                obtain ⟨H5, rfl, hM5, w6, w7, w8⟩ := mach_out3 hM3 hF6 hF7 hF8 d76 d86 d87
                simp +contextual -dsimp -implicitDefEqProofs (maxSteps := 5000000) only [go_sem, reduceIte, reduceCtorEq, Nat.reduceEqDiff, Nat.reduceBEq, Nat.reduceAdd, Nat.reduceLeDiff, Nat.reduceMul, Nat.reduceLT, Int.reduceEq, Int.reduceLT, Int.reduceLE, rEn, d76, d67, d87, d78, d86, d68, m1, m2, m4, m5, m7, m8, t0, t2, t6, t7, t8, t22, t23, t24, toI_len, toI_at, hx1, hx2, hh2.1, hh2.2, k8, c2]
                exact adv _ ⟨-1, 0⟩ r2.1 r2.2 H5 (szl 8) hch2 hgo2.ok (by omega) ⟨(fun z => by cases z), hgo2.val⟩ (by omega) (by omega) w6 w7 w8 hM5
              · rw [if_neg (fun z => by have := z.2; unfold isF clsOf at this; rw [hq] at this; cases this)] at hch2
                have fin := adv _ st e s' _ (szl 8) hch2 hs' hsl hpd (by omega) (by omega) h6 h7 h8 hM'
                rw [c2] at fin
                exact fin
            · rw [if_neg (fun z => c2 z.1)] at hch2
              simp +contextual -dsimp -implicitDefEqProofs (maxSteps := 5000000) only [go_sem, reduceIte, reduceCtorEq, Nat.reduceEqDiff, Nat.reduceBEq, Nat.reduceAdd, Nat.reduceLeDiff, Nat.reduceMul, Nat.reduceLT, Int.reduceEq, Int.reduceLT, Int.reduceLE, rEn, d76, d67, d87, d78, d86, d68, m1, m2, m4, m5, m7, m8, t0, t2, t6, t7, t8, t22, t23, t24, toI_len, toI_at, hx1, hx2, hh2.1, hh2.2, k8, c2]
              rintro b11 hb11
              refine draw_intro [0, 0, 0, 0, 0, 0, 0, 0, 0, 0, 0, 0, 0, 0, 0, 0, 0, 0, 0, 0, 2, 0] AHeap.none (by kernel_rfl) none_le ?_
              simp +contextual -dsimp -implicitDefEqProofs (maxSteps := 5000000) only [go_sem, reduceIte, reduceCtorEq, Nat.reduceEqDiff, Nat.reduceBEq, Nat.reduceAdd, Nat.reduceLeDiff, Nat.reduceMul, Nat.reduceLT, Int.reduceEq, Int.reduceLT, Int.reduceLE, rEn, d76, d67, d87, d78, d86, d68, m1, m2, m4, m5, m7, m8, t0, t2, t6, t7, t8, t22, t23, t24, toI_len, toI_at, hx1, hx2, hh2.1, hh2.2, k8, c2]
              exact adv _ st e s' _ (szl 8) hch2 hs' hsl hpd (by omega) (by omega) h6 h7 h8 hM'
          · have k10 : k2 = 10 := by omega
            rw [if_neg k8, if_neg k9] at hch2
            by_cases c2 : e.ed = 2
            · have hev := hpd.2 c2
              simp only at hev
              rw [if_pos c2] at hch2
              simp +contextual -dsimp -implicitDefEqProofs (maxSteps := 5000000) only [go_sem, reduceIte, reduceCtorEq, Nat.reduceEqDiff, Nat.reduceBEq, Nat.reduceAdd, Nat.reduceLeDiff, Nat.reduceMul, Nat.reduceLT, Int.reduceEq, Int.reduceLT, Int.reduceLE, rEn, d76, d67, d87, d78, d86, d68, m1, m2, m4, m5, m7, m8, t0, t2, t6, t7, t8, t22, t23, t24, toI_len, toI_at, hx1, hx2, hh2.1, hh2.2, k10, c2]
              rintro b11 hb11
              have hgo2 := goes_run ht ks (q + 1) none (d + 1) e.val s' n4 hs' hev.2 trivial
              have hgl2 := hgo2.len
              refine (c_block ih (by omega) hgat n4 hs' hev.2 (by omega) (by omega) (mach_in3 (K6 := ⟨2, 71, [[I 0, I 0]]⟩) (K7 := ⟨2, 71, [[I 2, I e.val]]⟩) (K8 := ⟨2, 71, [rEn st]⟩) hM' h6 h7 h8 d76 d86 d87) hp).mono ?_
              rintro _ H3 ⟨rfl, hM3⟩
              generalize runF t ks (q + 1) none e.val s' = r2 at hM3 hgo2 hgl2 hch2
              obtain ⟨H5, rfl, hM5, w6, w7, w8⟩ := mach_out3 hM3 hF6 hF7 hF8 d76 d86 d87
              by_cases c0 : r2.1.ed = 0
              · rw [if_pos c0] at hch2
                simp +contextual -dsimp -implicitDefEqProofs (maxSteps := 5000000) only [go_sem, reduceIte, reduceCtorEq, Nat.reduceEqDiff, Nat.reduceBEq, Nat.reduceAdd, Nat.reduceLeDiff, Nat.reduceMul, Nat.reduceLT, Int.reduceEq, Int.reduceLT, Int.reduceLE, rEn, d76, d67, d87, d78, d86, d68, m1, m2, m4, m5, m7, m8, t0, t2, t6, t7, t8, t22, t23, t24, toI_len, toI_at, hx1, hx2, hh2.1, hh2.2, k10, c2, c0]
                rintro b13 hb13
                have fin := adv _ st e r2.2 H5 (szl 10) hch2 hgo2.ok (by omega) ⟨fun z => by have := hpd.1 z; simp only at this; show 0 ≤ st.val ∧ st.val < (r2.2.fs.length : Int); omega, fun z => by have := hpd.2 z; simp only at this; show 0 ≤ e.val ∧ e.val < (r2.2.fs.length : Int); omega⟩ (by omega) (by omega) w6 w7 w8 hM5
                rw [c2] at fin
                exact fin
              · rw [if_neg c0] at hch2
                simp +contextual -dsimp -implicitDefEqProofs (maxSteps := 5000000) only [go_sem, reduceIte, reduceCtorEq, Nat.reduceEqDiff, Nat.reduceBEq, Nat.reduceAdd, Nat.reduceLeDiff, Nat.reduceMul, Nat.reduceLT, Int.reduceEq, Int.reduceLT, Int.reduceLE, rEn, d76, d67, d87, d78, d86, d68, m1, m2, m4, m5, m7, m8, t0, t2, t6, t7, t8, t22, t23, t24, toI_len, toI_at, hx1, hx2, hh2.1, hh2.2, k10, c2, c0]
                rintro b13 hb13
                exact adv _ st r2.1 r2.2 H5 (szl 10) hch2 hgo2.ok (by omega) ⟨fun z => by have := hpd.1 z; simp only at this; show 0 ≤ st.val ∧ st.val < (r2.2.fs.length : Int); omega, hgo2.val⟩ (by omega) (by omega) w6 w7 w8 hM5
            · rw [if_neg c2] at hch2
              simp +contextual -dsimp -implicitDefEqProofs (maxSteps := 5000000) only [go_sem, reduceIte, reduceCtorEq, Nat.reduceEqDiff, Nat.reduceBEq, Nat.reduceAdd, Nat.reduceLeDiff, Nat.reduceMul, Nat.reduceLT, Int.reduceEq, Int.reduceLT, Int.reduceLE, rEn, d76, d67, d87, d78, d86, d68, m1, m2, m4, m5, m7, m8, t0, t2, t6, t7, t8, t22, t23, t24, toI_len, toI_at, hx1, hx2, hh2.1, hh2.2, k10, c2]
              rintro b11 hb11
              have hgo2 := goes_run ht ks (q + 1) none (d + 1) h s' n4 hs' hgol trivial
              have hgl2 := hgo2.len
              refine (c_block ih (by omega) hgat n4 hs' hgol (by omega) (by omega) (mach_in3 (K6 := ⟨2, 71, [[I 0, I 0]]⟩) (K7 := ⟨2, 71, [rEn e]⟩) (K8 := ⟨2, 71, [rEn st]⟩) hM' h6 h7 h8 d76 d86 d87) hp).mono ?_
              rintro _ H3 ⟨rfl, hM3⟩
              generalize runF t ks (q + 1) none h s' = r2 at hM3 hgo2 hgl2 hch2
              obtain ⟨H5, rfl, hM5, w6, w7, w8⟩ := mach_out3 hM3 hF6 hF7 hF8 d76 d86 d87
              by_cases c0 : r2.1.ed = 0
              · rw [if_pos c0] at hch2
                simp +contextual -dsimp -implicitDefEqProofs (maxSteps := 5000000) only [go_sem, reduceIte, reduceCtorEq, Nat.reduceEqDiff, Nat.reduceBEq, Nat.reduceAdd, Nat.reduceLeDiff, Nat.reduceMul, Nat.reduceLT, Int.reduceEq, Int.reduceLT, Int.reduceLE, rEn, d76, d67, d87, d78, d86, d68, m1, m2, m4, m5, m7, m8, t0, t2, t6, t7, t8, t22, t23, t24, toI_len, toI_at, hx1, hx2, hh2.1, hh2.2, k10, c2, c0]
                rintro b13 hb13
                exact adv _ st e r2.2 H5 (szl 10) hch2 hgo2.ok (by omega) ⟨fun z => by have := hpd.1 z; simp only at this; show 0 ≤ st.val ∧ st.val < (r2.2.fs.length : Int); omega, fun z => absurd z c2⟩ (by omega) (by omega) w6 w7 w8 hM5
              · rw [if_neg c0] at hch2
                simp +contextual -dsimp -implicitDefEqProofs (maxSteps := 5000000) only [go_sem, reduceIte, reduceCtorEq, Nat.reduceEqDiff, Nat.reduceBEq, Nat.reduceAdd, Nat.reduceLeDiff, Nat.reduceMul, Nat.reduceLT, Int.reduceEq, Int.reduceLT, Int.reduceLE, rEn, d76, d67, d87, d78, d86, d68, m1, m2, m4, m5, m7, m8, t0, t2, t6, t7, t8, t22, t23, t24, toI_len, toI_at, hx1, hx2, hh2.1, hh2.2, k10, c2, c0]
                rintro b13 hb13
                exact adv _ st r2.1 r2.2 H5 (szl 10) hch2 hgo2.ok (by omega) ⟨fun z => by have := hpd.1 z; simp only at this; show 0 ≤ st.val ∧ st.val < (r2.2.fs.length : Int); omega, hgo2.val⟩ (by omega) (by omega) w6 w7 w8 hM5
end
section
open Go Go.Sim
set_option maxRecDepth 100000
set_option maxHeartbeats 4000000

theorem goes_chain {t : List Class} (ht : validT t = true) : ∀ (f : Fo) (i : Nat) (st e : En) (d h : Int) (s : RS), numsF t f d = true → FsOk t s.fs → h < s.fs.length → PdOk s (some (st, e)) →
    ∃ c, c + cost (skipF f) ≤ cost f ∧ Goes t c s (chainR t f i st e h s).1 (chainR t f i st e h s).2
  | .nil, i, st, e, d, h, s, _, hs, _, hp => ⟨0, Nat.le_refl _, goes_self hs hp.2⟩
  | .node k a b kids rest, i, st, e, d, h, s, hn, hs, hh, hp => by
    obtain ⟨n1, n2, n3, n4, n5⟩ := numsF_node hn
    simp only [chainR, skipF]
    by_cases hk : followsK k = true
    · simp only [hk, if_true]
      have hk' := hk
      simp only [followsK, inR, Bool.and_eq_true, decide_eq_true_eq] at hk'
      have hc := cost_node_le (k := k) (a := a) (b := b) (kids := kids) (rest := rest) (by omega)
      have pass : ∀ (q : En × En), PdOk s (some q) → ∃ c, c + cost (skipF rest) ≤ cost (.node k a b kids rest) ∧ Goes t c s (chainR t rest (i + 1 + kids.size) q.1 q.2 h s).1 (chainR t rest (i + 1 + kids.size) q.1 q.2 h s).2 := by
        intro q hq
        obtain ⟨c, h1, h2⟩ := goes_chain ht rest (i + 1 + kids.size) q.1 q.2 d h s n5 hs hh hq
        exact ⟨c, by omega, h2⟩
      have go : ∀ (g : Int) (st : En) (e : En × RS → En), g < s.fs.length → (st.ed = 2 → 0 ≤ st.val ∧ st.val < s.fs.length) → (∀ r : En × RS, (r.1.ed = 2 → 0 ≤ r.1.val ∧ r.1.val < r.2.fs.length) → s.fs.length ≤ r.2.fs.length → (e r).ed = 2 → 0 ≤ (e r).val ∧ (e r).val < r.2.fs.length) →
          ∃ c, c + cost (skipF rest) ≤ cost (.node k a b kids rest) ∧ Goes t c s ((fun r : En × RS => chainR t rest (i + 1 + kids.size) st (e r) h r.2) (runF t kids (i + 1) none g s)).1 ((fun r : En × RS => chainR t rest (i + 1 + kids.size) st (e r) h r.2) (runF t kids (i + 1) none g s)).2 := by
        intro g st e hg hst he
        have h1 := goes_run ht kids (i + 1) none (d + 1) g s n4 hs hg trivial
        generalize runF t kids (i + 1) none g s = r at h1 ⊢
        have hl := h1.len
        obtain ⟨c, h2, h3⟩ := goes_chain ht rest (i + 1 + kids.size) st (e r) d h r.2 n5 h1.ok (by omega) ⟨fun q => by have := hst q; show 0 ≤ st.val ∧ st.val < (r.2.fs.length : Int); omega, he r h1.val hl.1⟩
        exact ⟨cost kids + c, by omega, h1.trans h3 (Nat.le_refl _)⟩
      split
      · split
        · rename_i hq
          exact go st.val ⟨-1, 0⟩ (fun r => r.1) (hp.1 hq.1).2 (fun q => by cases q) (fun r hr _ => hr)
        · exact pass (st, e) hp
      · split
        · split
          · exact go h st (fun r => r.1) hh hp.1 (fun r hr _ => hr)
          · exact pass (st, e) hp
        · refine go _ st (fun r => if r.1.ed = 0 then e else r.1) ?_ hp.1 (fun r hr hl => ?_)
          · split
            · exact (hp.2 ‹_›).2
            · exact hh
          · split
            · exact fun z => by have := hp.2 z; simp only at this; omega
            · exact hr
    · rw [if_neg hk, if_neg hk]
      exact ⟨0, by omega, goes_self hs hp.2⟩
theorem numsF_skip {t : List Class} {d : Int} : ∀ (f : Fo), numsF t f d = true → numsF t (skipF f) d = true
  | .nil, h => h
  | .node k a b kids rest, h => by
    simp only [skipF]
    split
    · exact numsF_skip rest (numsF_node h).2.2.2.2
    · exact h
theorem getD_last (i : Nat) (l : List Nat) : (i :: l).getD l.length default = (i :: l).getLastD 0 := by
  rw [List.getLastD_cons]
  induction l generalizing i with
  | nil => rfl
  | cons x l ih => rw [List.length_cons, List.getD_cons_succ, List.getLastD_cons]; exact ih x
theorem c_linesStep {t : List Class} {cl : Bool} {P : List Line} {clp : Bool} {n : Nat} (ht : validT t = true) (hp : P.length ≤ 4398046511104) (ih : LinesOk t cl P clp n) : LinesOk t cl P clp (n + 1) := by
  intro f i d h s F H bm hfn hat hnf hs hh hl hf hM
  have hfl := hat.len
  refine acalls_of1 Tryz.func46 rfl (by kernel_rfl) rfl rfl (awp_sound (fz := fun r => if r = 12 then [11] else []) (im := fun _ => false) mixed _ _ _ _ (by kernel_rfl) ?_)
  simp +contextual -dsimp -implicitDefEqProofs (maxSteps := 5000000) only [go_sem, reduceIte, reduceCtorEq, Nat.reduceEqDiff, Nat.reduceBEq, Nat.reduceAdd, Nat.reduceLeDiff, Nat.reduceMul, Nat.reduceLT, Int.reduceEq, Int.reduceLT, Int.reduceLE]
  intro b8 hb8
  have hF8 := mach_none hM hb8
  refine aloop mixed (fz := fun r => if r = 12 then [11] else []) (im := fun _ => false) (by kernel_rfl) (fun m tm H' => ∃ (g : Fo) (q : Nat) (s' : RS) (H'' : AHeap), m = g.size ∧ At P q d g ∧ numsF t g d = true ∧ g.size ≤ f.size ∧ q + g.size = i + f.size ∧ FsOk t s'.fs ∧ s.fs.length ≤ s'.fs.length ∧ s'.log.length + cost g ≤ 900000 ∧ s'.fs.length + cost g ≤ 900000 ∧ runF t f i none h s = runF t g q none h s' ∧ H' = H''.set b8 ⟨2, 71, [[I 0, I 0]]⟩ ∧ H'' b8 = none ∧ MachS F H'' bm t cl P clp s' ∧ tm 0 = .ptr bm 5 0 0 ∧ tm 2 = I (i + f.size : Nat) ∧ tm 3 = I h ∧ tm 8 = .ptr b8 2 0 0 ∧ tm 9 = I q) f.size ⟨f, i, s, H, rfl, hat, hnf, Nat.le_refl _, rfl, hs, Nat.le_refl _, hl, hf, rfl, rfl, hb8, hM, ?_⟩ ?_
  · simp +contextual -dsimp -implicitDefEqProofs (maxSteps := 5000000) only [go_sem, reduceIte, reduceCtorEq, Nat.reduceEqDiff, Nat.reduceBEq, Nat.reduceAdd, Nat.reduceLeDiff, Nat.reduceMul, Nat.reduceLT, Int.reduceEq, Int.reduceLT, Int.reduceLE]
  · rintro m tm _ ⟨g, q, s', H'', rfl, hgat, hgn, hgs, hgq, hs', hsl, bl, bf, he, rfl, h8, hM', t0, t2, t3, t8, t9⟩
    cases g with
    | nil =>
      have z : ¬ q < i + f.size := by simp only [Fo.size] at hgq; omega
      rw [he]
      simp +contextual -dsimp -implicitDefEqProofs (maxSteps := 5000000) only [go_sem, reduceIte, reduceCtorEq, Nat.reduceEqDiff, Nat.reduceBEq, Nat.reduceAdd, Nat.reduceLeDiff, Nat.reduceMul, Nat.reduceLT, Int.reduceEq, Int.reduceLT, Int.reduceLE, t0, t2, t3, t8, t9, z]
      refine retR_less (l := [.agg (rEn .next)]) (H' := H'') ?_ (le_set h8) ⟨rfl, hM'⟩
      simp only [resA, go_sem, reduceIte, reduceCtorEq, Nat.reduceEqDiff, Nat.reduceBEq, Nat.reduceAdd, Nat.reduceLeDiff, Nat.reduceMul, Nat.reduceLT, Int.reduceEq, Int.reduceLT, Int.reduceLE, rEn, En.next, t8]
    | node k a b kids rest =>
      have hsz : (Fo.node k a b kids rest).size = 1 + kids.size + rest.size := rfl
      have z : q < i + f.size := by omega
      have hq := hgat.head
      obtain ⟨xl, xf, H1, H2, hFm, hg1, hg2, hb, rfl⟩ := id hM'
      have h8' := h8
      rw [set_none] at h8'
      obtain ⟨m1, m2, m3⟩ := h8'
      obtain ⟨n1, n2, n3, n4, n5⟩ := numsF_node hgn
      simp +contextual -dsimp -implicitDefEqProofs (maxSteps := 5000000) only [go_sem, reduceIte, reduceCtorEq, Nat.reduceEqDiff, Nat.reduceBEq, Nat.reduceAdd, Nat.reduceLeDiff, Nat.reduceMul, Nat.reduceLT, Int.reduceEq, Int.reduceLT, Int.reduceLE, t0, t2, t3, t8, t9, z, m1, m2]
      refine (c_endOf P clp q _ hq.1).det ?_
      rw [hgat.endP]
      simp +contextual -dsimp -implicitDefEqProofs (maxSteps := 5000000) only [go_sem, reduceIte, reduceCtorEq, Nat.reduceEqDiff, Nat.reduceBEq, Nat.reduceAdd, Nat.reduceLeDiff, Nat.reduceMul, Nat.reduceLT, Int.reduceEq, Int.reduceLT, Int.reduceLE, t0, t2, t3, t8, t9, z, m1, m2, hq.1, hq.2]
      rintro b11 ⟨d1, d2, d3, d4, m4⟩
      have h11 : (H2.set bm ⟨5, 80, [[.vsl (t.map rClass) cl, aProg P clp, xl, xf, I s'.first]]⟩) b11 = none := by rw [set_other d3]; exact m4
      have hF11 := mach_none hM' h11
      have adv : ∀ (SZ : Nat) (g' : Fo) (q' : Nat) (s'' : RS) (H3 : AHeap), g'.size < SZ → g'.size ≤ rest.size → At P q' d g' → numsF t g' d = true → q' + g'.size = i + f.size → runF t (.node k a b kids rest) q none h s' = runF t g' q' none h s'' → FsOk t s''.fs → s.fs.length ≤ s''.fs.length → s''.log.length + cost g' ≤ 900000 → s''.fs.length + cost g' ≤ 900000 → H3 b8 = none → MachS F H3 bm t cl P clp s'' →
          ∃ m', m' < SZ ∧ ∃ (g : Fo) (q : Nat) (s' : RS) (H'' : AHeap), m' = g.size ∧ At P q d g ∧ numsF t g d = true ∧ g.size ≤ f.size ∧ q + g.size = i + f.size ∧ FsOk t s'.fs ∧ s.fs.length ≤ s'.fs.length ∧ s'.log.length + cost g ≤ 900000 ∧ s'.fs.length + cost g ≤ 900000 ∧ runF t f i none h s = runF t g q none h s' ∧ H3.set b8 ⟨2, 71, [[I 0, I 0]]⟩ = H''.set b8 ⟨2, 71, [[I 0, I 0]]⟩ ∧ H'' b8 = none ∧ MachS F H'' bm t cl P clp s' ∧ I q' = I q :=
        fun SZ g' q' s'' H3 w1 w0 w2 w3 w4 w5 w6 w7 w8 w9 w10 w11 => ⟨g'.size, w1, g', q', s'', H3, rfl, w2, w3, by omega, w4, w6, w7, w8, w9, by rw [he]; exact w5, rfl, w10, w11, rfl⟩
      have hMin := mach_in (K := ⟨2, 71, [[I 0, I 0]]⟩) (mach_in (K := ⟨2, 71, [[I 0, I 0]]⟩) hM' h8) (show ((H2.set bm _).set b8 _) b11 = none by rw [set_other d1]; exact h11)
      have mout : ∀ (s'' : RS) (H3 : AHeap), MachS ((F.set b8 ⟨2, 71, [[I 0, I 0]]⟩).set b11 ⟨2, 71, [[I 0, I 0]]⟩) H3 bm t cl P clp s'' → ∃ H4, H3 = (H4.set b8 ⟨2, 71, [[I 0, I 0]]⟩).set b11 ⟨2, 71, [[I 0, I 0]]⟩ ∧ MachS F H4 bm t cl P clp s'' ∧ H4 b8 = none ∧ H4 b11 = none := by
        intro s'' H3 hM3
        obtain ⟨H4, rfl, hM4, w1⟩ := mach_out hM3 (by rw [set_other d1]; exact hF11)
        obtain ⟨H5, rfl, hM5, w2⟩ := mach_out hM4 hF8
        rw [set_other d1] at w1
        exact ⟨H5, rfl, hM5, w2, w1⟩
      by_cases k7 : k = 7
      · subst k7
        have hc : cost (.node 7 a b kids rest) = 2 + cost kids + cost rest := cost_node_le (by omega)
        simp +contextual -dsimp -implicitDefEqProofs (maxSteps := 5000000) only [go_sem, reduceIte, reduceCtorEq, Nat.reduceEqDiff, Nat.reduceBEq, Nat.reduceAdd, Nat.reduceLeDiff, Nat.reduceMul, Nat.reduceLT, Int.reduceEq, Int.reduceLT, Int.reduceLE, t0, t2, t3, t8, t9, z, m1, m2, hq.1, hq.2, d1, d2, d3, d4]
        refine acalls_frz (c_tryFrom P clp q _ hq.1 hp) fun cl2 => ?_
        rw [chainP_at hgat]
        simp +contextual -dsimp -implicitDefEqProofs (maxSteps := 5000000) only [go_sem, reduceIte, reduceCtorEq, Nat.reduceEqDiff, Nat.reduceBEq, Nat.reduceAdd, Nat.reduceLeDiff, Nat.reduceMul, Nat.reduceLT, Int.reduceEq, Int.reduceLT, Int.reduceLE, t0, t2, t3, t8, t9, z, m1, m2, hq.1, hq.2, d1, d2, d3, d4]
        refine draw_intro [0, 0, 0, 0, 0, 0, 0, 0, 0, 0, 2, 0] AHeap.none (by kernel_rfl) none_le ?_
        have hce := chain_end rest (q + 1 + kids.size) q hgat.rest hgat.endP
        have hgl := getD_last q (chainN rest (q + 1 + kids.size))
        have hmem := chainP_mem hq.1 ((q :: chainN rest (q + 1 + kids.size)).getLastD 0) (by
          rw [chainP_at hgat, ← hgl, List.getD_eq_getElem?_getD, List.getElem?_eq_getElem (by simp)]
          exact List.getElem_mem _)
        have hwl : IntKind.i64.wrap (((chainN rest (q + 1 + kids.size)).length + 1 : Nat) - 1) = ((chainN rest (q + 1 + kids.size)).length : Int) := by
          have := chain_len rest (q + 1 + kids.size)
          rw [w64 (by omega) (by omega)]; omega
        have hlt1 : ((chainN rest (q + 1 + kids.size)).length : Int) < (((chainN rest (q + 1 + kids.size)).length + 1 : Nat) : Int) := by omega
        have hlt2 : (chainN rest (q + 1 + kids.size)).length < (chainN rest (q + 1 + kids.size)).length + 1 := by omega
        simp +contextual -dsimp -implicitDefEqProofs (maxSteps := 5000000) only [go_sem, reduceIte, reduceCtorEq, Nat.reduceEqDiff, Nat.reduceBEq, Nat.reduceAdd, Nat.reduceLeDiff, Nat.reduceMul, Nat.reduceLT, Int.reduceEq, Int.reduceLT, Int.reduceLE, t0, t2, t3, t8, t9, z, m1, m2, hq.1, hq.2, d1, d2, d3, d4, toI_len, toI_at, List.length_cons, hwl, hgl, hlt1, hlt2]
        refine (c_endOf P clp _ _ hmem).det ?_
        rw [hce]
        simp +contextual -dsimp -implicitDefEqProofs (maxSteps := 5000000) only [go_sem, reduceIte, reduceCtorEq, Nat.reduceEqDiff, Nat.reduceBEq, Nat.reduceAdd, Nat.reduceLeDiff, Nat.reduceMul, Nat.reduceLT, Int.reduceEq, Int.reduceLT, Int.reduceLE, t0, t2, t3, t8, t9, z, m1, m2, hq.1, hq.2, d1, d2, d3, d4]
        have hgo0 := goes_run ht kids (q + 1) none (d + 1) h s' n4 hs' (by omega) trivial
        have hgl0 := hgo0.len
        have hss := skipN_add rest (q + 1 + kids.size)
        have hsf := skipF_size rest
        refine (c_try ht ih cl2 (by omega) hgat n4 n5 hs' (by omega) (by omega) (by omega) hMin hp).mono ?_
        rintro _ H3 ⟨rfl, hM3⟩
        have hrun := runF_try (t := t) (a := a) (b := b) (kids := kids) (rest := rest) (i := q) (h := h) (s := s')
        simp only [runF_some] at hrun
        generalize runF t kids (q + 1) none h s' = r0 at hM3 hgo0 hgl0 hrun ⊢
        obtain ⟨c, hc1, hgo⟩ := goes_chain ht rest (q + 1 + kids.size) r0.1 r0.1 d h r0.2 n5 hgo0.ok (by omega) ⟨hgo0.val, hgo0.val⟩
        have hgl := hgo.len
        generalize chainR t rest (q + 1 + kids.size) r0.1 r0.1 h r0.2 = r at hM3 hgo hgl hrun ⊢
        obtain ⟨H4, rfl, hM4, w1, w2⟩ := mout _ _ hM3
        by_cases c0 : r.1.ed = 0
        · simp only [c0, if_true] at hrun
          simp +contextual -dsimp -implicitDefEqProofs (maxSteps := 5000000) only [go_sem, reduceIte, reduceCtorEq, Nat.reduceEqDiff, Nat.reduceBEq, Nat.reduceAdd, Nat.reduceLeDiff, Nat.reduceMul, Nat.reduceLT, Int.reduceEq, Int.reduceLT, Int.reduceLE, rEn, t0, t2, t3, t8, t9, z, m1, m2, hq.1, hq.2, d1, d2, d3, d4, c0, w2]
          exact adv _ (skipF rest) (skipN rest (q + 1 + kids.size)) r.2 H4 (by simp only [Fo.size]; omega) hsf hgat.rest.skip (numsF_skip rest n5) (by omega) hrun hgo.ok (by omega) (by omega) (by omega) w1 hM4
        · simp only [c0, if_false] at hrun
          simp +contextual -dsimp -implicitDefEqProofs (maxSteps := 5000000) only [go_sem, reduceIte, reduceCtorEq, Nat.reduceEqDiff, Nat.reduceBEq, Nat.reduceAdd, Nat.reduceLeDiff, Nat.reduceMul, Nat.reduceLT, Int.reduceEq, Int.reduceLT, Int.reduceLE, rEn, t0, t2, t3, t8, t9, z, m1, m2, hq.1, hq.2, d1, d2, d3, d4, c0]
          rw [he, hrun]
          refine retR_less (l := [.agg (rEn r.1)]) (H' := H4) ?_ (le_s1 (le_s1 (AHeap.le_refl _) w1) w2) ⟨rfl, hM4⟩
          simp only [resA, go_sem, reduceIte, reduceCtorEq, Nat.reduceEqDiff, Nat.reduceBEq, Nat.reduceAdd, Nat.reduceLeDiff, Nat.reduceMul, Nat.reduceLT, Int.reduceEq, Int.reduceLT, Int.reduceLE, rEn, d1, d2, t8]
      · have hgo := goes_lineR (h := h) (i := q) (body := fun s => runF t kids (q + 1) none h s) (n := cost kids) ht hs' n1 (by omega) (fun s2 hs2 hl2 => goes_run ht kids (q + 1) none (d + 1) h s2 n4 hs2 (by omega) trivial)
        have hgl := hgo.len
        have hrun := runF_line (t := t) (a := a) (b := b) (kids := kids) (rest := rest) (i := q) (h := h) (s := s') k7
        have hcn : cost (.node k a b kids rest) = 2 + (if k = 12 then a.toNat * cost kids else cost kids) + cost rest := rfl
        simp +contextual -dsimp -implicitDefEqProofs (maxSteps := 5000000) only [go_sem, reduceIte, reduceCtorEq, Nat.reduceEqDiff, Nat.reduceBEq, Nat.reduceAdd, Nat.reduceLeDiff, Nat.reduceMul, Nat.reduceLT, Int.reduceEq, Int.reduceLT, Int.reduceLE, t0, t2, t3, t8, t9, z, m1, m2, hq.1, hq.2, d1, d2, d3, d4, k7]
        refine (c_line ht ih (by omega) hgat n1 n4 hs' (by omega) (by omega) (by omega) hMin hp).mono ?_
        rintro _ H3 ⟨rfl, hM3⟩
        generalize lineR k a b q h (fun s => runF t kids (q + 1) none h s) s' = r at hM3 hgo hgl hrun ⊢
        obtain ⟨H4, rfl, hM4, w1, w2⟩ := mout _ _ hM3
        by_cases c0 : r.1.ed = 0
        · simp only [c0, if_true] at hrun
          simp +contextual -dsimp -implicitDefEqProofs (maxSteps := 5000000) only [go_sem, reduceIte, reduceCtorEq, Nat.reduceEqDiff, Nat.reduceBEq, Nat.reduceAdd, Nat.reduceLeDiff, Nat.reduceMul, Nat.reduceLT, Int.reduceEq, Int.reduceLT, Int.reduceLE, rEn, t0, t2, t3, t8, t9, z, m1, m2, hq.1, hq.2, d1, d2, d3, d4, c0, w2]
          exact adv _ rest (q + 1 + kids.size) r.2 H4 (by simp only [Fo.size]; omega) (Nat.le_refl _) hgat.rest n5 (by omega) hrun hgo.ok (by omega) (by omega) (by omega) w1 hM4
        · simp only [c0, if_false] at hrun
          simp +contextual -dsimp -implicitDefEqProofs (maxSteps := 5000000) only [go_sem, reduceIte, reduceCtorEq, Nat.reduceEqDiff, Nat.reduceBEq, Nat.reduceAdd, Nat.reduceLeDiff, Nat.reduceMul, Nat.reduceLT, Int.reduceEq, Int.reduceLT, Int.reduceLE, rEn, t0, t2, t3, t8, t9, z, m1, m2, hq.1, hq.2, d1, d2, d3, d4, c0]
          rw [he, hrun]
          refine retR_less (l := [.agg (rEn r.1)]) (H' := H4) ?_ (le_s1 (le_s1 (AHeap.le_refl _) w1) w2) ⟨rfl, hM4⟩
          simp only [resA, go_sem, reduceIte, reduceCtorEq, Nat.reduceEqDiff, Nat.reduceBEq, Nat.reduceAdd, Nat.reduceLeDiff, Nat.reduceMul, Nat.reduceLT, Int.reduceEq, Int.reduceLT, Int.reduceLE, rEn, d1, d2, t8]
theorem c_linesAll {t : List Class} {cl : Bool} {P : List Line} {clp : Bool} (ht : validT t = true) (hp : P.length ≤ 4398046511104) : ∀ n, LinesOk t cl P clp n
  | 0 => fun f i d h s F H bm hn => by omega
  | n + 1 => c_linesStep ht hp (c_linesAll ht hp n)
end
section
open Go Go.Sim
set_option maxRecDepth 100000
set_option maxHeartbeats 4000000

/-- The lines of a program, with their blocks. -/
noncomputable def forestP (p : List Line) : Fo := @dite _ (∃ f : Fo, p = f.flat 0) (Classical.propDecidable _) (fun h => h.choose) (fun _ => .nil)
theorem forestP_flat (f : Fo) : forestP (f.flat 0) = f := by
  have h : ∃ g : Fo, f.flat 0 = g.flat 0 := ⟨f, rfl⟩
  unfold forestP
  rw [dif_pos h]
  exact (flat_one h.choose_spec).symm
def rs0 : RS := ⟨[], [], -1⟩
noncomputable def runP (t : List Class) (p : List Line) : En × RS := runF t (forestP p) 0 none (-1) rs0
/-- The result of a run, as the program tells it. -/
def resOf (r : En × RS) : Res :=
  if r.1.ed = 2 then ⟨r.2.log, 2, idxF (fun x => decide (r.1.val = x)) (sortI (bfsF r.2.fs r.1.val)), isoL r.2.fs (sortI (bfsF r.2.fs r.1.val))⟩ else ⟨r.2.log, r.1.ed, r.1.val, []⟩
theorem validP_forest {t : List Class} {p : List Line} (h : ValidP t p) : validT t = true ∧ p = (forestP p).flat 0 ∧ numsF t (forestP p) 0 = true ∧ okF (forestP p) false false = true ∧ (forestP p).size = p.length ∧ (forestP p).size ≤ 24 := by
  obtain ⟨h1, h2, f, rfl, h3, h4⟩ := h
  rw [forestP_flat]
  rw [flat_len] at h2
  exact ⟨h1, rfl, h3, h4, (flat_len f 0).symm, h2⟩
theorem runP_goes {t : List Class} {p : List Line} (h : ValidP t p) : Goes t 34992 rs0 (runP t p).1 (runP t p).2 := by
  obtain ⟨h1, h2, h3, h4, h5, h6⟩ := validP_forest h
  exact (goes_run h1 (forestP p) 0 none 0 (-1) rs0 h3 (fsOk_nil t) (by show (-1 : Int) < 0; omega) trivial).le (cost_small h3 h6)
theorem c_mRunProgram (t : List Class) (cl : Bool) (p : List Line) (cl' : Bool) (H : AHeap) (hn : namesOk t) (hp : p.length ≤ 4398046511104) :
    ACalls Tryz.prog 14 [aTree t cl, aProg p cl'] H fun r H' => OwnRes H H' r (if validB t p = true then resOf (runP t p) else res0) := by
  refine acalls_of1 Tryz.func14 rfl (by kernel_rfl) rfl rfl (awp_sound (fz := fun _ => []) (im := fun s => s == 2) mixed _ _ _ _ (by kernel_rfl) ?_)
  simp +contextual -dsimp -implicitDefEqProofs (maxSteps := 5000000) only [go_sem, reduceIte, reduceCtorEq, Nat.reduceEqDiff, Nat.reduceBEq, Nat.reduceAdd, Nat.reduceLeDiff, Nat.reduceMul, Nat.reduceLT, Int.reduceEq, Int.reduceLT, Int.reduceLE]
  intro b4 hb4
  refine (c_ValidProgram t cl p cl' _ hn hp).det ?_
  cases hv : validB t p
  · simp +contextual -dsimp -implicitDefEqProofs (maxSteps := 5000000) only [go_sem, reduceIte, reduceCtorEq, Nat.reduceEqDiff, Nat.reduceBEq, Nat.reduceAdd, Nat.reduceLeDiff, Nat.reduceMul, Nat.reduceLT, Int.reduceEq, Int.reduceLT, Int.reduceLE]
    refine retR_less (l := [.agg [.vsl [] true, I 0, I 0, .vsl [] true]]) (H' := H) ?_ (le_set hb4) (own0 H)
    simp only [resA, go_sem, reduceIte, reduceCtorEq, Nat.reduceEqDiff, Nat.reduceBEq, Nat.reduceAdd, Nat.reduceLeDiff, Nat.reduceMul, Nat.reduceLT, Int.reduceEq, Int.reduceLT, Int.reduceLE]
  · have hval := validB_true.1 hv
    obtain ⟨h1, h2, h3, h4, h5, h6⟩ := validP_forest hval
    have hgo := runP_goes hval
    have hgl := hgo.len
    have hat := at_top h2
    have hcs := cost_small h3 h6
    have hlen : ((0 + (forestP p).size : Nat) : Int) = (p.length : Int) := by omega
    simp +contextual -dsimp -implicitDefEqProofs (maxSteps := 5000000) only [go_sem, reduceIte, reduceCtorEq, Nat.reduceEqDiff, Nat.reduceBEq, Nat.reduceAdd, Nat.reduceLeDiff, Nat.reduceMul, Nat.reduceLT, Int.reduceEq, Int.reduceLT, Int.reduceLE]
    refine (c_machineOf t cl _ (p.map rLine) cl').mono ?_
    rintro _ H1 ⟨bm, rfl, hM⟩
    simp +contextual -dsimp -implicitDefEqProofs (maxSteps := 5000000) only [go_sem, reduceIte, reduceCtorEq, Nat.reduceEqDiff, Nat.reduceBEq, Nat.reduceAdd, Nat.reduceLeDiff, Nat.reduceMul, Nat.reduceLT, Int.reduceEq, Int.reduceLT, Int.reduceLE]
    have key := c_linesAll (cl := cl) (P := p) (clp := cl') h1 hp ((forestP p).size + 1) (forestP p) 0 0 (-1) rs0 (H.set b4 ⟨4, 38, [[.vsl [] true, I 0, I 0, .vsl [] true]]⟩) H1 bm (by omega) hat h3 (fsOk_nil t) (by show (-1 : Int) < 0; omega) (by show 0 + _ ≤ _; omega) (by show 0 + _ ≤ _; omega) hM
    rw [hlen, show ((0 : Nat) : Int) = 0 from rfl] at key
    refine key.mono ?_
    rintro _ H2 ⟨rfl, hM2⟩
    have er : runF t (forestP p) 0 none (-1) rs0 = runP t p := rfl
    rw [er] at hM2 ⊢
    generalize runP t p = r at hM2 hgo hgl ⊢
    simp +contextual -dsimp -implicitDefEqProofs (maxSteps := 5000000) only [go_sem, reduceIte, reduceCtorEq, Nat.reduceEqDiff, Nat.reduceBEq, Nat.reduceAdd, Nat.reduceLeDiff, Nat.reduceMul, Nat.reduceLT, Int.reduceEq, Int.reduceLT, Int.reduceLE, rEn]
    refine (c_mresult _ H2 bm _ _ r.2.log r.2.fs r.2.first r.1.ed r.1.val hM2 hgo.ok.ho (by have : (rs0 : RS).fs.length = 0 := rfl; omega) hgo.val).mono ?_
    rintro x H3 hr
    have hr' : OwnRes (H.set b4 ⟨4, 38, [[.vsl [] true, I 0, I 0, .vsl [] true]]⟩) H3 x (resOf r) := by
      obtain ⟨xl, xh, G1, e1, e2, e3⟩ := hr
      refine ⟨xl, xh, G1, ?_, ?_, ?_⟩
      · rw [e1]; unfold resOf; split
        · rename_i q; rw [q]
        · rfl
      · unfold resOf; split <;> exact e2
      · unfold resOf; split
        · rename_i q; rw [if_pos q] at e3; exact e3
        · rename_i q; rw [if_neg q] at e3; exact e3
    obtain ⟨H4, rfl, hown, hn4⟩ := own_out hr' hb4
    obtain ⟨xl, xh, rfl, o1, o2⟩ := own_row hown
    simp +contextual -dsimp -implicitDefEqProofs (maxSteps := 5000000) only [go_sem, reduceIte, reduceCtorEq, Nat.reduceEqDiff, Nat.reduceBEq, Nat.reduceAdd, Nat.reduceLeDiff, Nat.reduceMul, Nat.reduceLT, Int.reduceEq, Int.reduceLT, Int.reduceLE, o1, o2]
    refine retR_less (l := [.agg [xl, I (resOf r).ed, I (resOf r).val, xh]]) (H' := H4) ?_ (le_set hn4) hown
    simp only [resA, go_sem, reduceIte, reduceCtorEq, Nat.reduceEqDiff, Nat.reduceBEq, Nat.reduceAdd, Nat.reduceLeDiff, Nat.reduceMul, Nat.reduceLT, Int.reduceEq, Int.reduceLT, Int.reduceLE]
end
section
open Go Go.Sim
set_option maxRecDepth 100000

/-- The lines of a block that is right. -/
theorem okF_node {k a b : Int} {kids rest : Fo} {lp m : Bool} (h : okF (.node k a b kids rest) lp m = true) :
    (followsK k = true ∧ m = true ∧ okF kids lp false = true ∧ okF rest lp true = true) ∨
    (followsK k = false ∧ ((k = 7 ∧ tryOkF (headsK rest) = true ∧ okF kids lp false = true ∧ okF rest lp true = true) ∨
      (k ≠ 7 ∧ okF rest lp false = true ∧ (k = 11 → okF kids lp false = true) ∧ (k = 12 → okF kids true false = true) ∧ (k = 5 ∨ k = 6 → lp = true)))) := by
  simp only [okF] at h
  by_cases hf : followsK k = true
  · rw [if_pos hf] at h
    simp only [Bool.and_eq_true] at h
    exact .inl ⟨hf, h.1, h.2.1, h.2.2⟩
  · right
    refine ⟨by simpa using hf, ?_⟩
    rw [if_neg hf] at h
    by_cases h56 : k = 5 ∨ k = 6
    · rw [if_pos h56, Bool.and_eq_true] at h
      exact .inr ⟨by omega, h.2, fun q => by omega, fun q => by omega, fun _ => h.1⟩
    · rw [if_neg h56] at h
      by_cases h7 : k = 7
      · rw [if_pos h7] at h
        simp only [Bool.and_eq_true] at h
        exact .inl ⟨h7, h.1, h.2.1, h.2.2⟩
      · rw [if_neg h7] at h
        by_cases h11 : k = 11
        · rw [if_pos h11, Bool.and_eq_true] at h
          exact .inr ⟨h7, h.2, fun _ => h.1, fun q => by omega, fun q => absurd q h56⟩
        · rw [if_neg h11] at h
          by_cases h12 : k = 12
          · rw [if_pos h12, Bool.and_eq_true] at h
            exact .inr ⟨h7, h.2, fun q => absurd q h11, fun _ => h.1, fun q => absurd q h56⟩
          · rw [if_neg h12] at h
            exact .inr ⟨h7, h, fun q => absurd q h11, fun q => absurd q h12, fun q => absurd q h56⟩
end
section
open Go Go.Sim
set_option maxRecDepth 100000

/-- A number of a fault, further on. -/
def shv (n : Nat) (v : Int) : Int := if 0 ≤ v then v + n else v
def shf (n : Nat) (x : Fault) : Fault := { x with cause := shv n x.cause, ctx := shv n x.ctx }
/-- How two runs are alike: logs as 'LR' says, faults behind 'F'; 'wk': but for what was handled. -/
structure SimP where
  LR : List Int → List Int → Prop
  F : List Fault
  wk : Bool
structure SR (P : SimP) (s s' : RS) : Prop where
  log : P.LR s.log s'.log
  fs : ∃ X, s'.fs = P.F ++ X ∧ (P.wk = true → X.map (·.cls) = s.fs.map (·.cls)) ∧ (P.wk = false → X = s.fs.map (shf P.F.length))
def HR (P : SimP) (h h' : Int) : Prop := (0 ≤ h ∧ h' = h + P.F.length) ∨ (h < 0 ∧ (P.wk = true ∨ h' < 0))
section
variable {P : SimP}
theorem SR.len {s s' : RS} (h : SR P s s') : s'.fs.length = P.F.length + s.fs.length := by
  obtain ⟨X, e, h1, h2⟩ := h.fs
  have : X.length = s.fs.length := by
    cases hw : P.wk
    · rw [h2 hw, List.length_map]
    · have := congrArg List.length (h1 hw)
      simpa using this
  rw [e, List.length_append, this]
theorem SR.cls {s s' : RS} (h : SR P s s') {v : Int} (hv : 0 ≤ v) : clsOf s' (v + P.F.length) = clsOf s v := by
  obtain ⟨X, e, h1, h2⟩ := h.fs
  have hc : X.map (·.cls) = s.fs.map (·.cls) := by
    cases hw : P.wk
    · rw [h2 hw, List.map_map]; rfl
    · exact h1 hw
  have hg : ∀ (l : List Fault) (k : Nat), (l.getD k default).cls = (l.map (·.cls)).getD k (default : Fault).cls := fun l k => by
    simp only [List.getD_eq_getElem?_getD, List.getElem?_map]
    cases l[k]? <;> rfl
  unfold clsOf
  have e2 : (v + (P.F.length : Int)).toNat = P.F.length + v.toNat := by omega
  rw [e, e2]
  have e3 : (P.F ++ X).getD (P.F.length + v.toNat) default = X.getD v.toNat default := by
    simp only [List.getD_eq_getElem?_getD]
    rw [List.getElem?_append_right (by omega), Nat.add_sub_cancel_left]
  rw [e3, hg, hg, hc]
theorem SR.tell {s s' : RS} (h : SR P s s') {n n' : Int} (hl : P.LR s.log s'.log → P.LR (s.log ++ [n]) (s'.log ++ [n'])) : SR P (s.tell n) (s'.tell n') := ⟨hl h.log, h.fs⟩
theorem SR.jump {s s' : RS} (h : SR P s s') (k : Int) (i i' : Nat) : SR P (s.jump k i) (s'.jump k i') := by
  unfold RS.jump
  constructor
  · split <;> split <;> exact h.log
  · split <;> split <;> exact h.fs
theorem SR.raise {s s' : RS} (h : SR P s s') (c d : Int) {g g' : Int} (hg : HR P g g') : SR P (s.raise c d g) (s'.raise c d g') := by
  refine ⟨h.log, ?_⟩
  obtain ⟨X, e, h1, h2⟩ := h.fs
  refine ⟨X ++ [⟨c, d, -1, if 0 ≤ g' then g' else -1, false⟩], ?_, fun q => ?_, fun q => ?_⟩
  · show raiseF s'.fs c d g' = _
    unfold raiseF
    rw [e, List.append_assoc]
  · show _ = (raiseF s.fs c d g).map (·.cls)
    unfold raiseF
    rw [List.map_append, List.map_append, h1 q]; rfl
  · show _ = (raiseF s.fs c d g).map (shf P.F.length)
    unfold raiseF
    rw [List.map_append, ← h2 q]
    congr 1
    rcases hg with ⟨g0, rfl⟩ | ⟨g0, g1⟩
    · have h3 : 0 ≤ g + (P.F.length : Int) := by omega
      simp [shf, shv, g0, h3]
    · have g2 : g' < 0 := by
        rcases g1 with g1 | g1
        · rw [q] at g1; cases g1
        · exact g1
      have n1 : ¬ 0 ≤ g := by omega
      have n2 : ¬ 0 ≤ g' := by omega
      simp [shf, shv, n1, n2]
end
end
section
open Go Go.Sim
set_option maxRecDepth 100000

/-- How lines may end, in a loop or not. -/
def EdOk (lp : Bool) (e : En) : Prop := (e.ed = 0 → e.val = 0) ∧ (e.ed = 0 ∨ e.ed = 1 ∨ e.ed = 2 ∨ (lp = true ∧ (e.ed = 3 ∨ e.ed = 4)))
theorem EdOk.up {e : En} {lp : Bool} (h : EdOk false e) : EdOk lp e := ⟨h.1, by have := h.2; simp at this; omega⟩
/-- Runs that are the same but for where the first jump is. -/
def REq (r r' : En × RS) : Prop := r'.1 = r.1 ∧ r'.2.log = r.2.log ∧ r'.2.fs = r.2.fs
theorem REq.refl (r : En × RS) : REq r r := ⟨rfl, rfl, rfl⟩
theorem REq.symm {r r' : En × RS} (h : REq r r') : REq r' r := ⟨h.1.symm, h.2.1.symm, h.2.2.symm⟩
theorem REq.trans {r r' r'' : En × RS} (h : REq r r') (g : REq r' r'') : REq r r'' := ⟨g.1.trans h.1, g.2.1.trans h.2.1, g.2.2.trans h.2.2⟩
theorem REq.res {r r' : En × RS} (h : REq r r') : resOf r' = resOf r := by
  unfold resOf
  rw [h.1, h.2.1, h.2.2]
/-- Logs and faults go on behind others. -/
abbrev behind (L : List Int) (F : List Fault) (wk : Bool) : SimP := ⟨fun l l' => l' = L ++ l, F, wk⟩
end
section
open Go Go.Sim
set_option maxRecDepth 100000
/-- The classes ahead in a try, behind a line. -/
def csN (k a : Int) (cs : List Int) : List Int := if k = 8 then cs ++ [a] else if followsK k = true then cs else []
/-- A line that never catches. -/
def deadK (t : List Class) (k a : Int) (cs : List Int) : Bool := decide (k = 8) && cs.any fun c => isF t a c
theorem tryG_cons {last k : Int} {ks : List Int} (h : tryG last (k :: ks) = true) : ((k = 8 ∧ last ≤ 8) ∨ (k = 9 ∧ last = 8) ∨ (k = 10 ∧ last < 10)) ∧ tryG k ks = true := by
  simpa [tryG] using h
/-! ### Runs -/
end
section
open Go Go.Sim
set_option maxRecDepth 100000

theorem jumpsK_iff {k : Int} : jumpsK k = true ↔ 2 ≤ k ∧ k ≤ 6 := by simp only [jumpsK, inR, Bool.and_eq_true, decide_eq_true_eq]
theorem followsK_iff {k : Int} : followsK k = true ↔ 8 ≤ k ∧ k ≤ 10 := by simp only [followsK, inR, Bool.and_eq_true, decide_eq_true_eq]
theorem jump_ends {k a b h : Int} {s : RS} (hk : jumpsK k = true) : (lineS k a b h s).1.ed ≠ 0 := by
  rw [jumpsK_iff] at hk
  unfold lineS
  rw [if_neg (by omega)]
  split
  · exact fun q => by cases q
  · split
    · split <;> exact fun q => by cases q
    · split
      · exact fun q => by cases q
      · split
        · exact fun q => by cases q
        · rw [if_pos (by omega)]; exact fun q => by cases q

/-! ### Lines that cannot be run -/
/-- Of each line whether it cannot be run; 'sh': its block is never run; 'seen': a jump is ahead of it in its block. -/
def dlF (t : List Class) : Fo → Bool → Bool → List Int → List Bool
  | .nil, _, _, _ => []
  | .node k a b kids rest, sh, seen, cs =>
    (sh || (seen || deadK t k a cs)) :: (dlF t kids ((sh || (seen || deadK t k a cs)) || (decide (k = 12) && decide (a = 0))) false [] ++ dlF t rest sh (seen || jumpsK k) (csN k a cs))
theorem dl_len (t : List Class) : ∀ (f : Fo) (sh seen : Bool) (cs : List Int), (dlF t f sh seen cs).length = f.size
  | .nil, _, _, _ => rfl
  | .node k a b kids rest, sh, seen, cs => by simp only [dlF, List.length_cons, List.length_append, dl_len t kids, dl_len t rest, Fo.size]; omega
noncomputable def deadsP (t : List Class) (p : List Line) : List Bool := dlF t (forestP p) false false []
end
section
open Go Go.Sim
set_option maxRecDepth 100000
/-- A fault isolated: its number, and the faults. -/
def isoR (fs : List Fault) (v : Int) : Int × List Fault := (idxF (fun x => decide (v = x)) (sortI (bfsF fs v)), isoL fs (sortI (bfsF fs v)))
theorem sort_dch {h : List Fault} (ho : heapOk h) {f : Int} (h0 : 0 ≤ f) (h1 : f < h.length) : sortI (bfsF h f) = (dchF h f).reverse := by
  rw [bfsF_dch ho h0 h1]
  exact sortI_dec (dchG_dec ho (f + 1).toNat f h1).1
section
variable {F h : List Fault}
theorem dch_pre {X : List Fault} (ho : heapOk F) : ∀ (m : Nat) (v : Int), v < F.length → dchG (F ++ X) m v = dchG F m v
  | 0, v, _ => rfl
  | m + 1, v, hv => by
    simp only [dchG]
    split
    · rename_i h0
      obtain ⟨o1, o2, o3⟩ := ho v.toNat (by omega)
      have e : ctxOf (F ++ X) v = ctxOf F v := by
        unfold ctxOf
        simp only [List.getD_eq_getElem?_getD]
        rw [List.getElem?_append_left (by omega)]
      have e3 : ctxOf F v < F.length := by
        have : ctxOf F v < v.toNat := o3
        omega
      rw [e, dch_pre ho m _ e3]
    · rfl
end
theorem res_two {r : En × RS} (h : r.1.ed = 2) : resOf r = ⟨r.2.log, 2, (isoR r.2.fs r.1.val).1, (isoR r.2.fs r.1.val).2⟩ := by unfold resOf isoR; rw [if_pos h]
theorem res_ed (r : En × RS) : (resOf r).ed = r.1.ed := by
  unfold resOf
  split
  · rename_i h; rw [h]
  · rfl
end
section
open Go Go.Sim
set_option maxRecDepth 100000

/-- The first line that is run and jumps, if there is one; 'm': the lines may go on with a try. -/
def firstF : Fo → Nat → Bool → Option Nat
  | .nil, _, _ => none
  | .node k a _ kids rest, i, m =>
    if m = true ∧ k = 8 then firstF rest (i + 1 + kids.size) true
    else if jumpsK k = true then some i
    else match (if k = 12 ∧ a = 0 then none else firstF kids (i + 1) false) with
      | some j => some j
      | none => firstF rest (i + 1 + kids.size) (decide (k = 7) || (m && followsK k))
theorem kids_nil {t : List Class} {k a b d : Int} {kids rest : Fo} (hn : numsF t (.node k a b kids rest) d = true) (hf : followsK k = false) (h7 : k ≠ 7) (h11 : k ≠ 11) (h12 : k ≠ 12) : kids = .nil := by
  obtain ⟨n1, n2, n3, n4, n5⟩ := numsF_node hn
  have : opensK k = false := by
    cases q : opensK k
    · rfl
    · simp only [opensK, inR, Bool.and_eq_true, decide_eq_true_eq] at q
      have : ¬ (8 ≤ k ∧ k ≤ 10) := fun w => by rw [← followsK_iff, hf] at w; cases w
      omega
  rw [this] at n3
  cases kids with
  | nil => rfl
  | node _ _ _ _ _ => cases n3
theorem keep_jump {s : RS} (hs : 0 ≤ s.first) (k : Int) (i : Nat) : (s.jump k i).first = s.first := by
  unfold RS.jump
  rw [if_neg (by omega)]
theorem first_lineS (k a b h : Int) (s : RS) : (lineS k a b h s).2.first = s.first := by
  unfold lineS
  split
  · rfl
  · split
    · rfl
    · split
      · split <;> rfl
      · split
        · rfl
        · split
          · rfl
          · split <;> rfl
theorem keep_loop {b : RS → En × RS} (hb : ∀ s, 0 ≤ s.first → (b s).2.first = s.first) : ∀ (n : Nat) (s : RS), 0 ≤ s.first → (loopS b n s).2.first = s.first
  | 0, s, _ => rfl
  | n + 1, s, hs => by
    have h := hb s hs
    simp only [loopS]
    split
    · exact h
    · split
      · exact h
      · rw [keep_loop hb n _ (by omega), h]
theorem keep_lineR {k a b h : Int} {i : Nat} {body : RS → En × RS} (hb : ∀ s, 0 ≤ s.first → (body s).2.first = s.first) {s : RS} (hs : 0 ≤ s.first) : (lineR k a b i h body s).2.first = s.first := by
  unfold lineR
  split
  · exact hb (s.tell (100 + a)) hs
  · split
    · exact keep_loop hb _ _ hs
    · rw [first_lineS, keep_jump hs]
/-- The first jump stays. -/
theorem keep_run (t : List Class) : ∀ (f : Fo) (i : Nat) (pd : Option (En × En)) (h : Int) (s : RS), 0 ≤ s.first → (runF t f i pd h s).2.first = s.first := by
  intro f
  induction f with
  | nil =>
    intro i pd h s hs
    cases pd with
    | none => rfl
    | some q => simp only [runF]; split <;> rfl
  | node k a b kids rest ihk ihr =>
    intro i pd h s hs
    have go : ∀ (g : Int) (pd' : En → Option (En × En)) (s : RS), 0 ≤ s.first → ((fun r : En × RS => runF t rest (i + 1 + kids.size) (pd' r.1) h r.2) (runF t kids (i + 1) none g s)).2.first = s.first := by
      intro g pd' s hs
      have h1 := ihk (i + 1) none g s hs
      show (runF t rest _ _ h (runF t kids (i + 1) none g s).2).2.first = _
      rw [ihr _ _ _ _ (by omega), h1]
    have hline : ((fun r : En × RS => if r.1.ed = 0 then runF t rest (i + 1 + kids.size) none h r.2 else r) (lineR k a b i h (fun s => runF t kids (i + 1) none h s) s)).2.first = s.first := by
      have h1 := keep_lineR (k := k) (a := a) (b := b) (h := h) (i := i) (fun s hs => ihk (i + 1) none h s hs) hs
      generalize lineR k a b i h (fun s => runF t kids (i + 1) none h s) s = r at h1 ⊢
      show (if r.1.ed = 0 then _ else r).2.first = _
      split
      · rw [ihr _ _ _ _ (by omega), h1]
      · exact h1
    cases pd with
    | none =>
      simp only [runF]
      split
      · exact go h (fun e => some (e, e)) s hs
      · exact hline
    | some q =>
      simp only [runF]
      split
      · split
        · split
          · exact go q.1.val (fun e => some (⟨-1, 0⟩, e)) s hs
          · exact ihr _ _ _ _ hs
        · split
          · split
            · exact go h (fun e => some (q.1, e)) s hs
            · exact ihr _ _ _ _ hs
          · exact go _ (fun e => some (q.1, if e.ed = 0 then q.2 else e)) s hs
      · split
        · split
          · exact go h (fun e => some (e, e)) s hs
          · exact hline
        · rfl
/-- What a piece of a program does as to jumps. -/
def FirstIs (o : Option Nat) (r : En × RS) : Prop :=
  match o with
  | none => r.1 = .next ∧ r.2.first = -1
  | some j => r.2.first = j
theorem first_loop {b : RS → En × RS} {o : Option Nat} (hb : ∀ s : RS, s.first = -1 → FirstIs o (b s)) (hk : ∀ s : RS, 0 ≤ s.first → (b s).2.first = s.first) : ∀ (n : Nat) (s : RS), s.first = -1 → FirstIs (if n = 0 then none else o) (loopS b n s)
  | 0, s, hs => ⟨rfl, hs⟩
  | n + 1, s, hs => by
    have h := hb s hs
    rw [if_neg (by omega)]
    simp only [loopS]
    cases o with
    | none =>
      rw [if_neg (by rw [h.1]; decide), if_neg (by rw [h.1]; decide)]
      have := first_loop hb hk n _ h.2
      rwa [ite_self] at this
    | some j =>
      have h' : (b s).2.first = j := h
      split
      · exact h'
      · split
        · exact h'
        · show (loopS b n (b s).2).2.first = j
          rw [keep_loop hk n _ (by omega), h']
theorem first_run {t : List Class} : ∀ (f : Fo) (lp : Bool) (d : Int) (i : Nat) (pd : Option (En × En)) (h : Int) (s : RS), okF f lp pd.isSome = true → numsF t f d = true → s.first = -1 → (∀ q, pd = some q → q.1.ed = 0 ∧ q.2 = .next) →
    FirstIs (firstF f i pd.isSome) (runF t f i pd h s) := by
  intro f
  induction f with
  | nil =>
    intro lp d i pd h s _ _ hs hq
    cases pd with
    | none => exact ⟨rfl, hs⟩
    | some q =>
      obtain ⟨q1, q2⟩ := hq q rfl
      simp only [runF, q2]
      exact ⟨rfl, hs⟩
  | node k a b kids rest ihk ihr =>
    intro lp d i pd h s hok hn hs hq
    obtain ⟨n1, n2, n3, n4, n5⟩ := numsF_node hn
    -- the block, then what comes behind it as a try
    have go : ∀ (g : Int) (pd' : En → Option (En × En)), okF kids lp false = true → okF rest lp true = true → (∀ q, pd' .next = some q → q.1.ed = 0 ∧ q.2 = .next) → (pd' .next).isSome = true →
        FirstIs (match firstF kids (i + 1) false with
          | some j => some j
          | none => firstF rest (i + 1 + kids.size) true) ((fun r : En × RS => runF t rest (i + 1 + kids.size) (pd' r.1) h r.2) (runF t kids (i + 1) none g s)) := by
      intro g pd' o1 o2 h1 h2
      have hk := ihk lp (d + 1) (i + 1) none g s o1 n4 hs (fun q hq => by cases hq)
      show FirstIs _ (runF t rest _ (pd' (runF t kids (i + 1) none g s).1) h (runF t kids (i + 1) none g s).2)
      cases e : firstF kids (i + 1) false with
      | some j =>
        have hk' : (runF t kids (i + 1) none g s).2.first = j := by
          have : firstF kids (i + 1) (none : Option (En × En)).isSome = some j := e
          rw [this] at hk; exact hk
        show (runF t rest _ _ h _).2.first = j
        rw [keep_run t _ _ _ _ _ (by omega), hk']
      | none =>
        have hk' : (runF t kids (i + 1) none g s).1 = .next ∧ (runF t kids (i + 1) none g s).2.first = -1 := by
          have : firstF kids (i + 1) (none : Option (En × En)).isSome = none := e
          rw [this] at hk; exact hk
        rw [hk'.1]
        have := ihr lp d (i + 1 + kids.size) (pd' .next) h _ (by rw [h2]; exact o2) n5 hk'.2 h1
        rwa [h2] at this
    have plain : followsK k = false → ∀ m : Bool, FirstIs (firstF (.node k a b kids rest) i m) (runF t (.node k a b kids rest) i none h s) := by
      intro hf m
      have n8 : ¬ (m = true ∧ k = 8) := fun q => by rw [q.2] at hf; cases hf
      simp only [firstF]
      rw [if_neg n8]
      rcases okF_node hok with ⟨q, _⟩ | ⟨_, ⟨h7, ot, o1, o2⟩ | ⟨h7, o1, o2, o3, o4⟩⟩
      · rw [hf] at q; cases q
      · subst h7
        rw [if_neg (by decide), if_neg (by omega), runF_try]
        exact go h (fun e => some (e, e)) o1 o2 (fun q hq => by cases hq; exact ⟨rfl, rfl⟩) rfl
      · rw [runF_line h7, hf, Bool.and_false, Bool.or_false, decide_eq_false h7]
        by_cases hj : jumpsK k = true
        · rw [if_pos hj]
          have hj' := hj
          rw [jumpsK_iff] at hj'
          have e : lineR k a b i h (fun s => runF t kids (i + 1) none h s) s = lineS k a b h (s.jump k i) := by
            unfold lineR; rw [if_neg (by omega), if_neg (by omega)]
          have ne := jump_ends (a := a) (b := b) (h := h) (s := s.jump k i) hj
          have ef : (lineS k a b h (s.jump k i)).2.first = (i : Int) := by
            rw [first_lineS]; unfold RS.jump; rw [if_pos ⟨hj, by omega⟩]
          rw [e]
          generalize lineS k a b h (s.jump k i) = r at ne ef ⊢
          show (if r.1.ed = 0 then _ else r).2.first = (i : Int)
          rw [if_neg ne]; exact ef
        · rw [if_neg hj]
          have key : FirstIs (if k = 12 ∧ a = 0 then none else firstF kids (i + 1) false) (lineR k a b i h (fun s => runF t kids (i + 1) none h s) s) := by
            unfold lineR
            by_cases h11 : k = 11
            · rw [if_pos h11, if_neg (by omega)]
              have hk := ihk lp (d + 1) (i + 1) none h (s.tell (100 + a)) (o2 h11) n4 hs (fun q hq => by cases hq)
              have hk' : FirstIs (firstF kids (i + 1) false) (runF t kids (i + 1) none h (s.tell (100 + a))) := hk
              unfold withS
              cases e : firstF kids (i + 1) false with
              | some j => rw [e] at hk'; exact hk'
              | none =>
                rw [e] at hk'
                refine ⟨?_, hk'.2⟩
                show (if _ then _ else _) = _
                rw [hk'.1, ite_self]
            · rw [if_neg h11]
              by_cases h12 : k = 12
              · rw [if_pos h12]
                have hk := first_loop (b := fun s => runF t kids (i + 1) none h s) (o := firstF kids (i + 1) false) (fun s hs => ihk true (d + 1) (i + 1) none h s (o3 h12) n4 hs (fun q hq => by cases hq)) (fun s hs => keep_run t _ _ _ _ _ hs) a.toNat s hs
                have ha : 0 ≤ a := by
                  subst h12
                  unfold numOk at n1
                  simp only [show ¬ ((12 : Int) = 1 ∨ (12 : Int) = 4) by decide, show ¬ (12 : Int) = 2 by decide, show ¬ (12 : Int) = 8 by decide, show ¬ (12 : Int) = 11 by decide, if_false, if_true, Bool.and_eq_true, inR, decide_eq_true_eq] at n1
                  omega
                by_cases a0 : a = 0
                · rw [if_pos ⟨h12, a0⟩]; rw [if_pos (by omega)] at hk; exact hk
                · rw [if_neg (fun q => a0 q.2)]; rw [if_neg (by omega)] at hk; exact hk
              · rw [if_neg h12, if_neg (fun q => h12 q.1)]
                have hkn : kids = .nil := kids_nil hn hf h7 h11 h12
                subst hkn
                refine ⟨?_, ?_⟩
                · rw [jumpsK_iff] at hj
                  unfold lineS
                  split
                  · rfl
                  · rw [if_neg (by omega), if_neg (by omega), if_neg (by omega), if_neg (by omega), if_neg (by omega)]
                · rw [first_lineS]; unfold RS.jump; rw [if_neg (fun q => hj q.1)]; exact hs
          generalize lineR k a b i h (fun s => runF t kids (i + 1) none h s) s = r at key ⊢
          generalize (if k = 12 ∧ a = 0 then none else firstF kids (i + 1) false) = o at key ⊢
          show FirstIs _ (if r.1.ed = 0 then _ else r)
          cases o with
          | some j =>
            have key' : r.2.first = j := key
            show (if r.1.ed = 0 then _ else r).2.first = (j : Int)
            split
            · rw [keep_run t _ _ _ _ _ (by omega), key']
            · exact key'
          | none =>
            rw [if_pos (by rw [key.1]; rfl)]
            exact ihr lp d _ none h _ o1 n5 key.2 (fun q hq => by cases hq)
    cases pd with
    | none =>
      refine plain ?_ false
      rcases okF_node hok with ⟨_, q, _⟩ | ⟨hf, _⟩
      · cases q
      · exact hf
    | some q =>
      obtain ⟨q1, q2⟩ := hq q rfl
      by_cases hf : followsK k = true
      · rcases okF_node hok with ⟨_, _, o1, o2⟩ | ⟨w, _⟩
        rotate_left
        · rw [hf] at w; cases w
        have hj : ¬ jumpsK k = true := by rw [followsK_iff] at hf; rw [jumpsK_iff]; omega
        have hf' := hf
        rw [followsK_iff] at hf'
        have n12 : ¬ (k = 12 ∧ a = 0) := by omega
        have ht : (decide (k = 7) || ((some q).isSome && followsK k)) = true := by rw [hf]; simp
        simp only [runF, hf, if_true]
        by_cases k8 : k = 8
        · rw [if_pos k8, if_neg (by omega)]
          simp only [firstF]
          rw [if_pos ⟨rfl, k8⟩]
          exact ihr lp d _ (some q) h s o2 n5 hs (fun q' hq' => by cases hq'; exact ⟨q1, q2⟩)
        · have e0 : firstF (.node k a b kids rest) i (some q).isSome = match firstF kids (i + 1) false with
              | some j => some j
              | none => firstF rest (i + 1 + kids.size) true := by
            simp only [firstF]
            rw [if_neg (fun w => k8 w.2), if_neg hj, if_neg n12, ht]
          rw [e0, if_neg k8]
          by_cases k9 : k = 9
          · rw [if_pos k9, if_pos q1]
            exact go h (fun e => some (q.1, e)) o1 o2 (fun q' hq' => by cases hq'; exact ⟨q1, rfl⟩) rfl
          · rw [if_neg k9]
            refine go _ (fun e => some (q.1, if e.ed = 0 then q.2 else e)) o1 o2 (fun q' hq' => ?_) rfl
            cases hq'
            exact ⟨q1, by show (if (0 : Int) = 0 then q.2 else En.next) = En.next; rw [if_pos rfl, q2]⟩
      · have e1 : runF t (.node k a b kids rest) i (some q) h s = if q.2.ed = 0 then runF t (.node k a b kids rest) i none h s else (q.2, s) := by
          simp only [runF]
          rw [if_neg hf]
        rw [e1, if_pos (by rw [q2]; rfl)]
        exact plain (by simpa using hf) _
/-- The first jump of a program. -/
noncomputable def jumpP (p : List Line) : Int :=
  match firstF (forestP p) 0 false with
  | none => -1
  | some j => j
theorem first_law {t : List Class} {p : List Line} (h : ValidP t p) : (runP t p).2.first = jumpP p ∧ (jumpP p < 0 → (resOf (runP t p)).ed = 0) := by
  obtain ⟨h1, h2, h3, h4, h5, h6⟩ := validP_forest h
  have := first_run (t := t) (forestP p) false 0 0 none (-1) rs0 h4 h3 rfl (fun q hq => by cases hq)
  have e : runF t (forestP p) 0 none (-1) rs0 = runP t p := rfl
  rw [e] at this
  unfold jumpP
  rw [res_ed]
  cases q : firstF (forestP p) 0 false with
  | none =>
    have q' : firstF (forestP p) 0 (none : Option (En × En)).isSome = none := q
    rw [q'] at this
    exact ⟨this.2, fun _ => by rw [this.1]; rfl⟩
  | some j =>
    have q' : firstF (forestP p) 0 (none : Option (En × En)).isSome = some j := q
    rw [q'] at this
    exact ⟨this, fun w => by simp only at w; omega⟩
/-- The first jump jumps, and can be run. -/
theorem first_at {t : List Class} : ∀ (f : Fo) (lp m : Bool) (d : Int) (i j : Nat) (cs : List Int), okF f lp m = true → numsF t f d = true → firstF f i m = some j →
    ∃ n : Nat, j = i + n ∧ n < f.size ∧ jumpsK ((f.flat d).getD n default).kind = true ∧ (dlF t f false false cs).getD n false = false := by
  intro f
  induction f with
  | nil => intro lp m d i j cs _ _ h; cases h
  | node k a b kids rest ihk ihr =>
    intro lp m d i j cs hok hn h
    obtain ⟨n1, n2, n3, n4, n5⟩ := numsF_node hn
    have el := flat_len kids (d + 1)
    have ed := fun sh => dl_len t kids sh false []
    have inr : ∀ (m : Bool) (sh : Bool), okF rest lp m = true → jumpsK k = false → firstF rest (i + 1 + kids.size) m = some j →
        ∃ n : Nat, j = i + n ∧ n < (Fo.node k a b kids rest).size ∧ jumpsK (((Fo.node k a b kids rest).flat d).getD n default).kind = true ∧ (dlF t (Fo.node k a b kids rest) false false cs).getD n false = false := by
      intro m sh o hj hfi
      obtain ⟨n, e1, e2, e3, e4⟩ := ihr lp m d _ j (csN k a cs) o n5 hfi
      refine ⟨1 + kids.size + n, by omega, by simp only [Fo.size]; omega, ?_, ?_⟩
      · simp only [Fo.flat]
        rw [show 1 + kids.size + n = (kids.size + n) + 1 by omega, List.getD_cons_succ, List.getD_eq_getElem?_getD, List.getElem?_append_right (by omega), el, Nat.add_sub_cancel_left, ← List.getD_eq_getElem?_getD]
        exact e3
      · simp only [dlF, hj, Bool.or_self]
        rw [show 1 + kids.size + n = (kids.size + n) + 1 by omega, List.getD_cons_succ, List.getD_eq_getElem?_getD, List.getElem?_append_right (by rw [ed]; omega), ed, Nat.add_sub_cancel_left, ← List.getD_eq_getElem?_getD]
        exact e4
    have ink : ∀ lp' : Bool, okF kids lp' false = true → deadK t k a cs = false → ¬ (k = 12 ∧ a = 0) → firstF kids (i + 1) false = some j →
        ∃ n : Nat, j = i + n ∧ n < (Fo.node k a b kids rest).size ∧ jumpsK (((Fo.node k a b kids rest).flat d).getD n default).kind = true ∧ (dlF t (Fo.node k a b kids rest) false false cs).getD n false = false := by
      intro lp' o hd h12 hfi
      obtain ⟨n, e1, e2, e3, e4⟩ := ihk lp' false (d + 1) _ j [] o n4 hfi
      have hz : (decide (k = 12) && decide (a = 0)) = false := by
        simp only [Bool.and_eq_false_iff, decide_eq_false_iff_not]; omega
      refine ⟨1 + n, by omega, by simp only [Fo.size]; omega, ?_, ?_⟩
      · simp only [Fo.flat]
        rw [show 1 + n = n + 1 by omega, List.getD_cons_succ, List.getD_eq_getElem?_getD, List.getElem?_append_left (by omega), ← List.getD_eq_getElem?_getD]
        exact e3
      · simp only [dlF, hd, hz, Bool.or_self]
        rw [show 1 + n = n + 1 by omega, List.getD_cons_succ, List.getD_eq_getElem?_getD, List.getElem?_append_left (by rw [ed]; omega), ← List.getD_eq_getElem?_getD]
        exact e4
    simp only [firstF] at h
    by_cases h8 : m = true ∧ k = 8
    · rw [if_pos h8] at h
      rcases okF_node hok with ⟨_, _, o1, o2⟩ | ⟨w, _⟩
      · exact inr true false o2 (by rw [h8.2]; rfl) h
      · rw [h8.2] at w; cases w
    · rw [if_neg h8] at h
      have hd : deadK t k a cs = false := by
        by_cases k8 : k = 8
        · exfalso
          rcases okF_node hok with ⟨_, hm, _⟩ | ⟨w, _⟩
          · exact h8 ⟨hm, k8⟩
          · rw [k8] at w; cases w
        · simp [deadK, k8]
      by_cases hj : jumpsK k = true
      · rw [if_pos hj] at h
        cases h
        refine ⟨0, rfl, by simp only [Fo.size]; omega, by simp only [Fo.flat, List.getD_cons_zero]; exact hj, ?_⟩
        simp only [dlF, hd, List.getD_cons_zero, Bool.or_self]
      · rw [if_neg hj] at h
        have hj' : jumpsK k = false := by simpa using hj
        by_cases hz : k = 12 ∧ a = 0
        · rw [if_pos hz] at h
          rcases okF_node hok with ⟨w, _⟩ | ⟨_, ⟨h7, _⟩ | ⟨h7, o1, _⟩⟩
          · rw [hz.1] at w; cases w
          · omega
          · have hm : (decide (k = 7) || (m && followsK k)) = false := by rw [hz.1]; simp [followsK, inR]
            rw [hm] at h
            exact inr false false o1 hj' h
        · rw [if_neg hz] at h
          cases e : firstF kids (i + 1) false with
          | some j' =>
            rw [e] at h
            cases h
            rcases okF_node hok with ⟨_, _, o1, _⟩ | ⟨hf, ⟨h7, _, o1, _⟩ | ⟨h7, o1, o2, o3, o4⟩⟩
            · exact ink lp o1 hd hz e
            · exact ink lp o1 hd hz e
            · by_cases h11 : k = 11
              · exact ink lp (o2 h11) hd hz e
              · by_cases h12 : k = 12
                · exact ink true (o3 h12) hd hz e
                · rw [kids_nil hn hf h7 h11 h12] at e; cases e
          | none =>
            rw [e] at h
            rcases okF_node hok with ⟨hf, hm, o1, o2⟩ | ⟨hf, ⟨h7, _, o1, o2⟩ | ⟨h7, o1, o2, o3, o4⟩⟩
            · rw [hf, hm] at h
              simp only [Bool.and_self, Bool.or_true] at h
              exact inr true false o2 hj' h
            · rw [decide_eq_true h7, Bool.true_or] at h
              exact inr true false o2 hj' h
            · rw [decide_eq_false h7, hf, Bool.and_false, Bool.or_false] at h
              exact inr false false o1 hj' h
end
section
open Go Go.Sim
set_option maxRecDepth 100000
/-- The first jump of a program jumps, and can be run. -/
theorem first_place {t : List Class} {p : List Line} (h : ValidP t p) (hj : 0 ≤ jumpP p) : (jumpP p).toNat < p.length ∧ jumpsK (p.getD (jumpP p).toNat default).kind = true ∧ (deadsP t p).getD (jumpP p).toNat false = false := by
  obtain ⟨h1, h2, h3, h4, h5, h6⟩ := validP_forest h
  unfold jumpP at hj ⊢
  cases q : firstF (forestP p) 0 false with
  | none => rw [q] at hj; simp only at hj; omega
  | some j =>
    obtain ⟨n, e1, e2, e3, e4⟩ := first_at (t := t) (forestP p) false false 0 0 j [] h4 h3 q
    have : j = n := by omega
    subst this
    refine ⟨by show (j : Int).toNat < _; omega, ?_, e4⟩
    rw [← h2] at e3
    exact e3
end
section
open Go Go.Sim
set_option maxRecDepth 100000

def dp (p : List Line) (m : Nat) : Int := (p.getD m default).depth
def kd (p : List Line) (m : Nat) : Int := (p.getD m default).kind
theorem tw_lt {α : Type} {P : α → Bool} {d : α} : ∀ (l : List α) (n : Nat), n < (l.takeWhile P).length ↔ n < l.length ∧ ∀ m, m ≤ n → P (l.getD m d) = true
  | [], n => by simp
  | x :: l, n => by
    by_cases h : P x = true
    · rw [List.takeWhile_cons_of_pos h]
      cases n with
      | zero =>
        constructor
        · intro _
          refine ⟨by simp, fun m hm => ?_⟩
          have : m = 0 := by omega
          subst this
          simpa using h
        · intro _; simp
      | succ n =>
        rw [List.length_cons, Nat.succ_lt_succ_iff, tw_lt (d := d) l n, List.length_cons]
        constructor
        · rintro ⟨h1, h2⟩
          refine ⟨by omega, fun m hm => ?_⟩
          cases m with
          | zero => simpa using h
          | succ m => simpa using h2 m (by omega)
        · rintro ⟨h1, h2⟩
          exact ⟨by omega, fun m hm => by simpa using h2 (m + 1) (by omega)⟩
    · rw [List.takeWhile_cons_of_neg h]
      constructor
      · intro q; simp at q
      · rintro ⟨_, h2⟩; exact absurd (by simpa using h2 0 (by omega)) h
/-- A line is in the block of another one. -/
theorem endP_in {p : List Line} {i j : Nat} (hj : j < p.length) (hij : i < j) : j < endP p i ↔ ∀ m, i < m → m ≤ j → dp p i < dp p m := by
  unfold endP
  have e : ∀ m, (p.drop (i + 1)).getD m default = p.getD (i + 1 + m) default := fun m => by simp [List.getD_eq_getElem?_getD, List.getElem?_drop]
  have h := tw_lt (P := fun x : Line => decide ((p.getD i default).depth < x.depth)) (d := default) (p.drop (i + 1)) (j - (i + 1))
  have h1 : (j < i + 1 + ((p.drop (i + 1)).takeWhile fun x => decide ((p.getD i default).depth < x.depth)).length) ↔ j - (i + 1) < ((p.drop (i + 1)).takeWhile fun x => decide ((p.getD i default).depth < x.depth)).length := by omega
  rw [h1, h]
  constructor
  · rintro ⟨_, h2⟩ m m1 m2
    have := h2 (m - (i + 1)) (by omega)
    rw [e, show i + 1 + (m - (i + 1)) = m by omega] at this
    simpa [dp] using this
  · intro h2
    refine ⟨by rw [List.length_drop]; omega, fun m hm => ?_⟩
    rw [e]
    have := h2 (i + 1 + m) (by omega) (by omega)
    simpa [dp] using this
/-- All lines of a program, with their blocks. -/
theorem at_all {p : List Line} {Q : Nat → Int → Fo → Prop}
    (hk : ∀ i d k a b kids rest, At p i d (.node k a b kids rest) → Q i d (.node k a b kids rest) → kids ≠ .nil → Q (i + 1) (d + 1) kids)
    (hr : ∀ i d k a b kids rest, At p i d (.node k a b kids rest) → Q i d (.node k a b kids rest) → rest ≠ .nil → Q (i + 1 + kids.size) d rest) :
    ∀ (f : Fo) (i : Nat) (d : Int), At p i d f → Q i d f → ∀ j, i ≤ j → j < i + f.size → ∃ d' k a b kids rest, At p j d' (.node k a b kids rest) ∧ Q j d' (.node k a b kids rest)
  | .nil, i, d, _, _, j, h1, h2 => by simp only [Fo.size] at h2; omega
  | .node k a b kids rest, i, d, ha, hq, j, h1, h2 => by
    simp only [Fo.size] at h2
    by_cases e : j = i
    · subst e; exact ⟨d, k, a, b, kids, rest, ha, hq⟩
    · by_cases e2 : j < i + 1 + kids.size
      · exact at_all hk hr kids (i + 1) (d + 1) ha.kids (hk _ _ _ _ _ _ _ ha hq (by rintro rfl; simp only [Fo.size] at e2; omega)) j (by omega) (by omega)
      · exact at_all hk hr rest _ d ha.rest (hr _ _ _ _ _ _ _ ha hq (by rintro rfl; simp only [Fo.size] at h2; omega)) j (by omega) (by omega)
theorem dp_head {p : List Line} {i : Nat} {d k a b : Int} {kids rest : Fo} (h : At p i d (.node k a b kids rest)) : dp p i = d ∧ kd p i = k ∧ (p.getD i default).a = a ∧ (p.getD i default).b = b ∧ i < p.length := by
  obtain ⟨h1, h2⟩ := h.head
  unfold dp kd
  rw [h2]
  exact ⟨rfl, rfl, rfl, rfl, h1⟩
theorem dp_kids {p : List Line} {i : Nat} {d k a b : Int} {kids rest : Fo} (h : At p i d (.node k a b kids rest)) : ∀ m, i < m → m < i + 1 + kids.size → d < dp p m := fun m h1 h2 => by
  have := h.kids.deep (j := m) (by omega) (by omega)
  show d < (p.getD m default).depth
  omega

/-! ### What encloses a line -/
/-- The lines in whose blocks a line of a depth is, the innermost one first. -/
def enD (p : List Line) : Int → Nat → List Nat
  | _, 0 => []
  | d, k + 1 => if dp p k < d then k :: enD p (dp p k) k else enD p d k
theorem enD_skip {p : List Line} {d : Int} {i : Nat} : ∀ n, (∀ m, i ≤ m → m < i + n → d ≤ dp p m) → enD p d (i + n) = enD p d i
  | 0, _ => rfl
  | n + 1, h => by
    have := h (i + n) (by omega) (by omega)
    show enD p d (i + n + 1) = _
    simp only [enD]
    rw [if_neg (by omega)]
    exact enD_skip n fun m h1 h2 => h m h1 (by omega)
theorem en_kids {p : List Line} {i : Nat} {d k a b : Int} {kids rest : Fo} (h : At p i d (.node k a b kids rest)) : enD p (d + 1) (i + 1) = i :: enD p d i := by
  simp only [enD]
  rw [(dp_head h).1, if_pos (by omega)]
theorem en_rest {p : List Line} {i : Nat} {d k a b : Int} {kids rest : Fo} (h : At p i d (.node k a b kids rest)) : enD p d (i + 1 + kids.size) = enD p d i := by
  rw [show i + 1 + kids.size = i + (1 + kids.size) by omega]
  refine enD_skip _ fun m h1 h2 => ?_
  by_cases e : m = i
  · subst e; rw [(dp_head h).1]; exact Int.le_refl _
  · have := dp_kids h m (by omega) (by omega); omega
/-- A line of a depth is in the block of a line. -/
def InB (p : List Line) (k : Nat) (d : Int) (i : Nat) : Prop := dp p k < d ∧ ∀ m, k < m → m < i → dp p k < dp p m
theorem en_filter {p : List Line} (g : Nat → Bool) : ∀ (i : Nat) (d : Int), (∀ k, k < i → (g k = true ↔ InB p k d i)) → enD p d i = ((List.range i).reverse).filter g
  | 0, d, _ => rfl
  | i + 1, d, h => by
    rw [List.range_succ, List.reverse_append, List.reverse_singleton, List.singleton_append, List.filter_cons]
    simp only [enD]
    have hi := h i (by omega)
    by_cases c : dp p i < d
    · have hg : g i = true := hi.2 ⟨c, fun m h1 h2 => by omega⟩
      rw [if_pos c, hg, if_pos rfl]
      congr 1
      refine en_filter g i _ fun k hk => ?_
      rw [h k (by omega)]
      constructor
      · rintro ⟨h1, h2⟩
        exact ⟨h2 i hk (by omega), fun m a1 a2 => h2 m a1 (by omega)⟩
      · rintro ⟨h1, h2⟩
        refine ⟨by omega, fun m a1 a2 => ?_⟩
        by_cases e : m = i
        · subst e; exact h1
        · exact h2 m a1 (by omega)
    · have hg : ¬ g i = true := fun q => c (hi.1 q).1
      rw [if_neg c, if_neg hg]
      refine en_filter g i _ fun k hk => ?_
      rw [h k (by omega)]
      constructor
      · rintro ⟨h1, h2⟩
        exact ⟨h1, fun m a1 a2 => h2 m a1 (by omega)⟩
      · rintro ⟨h1, h2⟩
        refine ⟨h1, fun m a1 a2 => ?_⟩
        by_cases e : m = i
        · subst e; omega
        · exact h2 m a1 (by omega)
theorem enD_mem {p : List Line} : ∀ (i : Nat) (d : Int), ∀ k ∈ enD p d i, k < i
  | 0, _, k, h => by cases h
  | i + 1, d, k, h => by
    simp only [enD] at h
    split at h
    · rw [List.mem_cons] at h
      rcases h with rfl | h
      · omega
      · have := enD_mem i _ k h; omega
    · have := enD_mem i _ k h; omega

/-! ### What is behind jumps -/
/-- A line of a depth is behind a jump of its block. -/
def bjD (p : List Line) (d : Int) : Nat → Bool
  | 0 => false
  | k + 1 => if dp p k < d then false else if dp p k = d ∧ jumpsK (kd p k) = true then true else bjD p d k
theorem bj_skip {p : List Line} {d : Int} {i : Nat} : ∀ n, (∀ m, i ≤ m → m < i + n → d < dp p m) → bjD p d (i + n) = bjD p d i
  | 0, _ => rfl
  | n + 1, h => by
    have := h (i + n) (by omega) (by omega)
    show bjD p d (i + n + 1) = _
    simp only [bjD]
    rw [if_neg (by omega), if_neg (fun q => by omega)]
    exact bj_skip n fun m h1 h2 => h m h1 (by omega)
theorem bj_kids {p : List Line} {i : Nat} {d k a b : Int} {kids rest : Fo} (h : At p i d (.node k a b kids rest)) : bjD p (d + 1) (i + 1) = false := by
  simp only [bjD]
  rw [(dp_head h).1, if_pos (by omega)]
theorem bj_rest {p : List Line} {i : Nat} {d k a b : Int} {kids rest : Fo} (h : At p i d (.node k a b kids rest)) : bjD p d (i + 1 + kids.size) = (bjD p d i || jumpsK k) := by
  rw [bj_skip kids.size fun m h1 h2 => dp_kids h m (by omega) h2]
  simp only [bjD]
  rw [(dp_head h).1, (dp_head h).2.1, if_neg (by omega)]
  cases jumpsK k
  · rw [if_neg (fun q => by cases q.2), Bool.or_false]
  · rw [if_pos ⟨rfl, rfl⟩, Bool.or_true]
/-- A line of a depth is behind a jump, in its block or in a block around it. -/
def BH (p : List Line) (d : Int) (i : Nat) : Prop := ∃ j, j < i ∧ jumpsK (kd p j) = true ∧ dp p j ≤ d ∧ ∀ m, j < m → m < i → dp p j ≤ dp p m
theorem bh_kids {p : List Line} {i : Nat} {d k a b : Int} {kids rest : Fo} (h : At p i d (.node k a b kids rest)) (hj : jumpsK k = false) : BH p (d + 1) (i + 1) ↔ BH p d i := by
  obtain ⟨h1, h2, _⟩ := dp_head h
  constructor
  · rintro ⟨j, j1, j2, j3, j4⟩
    have ne : j ≠ i := fun e => by rw [e, h2, hj] at j2; cases j2
    refine ⟨j, by omega, j2, ?_, fun m a1 a2 => j4 m a1 (by omega)⟩
    have := j4 i (by omega) (by omega)
    omega
  · rintro ⟨j, j1, j2, j3, j4⟩
    refine ⟨j, by omega, j2, by omega, fun m a1 a2 => ?_⟩
    by_cases e : m = i
    · subst e; omega
    · exact j4 m a1 (by omega)
theorem bh_rest {p : List Line} {i : Nat} {d k a b : Int} {kids rest : Fo} (h : At p i d (.node k a b kids rest)) : BH p d (i + 1 + kids.size) ↔ (BH p d i ∨ jumpsK k = true) := by
  obtain ⟨h1, h2, _⟩ := dp_head h
  have hk := dp_kids h
  constructor
  · rintro ⟨j, j1, j2, j3, j4⟩
    by_cases e : j = i
    · subst e; rw [h2] at j2; exact .inr j2
    · by_cases c : i < j
      · have := hk j c (by omega); omega
      · exact .inl ⟨j, by omega, j2, j3, fun m a1 a2 => j4 m a1 (by omega)⟩
  · rintro (⟨j, j1, j2, j3, j4⟩ | hj)
    · refine ⟨j, by omega, j2, j3, fun m a1 a2 => ?_⟩
      by_cases e : m = i
      · subst e; omega
      · by_cases c : i < m
        · have := hk m c (by omega); omega
        · exact j4 m a1 (by omega)
    · exact ⟨i, by omega, by rw [h2]; exact hj, by omega, fun m a1 a2 => by have := hk m (by omega) (by omega); omega⟩

/-! ### The line that a line goes on with -/
def hdD (p : List Line) (d : Int) : Nat → Option Nat
  | 0 => none
  | k + 1 => if dp p k < d then none else if dp p k = d then some k else hdD p d k
theorem hd_skip {p : List Line} {d : Int} {i : Nat} : ∀ n, (∀ m, i ≤ m → m < i + n → d < dp p m) → hdD p d (i + n) = hdD p d i
  | 0, _ => rfl
  | n + 1, h => by
    have := h (i + n) (by omega) (by omega)
    show hdD p d (i + n + 1) = _
    simp only [hdD]
    rw [if_neg (by omega), if_neg (by omega)]
    exact hd_skip n fun m h1 h2 => h m h1 (by omega)
theorem hd_rest {p : List Line} {i : Nat} {d k a b : Int} {kids rest : Fo} (h : At p i d (.node k a b kids rest)) : hdD p d (i + 1 + kids.size) = some i := by
  rw [hd_skip kids.size fun m h1 h2 => dp_kids h m (by omega) h2]
  simp only [hdD]
  rw [(dp_head h).1, if_neg (by omega), if_pos rfl]
/-- The first line of a line's try; 'n': enough. -/
def tryP (p : List Line) : Nat → Nat → Nat
  | 0, i => i
  | n + 1, i => if kd p i = 7 then i else match hdD p (dp p i) i with
    | some k => tryP p n k
    | none => i
theorem hdD_lt {p : List Line} {d : Int} : ∀ (i k : Nat), hdD p d i = some k → k < i
  | 0, k, h => by cases h
  | i + 1, k, h => by
    simp only [hdD] at h
    split at h
    · cases h
    · split at h
      · cases h; omega
      · have := hdD_lt i k h; omega
/-! ### Flags, line by line -/
def AlignB (D : List Bool) (i : Nat) (l : List Bool) : Prop := ∀ j, j < l.length → D.getD (i + j) false = l.getD j false
theorem align_cons {D : List Bool} {i : Nat} {x : Bool} {l1 l2 : List Bool} (h : AlignB D i (x :: (l1 ++ l2))) : D.getD i false = x ∧ AlignB D (i + 1) l1 ∧ AlignB D (i + 1 + l1.length) l2 := by
  refine ⟨by simpa using h 0 (by simp), fun j hj => ?_, fun j hj => ?_⟩
  · have := h (j + 1) (by simp; omega)
    rw [List.getD_cons_succ, List.getD_eq_getElem?_getD (l := l1 ++ l2), List.getElem?_append_left hj, ← List.getD_eq_getElem?_getD] at this
    rw [show i + 1 + j = i + (j + 1) by omega]; exact this
  · have := h (l1.length + j + 1) (by simp; omega)
    rw [List.getD_cons_succ, List.getD_eq_getElem?_getD (l := l1 ++ l2), List.getElem?_append_right (by omega), Nat.add_sub_cancel_left, ← List.getD_eq_getElem?_getD] at this
    rw [show i + 1 + l1.length + j = i + (l1.length + j + 1) by omega]; exact this
/-- Of each line whether it never catches. -/
def deF (t : List Class) : Fo → List Int → List Bool
  | .nil, _ => []
  | .node k a _ kids rest, cs => deadK t k a cs :: (deF t kids [] ++ deF t rest (csN k a cs))
theorem de_len (t : List Class) : ∀ (f : Fo) (cs : List Int), (deF t f cs).length = f.size
  | .nil, _ => rfl
  | .node k a b kids rest, cs => by simp only [deF, List.length_cons, List.length_append, de_len t kids, de_len t rest, Fo.size]; omega
noncomputable def exsP (t : List Class) (p : List Line) : List Bool := deF t (forestP p) []
/-- A line whose block is never run. -/
def loop0 (p : List Line) (k : Nat) : Bool := decide (kd p k = 12) && decide ((p.getD k default).a = 0)
noncomputable def shutB (t : List Class) (p : List Line) (k : Nat) : Bool := loop0 p k || (exsP t p).getD k false
/-- Whether a block is never run, by the line around it. -/
noncomputable def upSh (t : List Class) (p : List Line) : List Nat → Bool
  | [] => false
  | up :: _ => (deadsP t p).getD up false || loop0 p up
/-- Where a line of a try stands. -/
structure InTry (p : List Line) (i : Nat) (d : Int) (f : Fo) (cs : List Int) : Prop where
  at_ : ∃ (hd : Nat) (pre : List Nat) (last : Int), chainP p hd = hd :: (pre ++ chainN f i) ∧ hd < i ∧ kd p hd = 7 ∧ dp p hd = d ∧ 7 ≤ last ∧ tryG last (headsK f) = true ∧ (last ≤ 8 → cs = pre.map fun x => (p.getD x default).a) ∧ (∀ x ∈ pre, hd < x ∧ x < i ∧ (last ≤ 8 → kd p x = 8)) ∧ (∀ x, hd < x → x < i → dp p x = d → kd p x ≠ 7) ∧
    ∃ k, hdD p d i = some k ∧ ∀ n, k < n → tryP p n k = hd
structure Cx (t : List Class) (p : List Line) (i : Nat) (d : Int) (f : Fo) : Prop where
  nums : numsF t f d = true
  flags : ∃ (lp m sh seen bh : Bool) (cs : List Int), okF f lp m = true ∧ (m = true → InTry p i d f cs) ∧ AlignB (deadsP t p) i (dlF t f sh seen cs) ∧ AlignB (exsP t p) i (deF t f cs) ∧ bjD p d i = seen ∧ (BH p d i ↔ bh = true) ∧
    (sh || seen) = (bh || (enD p d i).any (shutB t p)) ∧ sh = upSh t p (enD p d i)
theorem opens_kids {t : List Class} {k a b d : Int} {kids rest : Fo} (hn : numsF t (.node k a b kids rest) d = true) (hk : kids ≠ .nil) : opensK k = true := by
  rw [(numsF_node hn).2.2.1]
  cases kids with
  | nil => exact absurd rfl hk
  | node _ _ _ _ _ => rfl
theorem opensK_iff {k : Int} : opensK k = true ↔ 7 ≤ k ∧ k ≤ 12 := by simp only [opensK, inR, Bool.and_eq_true, decide_eq_true_eq]
theorem ok_kids {k a b : Int} {kids rest : Fo} {lp m : Bool} (h : okF (.node k a b kids rest) lp m = true) (ho : opensK k = true) : ∃ lp', okF kids lp' false = true := by
  rw [opensK_iff] at ho
  rcases okF_node h with ⟨_, _, o1, _⟩ | ⟨hf, ⟨_, _, o1, _⟩ | ⟨h7, _, o2, o3, _⟩⟩
  · exact ⟨_, o1⟩
  · exact ⟨_, o1⟩
  · have : ¬ (8 ≤ k ∧ k ≤ 10) := fun w => by rw [← followsK_iff, hf] at w; cases w
    by_cases h11 : k = 11
    · exact ⟨_, o2 h11⟩
    · exact ⟨_, o3 (by omega)⟩
theorem Cx.kids {t : List Class} {p : List Line} (i : Nat) (d k a b : Int) (ks re : Fo) (ha : At p i d (.node k a b ks re)) (h : Cx t p i d (.node k a b ks re)) (hk : ks ≠ .nil) : Cx t p (i + 1) (d + 1) ks := by
  have ho := opens_kids h.nums hk
  have ho' := opensK_iff.1 ho
  have hj : jumpsK k = false := by
    cases q : jumpsK k
    · rfl
    · rw [jumpsK_iff] at q; omega
  obtain ⟨lp, m, sh, seen, bh, cs, h1, h2, h3, h4, h5, h6, h7, h8⟩ := h.flags
  obtain ⟨lp', o⟩ := ok_kids h1 ho
  obtain ⟨_, e2, e3, _⟩ := dp_head ha
  obtain ⟨a1, a2, _⟩ := align_cons (show AlignB _ i (_ :: (_ ++ _)) from h3)
  obtain ⟨b1, b2, _⟩ := align_cons (show AlignB _ i (_ :: (_ ++ _)) from h4)
  have l0 : loop0 p i = (decide (k = 12) && decide (a = 0)) := by unfold loop0; rw [e2, e3]
  refine ⟨(numsF_node h.nums).2.2.2.1, lp', false, _, false, bh, [], o, fun q => (by cases q), a2, b2, bj_kids ha, ?_, ?_, ?_⟩
  · rw [bh_kids ha hj]; exact h6
  · rw [en_kids ha, List.any_cons, Bool.or_false]
    have : shutB t p i = (deadK t k a cs || (decide (k = 12) && decide (a = 0))) := by unfold shutB; rw [l0, b1, Bool.or_comm]
    rw [this]
    have e : (sh || (seen || deadK t k a cs)) = ((sh || seen) || deadK t k a cs) := by rw [Bool.or_assoc]
    rw [e, h7]
    cases bh <;> cases (enD p d i).any (shutB t p) <;> cases deadK t k a cs <;> cases (decide (k = 12) && decide (a = 0)) <;> rfl
  · rw [en_kids ha]
    show _ = ((deadsP t p).getD i false || loop0 p i)
    rw [a1, l0]
theorem Cx.rest {t : List Class} {p : List Line} (i : Nat) (d k a b : Int) (ks re : Fo) (ha : At p i d (.node k a b ks re)) (h : Cx t p i d (.node k a b ks re)) (_ : re ≠ .nil) : Cx t p (i + 1 + ks.size) d re := by
  obtain ⟨lp, m, sh, seen, bh, cs, h1, h2, h3, h4, h5, h6, h7, h8⟩ := h.flags
  obtain ⟨e1, e2, e3, _⟩ := dp_head ha
  obtain ⟨a1, _, a3⟩ := align_cons (show AlignB _ i (_ :: (_ ++ _)) from h3)
  obtain ⟨b1, _, b3⟩ := align_cons (show AlignB _ i (_ :: (_ ++ _)) from h4)
  rw [dl_len] at a3
  rw [de_len] at b3
  have hb := bj_rest ha
  rw [h5] at hb
  have common : ∀ (lp m : Bool), okF re lp m = true → (m = true → InTry p (i + 1 + ks.size) d re (csN k a cs)) → Cx t p (i + 1 + ks.size) d re := by
    intro lp m o ht
    refine ⟨(numsF_node h.nums).2.2.2.2, lp, m, sh, (seen || jumpsK k), (bh || jumpsK k), csN k a cs, o, ht, a3, b3, hb, ?_, ?_, ?_⟩
    · rw [bh_rest ha, h6, Bool.or_eq_true]
    · rw [en_rest ha, ← Bool.or_assoc, h7]
      cases bh <;> cases (enD p d i).any (shutB t p) <;> cases jumpsK k <;> rfl
    · rw [en_rest ha]; exact h8
  rcases okF_node h1 with ⟨hf, hm, o1, o2⟩ | ⟨hf, ⟨k7, ot, o1, o2⟩ | ⟨k7, o1, _, _, _⟩⟩
  · refine common lp true o2 fun _ => ?_
    obtain ⟨hd, pre, last, t1, t2, t3, t3', t4, t5, t6, t7, t10, kk, t8, t9⟩ := (h2 hm).at_
    simp only [chainN, headsK] at t1 t5
    rw [if_pos hf] at t1 t5
    obtain ⟨g1, g2⟩ := tryG_cons t5
    have hne : k ≠ 7 := by rw [followsK_iff] at hf; omega
    refine ⟨hd, pre ++ [i], k, by rw [t1, List.append_assoc]; rfl, by omega, t3, t3', by rw [followsK_iff] at hf; omega, g2, fun q => ?_, fun x hx => ?_, fun x x1 x2 x3 => ?_, i, hd_rest ha, fun n hn => ?_⟩
    · have k8 : k = 8 := by rw [followsK_iff] at hf; omega
      rw [t6 (by omega), csN, if_pos k8, List.map_append, List.map_singleton, e3]
    · rw [List.mem_append, List.mem_singleton] at hx
      rcases hx with hx | rfl
      · obtain ⟨x1, x2, x3⟩ := t7 x hx
        exact ⟨x1, by omega, fun q => x3 (by omega)⟩
      · exact ⟨t2, by omega, fun q => by rw [e2]; rw [followsK_iff] at hf; omega⟩
    · by_cases c1 : x < i
      · exact t10 x x1 c1 x3
      · by_cases c2 : x = i
        · subst c2; rw [e2]; exact hne
        · have := dp_kids ha x (by omega) x2; omega
    · cases n with
      | zero => omega
      | succ n =>
        simp only [tryP]
        rw [e2, if_neg hne, e1, t8]
        have := hdD_lt _ _ t8
        exact t9 n (by omega)
  · refine common lp true o2 fun _ => ?_
    have hcs : csN k a cs = [] := by subst k7; rfl
    rw [hcs]
    simp only [tryOkF, Bool.and_eq_true] at ot
    refine ⟨i, [], 7, chainP_at ha, by omega, by rw [e2, k7], e1, by omega, ot.1, fun _ => rfl, fun x hx => (by cases hx), fun x x1 x2 x3 => (by have := dp_kids ha x x1 x2; omega), i, hd_rest ha, fun n hn => ?_⟩
    cases n with
    | zero => omega
    | succ n =>
      simp only [tryP]
      rw [e2, if_pos k7]
  · exact common lp false o1 fun q => by cases q
/-- Each line of a program, with what stands around it. -/
theorem cx_all {t : List Class} {p : List Line} (h : ValidP t p) {j : Nat} (hj : j < p.length) : ∃ d k a b kids rest, At p j d (.node k a b kids rest) ∧ Cx t p j d (.node k a b kids rest) := by
  obtain ⟨h1, h2, h3, h4, h5, h6⟩ := validP_forest h
  refine at_all (Q := Cx t p) Cx.kids Cx.rest (forestP p) 0 0 (at_top h2) ⟨h3, false, false, false, false, false, [], h4, fun q => (by cases q), fun j _ => by rw [Nat.zero_add]; rfl, fun j _ => by rw [Nat.zero_add]; rfl, rfl, ?_, rfl, rfl⟩ j (by omega) (by omega)
  constructor
  · rintro ⟨j, hj, _⟩; omega
  · intro q; cases q
end
section
open Go Go.Sim
set_option maxRecDepth 100000

/-! ### Lines left out -/
/-! ### What is marked -/
def ak (p : List Line) (k : Nat) : Int := (p.getD k default).a
/-! ### Lines that cannot be run, as they are told -/
/-- What encloses a line, as the program asks. -/
theorem en_told {t : List Class} {p : List Line} (h : ValidP t p) {i : Nat} (hi : i < p.length) : enD p (dp p i) i = ((List.range i).reverse).filter fun k => opensK (kd p k) && decide (i < endP p k) := by
  refine en_filter _ i _ fun k hk => ?_
  rw [Bool.and_eq_true, decide_eq_true_eq, endP_in hi hk]
  constructor
  · rintro ⟨_, h2⟩
    exact ⟨h2 i hk (Nat.le_refl _), fun m a1 a2 => h2 m a1 (by omega)⟩
  · rintro ⟨h1, h2⟩
    have hall : ∀ m, k < m → m ≤ i → dp p k < dp p m := fun m a1 a2 => by
      by_cases e : m = i
      · subst e; exact h1
      · exact h2 m a1 (by omega)
    refine ⟨?_, hall⟩
    obtain ⟨d, kk, a, b, kids, rest, ha, hc⟩ := cx_all h (show k < p.length by omega)
    have he := (endP_in hi hk).2 hall
    rw [ha.endP] at he
    rw [(dp_head ha).2.1]
    exact opens_kids hc.nums (by rintro rfl; simp only [Fo.size] at he; omega)
end
section
open Go Go.Sim
set_option maxRecDepth 100000

def bk (p : List Line) (k : Nat) : Int := (p.getD k default).b
theorem calm_loop {b : RS → En × RS} (hb : ∀ s : RS, s.first = -1 → (b s).1 = .next ∧ (b s).2.first = -1 ∧ (b s).2.fs = s.fs) : ∀ (n : Nat) (s : RS), s.first = -1 → (loopS b n s).2.fs = s.fs
  | 0, s, _ => rfl
  | n + 1, s, hs => by
    obtain ⟨h1, h2, h3⟩ := hb s hs
    simp only [loopS]
    rw [if_neg (by rw [h1]; decide), if_neg (by rw [h1]; decide), calm_loop hb n _ h2, h3]
/-- Without jumps nothing is raised. -/
theorem calm_run {t : List Class} : ∀ (f : Fo) (lp : Bool) (d : Int) (i : Nat) (pd : Option (En × En)) (h : Int) (s : RS), okF f lp pd.isSome = true → numsF t f d = true → s.first = -1 → (∀ q, pd = some q → q.1.ed = 0 ∧ q.2 = .next) →
    firstF f i pd.isSome = none → (runF t f i pd h s).1 = .next ∧ (runF t f i pd h s).2.first = -1 ∧ (runF t f i pd h s).2.fs = s.fs := by
  intro f
  induction f with
  | nil =>
    intro lp d i pd h s _ _ hs hq _
    cases pd with
    | none => exact ⟨rfl, hs, rfl⟩
    | some q =>
      obtain ⟨q1, q2⟩ := hq q rfl
      simp only [runF, q2]
      exact ⟨rfl, hs, rfl⟩
  | node k a b kids rest ihk ihr =>
    intro lp d i pd h s hok hn hs hq hfi
    obtain ⟨n1, n2, n3, n4, n5⟩ := numsF_node hn
    have go : ∀ (g : Int) (pd' : En → Option (En × En)), okF kids lp false = true → okF rest lp true = true → (∀ q, pd' .next = some q → q.1.ed = 0 ∧ q.2 = .next) → (pd' .next).isSome = true → firstF kids (i + 1) false = none → firstF rest (i + 1 + kids.size) true = none →
        ((fun r : En × RS => runF t rest (i + 1 + kids.size) (pd' r.1) h r.2) (runF t kids (i + 1) none g s)).1 = .next ∧ ((fun r : En × RS => runF t rest (i + 1 + kids.size) (pd' r.1) h r.2) (runF t kids (i + 1) none g s)).2.first = -1 ∧ ((fun r : En × RS => runF t rest (i + 1 + kids.size) (pd' r.1) h r.2) (runF t kids (i + 1) none g s)).2.fs = s.fs := by
      intro g pd' o1 o2 h1 h2 f1 f2
      obtain ⟨k1, k2, k3⟩ := ihk lp (d + 1) (i + 1) none g s o1 n4 hs (fun q hq => by cases hq) f1
      show (runF t rest _ (pd' (runF t kids (i + 1) none g s).1) h (runF t kids (i + 1) none g s).2).1 = _ ∧ (runF t rest _ (pd' (runF t kids (i + 1) none g s).1) h (runF t kids (i + 1) none g s).2).2.first = _ ∧ (runF t rest _ (pd' (runF t kids (i + 1) none g s).1) h (runF t kids (i + 1) none g s).2).2.fs = _
      rw [k1]
      obtain ⟨m1, m2, m3⟩ := ihr lp d (i + 1 + kids.size) (pd' .next) h _ (by rw [h2]; exact o2) n5 k2 h1 (by rw [h2]; exact f2)
      exact ⟨m1, m2, m3.trans k3⟩
    have plain : followsK k = false → ∀ m : Bool, firstF (.node k a b kids rest) i m = none → (runF t (.node k a b kids rest) i none h s).1 = .next ∧ (runF t (.node k a b kids rest) i none h s).2.first = -1 ∧ (runF t (.node k a b kids rest) i none h s).2.fs = s.fs := by
      intro hf m hfi
      have n8 : ¬ (m = true ∧ k = 8) := fun q => by rw [q.2] at hf; cases hf
      simp only [firstF] at hfi
      rw [if_neg n8] at hfi
      by_cases hj : jumpsK k = true
      · rw [if_pos hj] at hfi; cases hfi
      rw [if_neg hj] at hfi
      rcases okF_node hok with ⟨q, _⟩ | ⟨_, ⟨h7, ot, o1, o2⟩ | ⟨h7, o1, o2, o3, o4⟩⟩
      · rw [hf] at q; cases q
      · subst h7
        rw [if_neg (by omega)] at hfi
        rw [runF_try]
        cases e : firstF kids (i + 1) false with
        | some j => rw [e] at hfi; cases hfi
        | none =>
          rw [e] at hfi
          exact go h (fun e => some (e, e)) o1 o2 (fun q hq => by cases hq; exact ⟨rfl, rfl⟩) rfl e hfi
      · rw [hf, Bool.and_false, Bool.or_false, decide_eq_false h7] at hfi
        rw [runF_line h7]
        have key : (lineR k a b i h (fun s => runF t kids (i + 1) none h s) s).1 = .next ∧ (lineR k a b i h (fun s => runF t kids (i + 1) none h s) s).2.first = -1 ∧ (lineR k a b i h (fun s => runF t kids (i + 1) none h s) s).2.fs = s.fs ∧ firstF rest (i + 1 + kids.size) false = none := by
          unfold lineR
          by_cases h11 : k = 11
          · rw [if_neg (show ¬ (k = 12 ∧ a = 0) by omega)] at hfi
            rw [if_pos h11]
            cases e : firstF kids (i + 1) false with
            | some j => rw [e] at hfi; cases hfi
            | none =>
              rw [e] at hfi
              obtain ⟨k1, k2, k3⟩ := ihk lp (d + 1) (i + 1) none h (s.tell (100 + a)) (o2 h11) n4 hs (fun q hq => by cases hq) e
              unfold withS
              refine ⟨?_, k2, k3, hfi⟩
              show (if _ then _ else _) = _
              rw [k1, ite_self]
          · rw [if_neg h11]
            by_cases h12 : k = 12
            · rw [if_pos h12]
              have ha : 0 ≤ a := by
                subst h12
                unfold numOk at n1
                simp only [show ¬ ((12 : Int) = 1 ∨ (12 : Int) = 4) by decide, show ¬ (12 : Int) = 2 by decide, show ¬ (12 : Int) = 8 by decide, show ¬ (12 : Int) = 11 by decide, if_false, if_true, Bool.and_eq_true, inR, decide_eq_true_eq] at n1
                omega
              by_cases a0 : a = 0
              · rw [if_pos ⟨h12, a0⟩] at hfi
                have hfi2 : firstF rest (i + 1 + kids.size) false = none := hfi
                subst a0
                exact ⟨rfl, hs, rfl, hfi2⟩
              · rw [if_neg (fun q => a0 q.2)] at hfi
                cases e : firstF kids (i + 1) false with
                | some j => rw [e] at hfi; cases hfi
                | none =>
                  rw [e] at hfi
                  have hb : ∀ s : RS, s.first = -1 → (runF t kids (i + 1) none h s).1 = .next ∧ (runF t kids (i + 1) none h s).2.first = -1 ∧ (runF t kids (i + 1) none h s).2.fs = s.fs := fun s hs => ihk true (d + 1) (i + 1) none h s (o3 h12) n4 hs (fun q hq => by cases hq) e
                  have hfl := first_loop (b := fun s => runF t kids (i + 1) none h s) (o := none) (fun s hs => ⟨(hb s hs).1, (hb s hs).2.1⟩) (fun s hs => keep_run t _ _ _ _ _ hs) a.toNat s hs
                  rw [ite_self] at hfl
                  exact ⟨hfl.1, hfl.2, calm_loop hb _ s hs, hfi⟩
            · rw [if_neg h12]
              rw [if_neg (fun q => h12 q.1)] at hfi
              have hkn : kids = .nil := kids_nil hn hf h7 h11 h12
              subst hkn
              have hj2 := hj
              rw [jumpsK_iff] at hj2
              have e1 : (s.jump k i) = s := by unfold RS.jump; rw [if_neg (fun q => hj q.1)]
              rw [e1]
              unfold lineS
              split
              · exact ⟨rfl, hs, rfl, hfi⟩
              · rw [if_neg (by omega), if_neg (by omega), if_neg (by omega), if_neg (by omega), if_neg (by omega)]
                exact ⟨rfl, hs, rfl, hfi⟩
        generalize lineR k a b i h (fun s => runF t kids (i + 1) none h s) s = r at key ⊢
        obtain ⟨k1, k2, k3, k4⟩ := key
        show (if r.1.ed = 0 then _ else r).1 = _ ∧ (if r.1.ed = 0 then _ else r).2.first = _ ∧ (if r.1.ed = 0 then _ else r).2.fs = _
        rw [if_pos (by rw [k1]; rfl)]
        obtain ⟨m1, m2, m3⟩ := ihr lp d _ none h _ o1 n5 k2 (fun q hq => by cases hq) k4
        exact ⟨m1, m2, m3.trans k3⟩
    cases pd with
    | none =>
      refine plain ?_ false hfi
      rcases okF_node hok with ⟨_, q, _⟩ | ⟨hf, _⟩
      · cases q
      · exact hf
    | some q =>
      obtain ⟨q1, q2⟩ := hq q rfl
      by_cases hf : followsK k = true
      · rcases okF_node hok with ⟨_, _, o1, o2⟩ | ⟨w, _⟩
        rotate_left
        · rw [hf] at w; cases w
        have hf' := followsK_iff.1 hf
        have hj : ¬ jumpsK k = true := by rw [jumpsK_iff]; omega
        have hfi' : firstF (.node k a b kids rest) i true = none := hfi
        simp only [firstF] at hfi'
        simp only [runF, hf, if_true]
        by_cases k8 : k = 8
        · rw [if_pos ⟨trivial, k8⟩] at hfi'
          rw [if_pos k8, if_neg (by omega)]
          exact ihr lp d _ (some q) h s o2 n5 hs (fun q' hq' => by cases hq'; exact ⟨q1, q2⟩) hfi'
        · rw [if_neg (fun w => k8 w.2), if_neg hj, if_neg (by omega), hf] at hfi'
          simp only [Bool.and_self, Bool.or_true] at hfi'
          rw [if_neg k8]
          cases e : firstF kids (i + 1) false with
          | some j => rw [e] at hfi'; cases hfi'
          | none =>
            rw [e] at hfi'
            by_cases k9 : k = 9
            · rw [if_pos k9, if_pos q1]
              exact go h (fun e => some (q.1, e)) o1 o2 (fun q' hq' => by cases hq'; exact ⟨q1, rfl⟩) rfl e hfi'
            · rw [if_neg k9]
              refine go _ (fun e => some (q.1, if e.ed = 0 then q.2 else e)) o1 o2 (fun q' hq' => ?_) rfl e hfi'
              cases hq'
              exact ⟨q1, by show (if (0 : Int) = 0 then q.2 else En.next) = En.next; rw [if_pos rfl, q2]⟩
      · have e1 : runF t (.node k a b kids rest) i (some q) h s = if q.2.ed = 0 then runF t (.node k a b kids rest) i none h s else (q.2, s) := by
          simp only [runF]
          rw [if_neg hf]
        rw [e1, if_pos (by rw [q2]; rfl)]
        exact plain (by simpa using hf) _ hfi

/-! ### Blocks that only tell -/
def plainB (p : List Line) (x : Nat) : Prop := ∀ m, x < m → m < endP p x → kd p m = 0 ∨ kd p m = 1
theorem plain_run {t : List Class} {p : List Line} : ∀ (f : Fo) (i : Nat) (d h : Int) (s : RS), At p i d f → numsF t f d = true → (∀ m, i ≤ m → m < i + f.size → kd p m = 0 ∨ kd p m = 1) → (runF t f i none h s).1 = .next ∧ (runF t f i none h s).2.fs = s.fs
  | .nil, i, d, h, s, _, _, _ => ⟨rfl, rfl⟩
  | .node k a b kids rest, i, d, h, s, ha, hn, hp => by
    obtain ⟨e1, e2, e3, _⟩ := dp_head ha
    have hk := hp i (Nat.le_refl _) (by simp only [Fo.size]; omega)
    rw [e2] at hk
    have hkn : kids = .nil := kids_nil hn (by cases q : followsK k; rfl; rw [followsK_iff] at q; omega) (by omega) (by omega) (by omega)
    subst hkn
    rw [runF_line (by omega)]
    have e4 : s.jump k i = s := by unfold RS.jump; rw [if_neg (fun q => by have := jumpsK_iff.1 q.1; omega)]
    have e5 : (lineR k a b i h (fun s => runF t .nil (i + 1) none h s) s).1 = .next ∧ (lineR k a b i h (fun s => runF t .nil (i + 1) none h s) s).2.fs = s.fs := by
      unfold lineR
      rw [if_neg (by omega), if_neg (by omega), e4]
      unfold lineS
      split
      · exact ⟨rfl, rfl⟩
      · rw [if_neg (by omega), if_neg (by omega), if_neg (by omega), if_neg (by omega), if_neg (by omega)]
        exact ⟨rfl, rfl⟩
    generalize lineR k a b i h (fun s => runF t .nil (i + 1) none h s) s = r at e5 ⊢
    show (if r.1.ed = 0 then _ else r).1 = _ ∧ (if r.1.ed = 0 then _ else r).2.fs = _
    rw [if_pos (by rw [e5.1]; rfl)]
    obtain ⟨m1, m2⟩ := plain_run rest (i + 1 + Fo.nil.size) d h r.2 ha.rest (numsF_node hn).2.2.2.2 (fun m m1 m2 => hp m (by omega) (by simp only [Fo.size] at m2 ⊢; omega))
    exact ⟨m1, m2.trans e5.2⟩
theorem ten_last {p : List Line} {d : Int} : ∀ (g : Fo) (e : Nat) (last : Int) (l0 x : Nat), At p e d g → tryG last (headsK g) = true → x ∈ chainN g e → kd p x = 10 → (l0 :: chainN g e).getLastD 0 = x
  | .nil, _, _, _, _, _, _, h, _ => by cases h
  | .node k a b kids rest, e, last, l0, x, ha, ht, hx, h10 => by
    obtain ⟨_, e2, _⟩ := dp_head ha
    by_cases hf : followsK k = true
    · have hch : chainN (.node k a b kids rest) e = e :: chainN rest (e + 1 + kids.size) := by simp only [chainN, hf, if_true]
      rw [hch] at hx ⊢
      simp only [headsK] at ht
      rw [if_pos hf] at ht
      obtain ⟨g1, g2⟩ := tryG_cons ht
      rw [List.mem_cons] at hx
      by_cases k10 : k = 10
      · have hnil : headsK rest = [] := by
          cases q : headsK rest with
          | nil => rfl
          | cons y ys => rw [q] at g2; obtain ⟨w, _⟩ := tryG_cons g2; omega
        have hcn : chainN rest (e + 1 + kids.size) = [] := by
          cases rest with
          | nil => rfl
          | node k' a' b' x' y' =>
            simp only [headsK] at hnil
            split at hnil
            · cases hnil
            · rename_i q; simp only [chainN]; rw [if_neg q]
        rw [hcn] at hx ⊢
        rcases hx with rfl | hx
        · rfl
        · cases hx
      · rcases hx with rfl | hx
        · rw [e2] at h10; exact absurd h10 k10
        · have := ten_last rest _ k e x ha.rest g2 hx h10
          simpa using this
    · simp only [chainN] at hx
      rw [if_neg hf] at hx
      cases hx
/-- What goes on with a try, while something else than its end is under way. -/
theorem chain_pass {t : List Class} {p : List Line} {E : En} {FS : List Fault} (hE : E.ed ≠ 0) : ∀ (g : Fo) (e : Nat) (d h last : Int) (st : En) (s : RS), At p e d g → numsF t g d = true → tryG last (headsK g) = true → s.fs = FS → (st.ed = 0 → 9 ≤ last) →
    (st.ed = 2 → ∀ x ∈ chainN g e, kd p x = 8 → isF t (clsOf s st.val) (ak p x) = false) → (∀ x ∈ chainN g e, kd p x = 10 → plainB p x) →
    (runF t g e (some (st, E)) h s).1 = E ∧ (runF t g e (some (st, E)) h s).2.fs = FS
  | .nil, e, d, h, last, st, s, _, _, _, hs, _, _, _ => by
    simp only [runF]
    rw [if_neg hE]
    exact ⟨rfl, hs⟩
  | .node k a b kids rest, e, d, h, last, st, s, ha, hn, ht, hs, h0, h2, h10 => by
    obtain ⟨e1, e2, e3, _⟩ := dp_head ha
    obtain ⟨n1, n2, n3, n4, n5⟩ := numsF_node hn
    by_cases hf : followsK k = true
    · have hch : chainN (.node k a b kids rest) e = e :: chainN rest (e + 1 + kids.size) := by simp only [chainN, hf, if_true]
      simp only [headsK] at ht
      rw [if_pos hf] at ht
      obtain ⟨g1, g2⟩ := tryG_cons ht
      have hf' := followsK_iff.1 hf
      have sub : ∀ x ∈ chainN rest (e + 1 + kids.size), x ∈ chainN (.node k a b kids rest) e := fun x hx => by rw [hch]; exact List.mem_cons_of_mem _ hx
      have pass := fun (last' : Int) (q : tryG last' (headsK rest) = true) (q0 : st.ed = 0 → 9 ≤ last') => chain_pass hE rest (e + 1 + kids.size) d h last' st s ha.rest n5 q hs q0 (fun q2 x hx => h2 q2 x (sub x hx)) (fun x hx => h10 x (sub x hx))
      simp only [runF, hf, if_true]
      by_cases k8 : k = 8
      · rw [if_pos k8]
        have nc : ¬ (st.ed = 2 ∧ isF t (clsOf s st.val) a = true) := by
          rintro ⟨w1, w2⟩
          have := h2 w1 e (by rw [hch]; exact List.mem_cons_self ..) (by rw [e2, k8])
          have ea : ak p e = a := e3
          rw [ea, w2] at this
          cases this
        rw [if_neg nc]
        exact pass k g2 (fun q => by have := h0 q; omega)
      · rw [if_neg k8]
        by_cases k9 : k = 9
        · rw [if_pos k9, if_neg (fun q => by have := h0 q; omega)]
          exact pass k g2 (fun q => by omega)
        · rw [if_neg k9]
          have hpl := h10 e (by rw [hch]; exact List.mem_cons_self ..) (by rw [e2]; omega)
          have hend := ha.endP
          obtain ⟨r1, r2⟩ := plain_run kids (e + 1) (d + 1) (if E.ed = 2 then E.val else h) s ha.kids n4 (fun m m1 m2 => hpl m (by omega) (by rw [hend]; omega))
          generalize runF t kids (e + 1) none (if E.ed = 2 then E.val else h) s = r at r1 r2 ⊢
          show (runF t rest _ (some (st, if r.1.ed = 0 then E else r.1)) h r.2).1 = _ ∧ (runF t rest _ (some (st, if r.1.ed = 0 then E else r.1)) h r.2).2.fs = _
          rw [if_pos (by rw [r1]; rfl)]
          have ecl : ∀ v, clsOf r.2 v = clsOf s v := fun v => by unfold clsOf; rw [r2]
          exact chain_pass hE rest (e + 1 + kids.size) d h k st r.2 ha.rest n5 g2 (r2.trans hs) (fun q => by omega) (fun q2 x hx => by rw [ecl]; exact h2 q2 x (sub x hx)) (fun x hx => h10 x (sub x hx))
    · have e1 : runF t (.node k a b kids rest) e (some (st, E)) h s = if E.ed = 0 then runF t (.node k a b kids rest) e none h s else (E, s) := by
        simp only [runF]
        rw [if_neg hf]
      rw [e1, if_neg hE]
      exact ⟨rfl, hs⟩
end
section
open Go Go.Sim
set_option maxRecDepth 100000
set_option maxHeartbeats 1000000

theorem firstF_rng : ∀ (f : Fo) (i : Nat) (m : Bool) (j : Nat), firstF f i m = some j → i ≤ j ∧ j < i + f.size
  | .nil, i, m, j, h => by cases h
  | .node k a b kids rest, i, m, j, h => by
    have hsz : (Fo.node k a b kids rest).size = 1 + kids.size + rest.size := rfl
    simp only [firstF] at h
    by_cases c1 : m = true ∧ k = 8
    · rw [if_pos c1] at h
      have := firstF_rng rest _ _ _ h
      omega
    · rw [if_neg c1] at h
      by_cases c2 : jumpsK k = true
      · rw [if_pos c2] at h
        cases h
        omega
      · rw [if_neg c2] at h
        by_cases c3 : k = 12 ∧ a = 0
        · rw [if_pos c3] at h
          have := firstF_rng rest _ _ _ h
          omega
        · rw [if_neg c3] at h
          cases e : firstF kids (i + 1) false with
          | some n =>
            rw [e] at h
            cases h
            have := firstF_rng kids _ _ _ e
            omega
          | none =>
            rw [e] at h
            have := firstF_rng rest _ _ _ h
            omega
/-- What a jump that raises, or returns, starts. -/
def jEn (p : List Line) (J : Nat) (n : Nat) : En := if kd p J = 2 then ⟨2, n⟩ else ⟨1, ak p J⟩
def jFs (p : List Line) (J : Nat) (h : Int) (fs : List Fault) : List Fault := if kd p J = 2 then raiseF fs (ak p J) (bk p J) h else fs
/-- Nothing on the way holds up what a jump starts. -/
structure UpOk (t : List Class) (p : List Line) (J : Nat) : Prop where
  knd : kd p J = 2 ∨ kd p J = 4
  hid : ∀ x, x < J → InB p x (dp p J) J → kd p x = 11 → kd p J = 2 → bk p x ≠ 1
  exc : ∀ x, x < J → InB p x (dp p J) J → kd p x = 7 → kd p J = 2 → ∀ y ∈ chainP p x, kd p y = 8 → isF t (ak p J) (ak p y) = false
  fin : ∀ x hd, x < J → InB p x (dp p J) J → (kd p x = 7 ∨ (kd p x = 8 ∨ kd p x = 9)) → kd p hd = 7 → x ∈ chainP p hd → ∀ y ∈ chainP p hd, kd p y = 10 → plainB p y
theorem jEn_ne {p : List Line} {J n : Nat} : (jEn p J n).ed ≠ 0 := by
  unfold jEn; split
  · show (2 : Int) ≠ 0; decide
  · show (1 : Int) ≠ 0; decide
theorem jEn_12 {p : List Line} {J n : Nat} : (jEn p J n).ed = 1 ∨ (jEn p J n).ed = 2 := by
  unfold jEn; split
  · exact .inr rfl
  · exact .inl rfl
theorem jEn_2 {p : List Line} {J n : Nat} (h : (jEn p J n).ed = 2) : kd p J = 2 := by
  unfold jEn at h; split at h
  · assumption
  · exact absurd (show (1 : Int) = 2 from h) (by decide)
theorem jl_run {t : List Class} {p : List Line} {J : Nat} (hu : UpOk t p J) (hcl : ∀ fs h, (kd p J = 2 → ((raiseF fs (ak p J) (bk p J) h).getD fs.length default).cls = ak p J)) : ∀ (f : Fo) (lp : Bool) (d : Int) (i : Nat) (pd : Option (En × En)) (h : Int) (s : RS), At p i d f → okF f lp pd.isSome = true → numsF t f d = true → s.first = -1 → (∀ q, pd = some q → q.1.ed = 0 ∧ q.2 = .next) →
    (pd.isSome = true → ∃ (hd : Nat) (last : Int), kd p hd = 7 ∧ (∀ y ∈ chainN f i, y ∈ chainP p hd) ∧ tryG last (headsK f) = true) →
    firstF f i pd.isSome = some J → (runF t f i pd h s).1 = jEn p J s.fs.length ∧ (runF t f i pd h s).2.fs = jFs p J h s.fs := by
  intro f
  induction f with
  | nil => intro lp d i pd h s _ _ _ _ _ _ q; cases q
  | node k a b kids rest ihk ihr =>
    intro lp d i pd h s ha hok hn hs hq hch hfi
    obtain ⟨n1, n2, n3, n4, n5⟩ := numsF_node hn
    obtain ⟨e1, e2, e3, e4, e5⟩ := dp_head ha
    have inb : firstF kids (i + 1) false = some J → i < J ∧ InB p i (dp p J) J := fun q => by
      obtain ⟨r1, r2⟩ := firstF_rng _ _ _ _ q
      have hk := dp_kids ha
      exact ⟨by omega, by rw [e1]; exact hk J (by omega) (by omega), fun m m1 m2 => by rw [e1]; exact hk m m1 (by omega)⟩
    have cls2 : ∀ (s' : RS) (h' : Int) (fs : List Fault), s'.fs = jFs p J h' fs → (jEn p J fs.length).ed = 2 → clsOf s' (jEn p J fs.length).val = ak p J := fun s' h' fs w w2 => by
      have k2 := jEn_2 w2
      unfold clsOf jEn
      rw [w, if_pos k2]
      unfold jFs
      rw [if_pos k2]
      show ((raiseF fs (ak p J) (bk p J) h').getD ((fs.length : Int)).toNat default).cls = _
      rw [Int.toNat_natCast]
      exact hcl fs h' k2
    have plain : followsK k = false → firstF (.node k a b kids rest) i false = some J → (runF t (.node k a b kids rest) i none h s).1 = jEn p J s.fs.length ∧ (runF t (.node k a b kids rest) i none h s).2.fs = jFs p J h s.fs := by
      intro hf hfi
      have n8 : ¬ (false = true ∧ k = 8) := fun q => by cases q.1
      simp only [firstF] at hfi
      rw [if_neg n8] at hfi
      by_cases hj : jumpsK k = true
      · rw [if_pos hj] at hfi
        have hij : i = J := by cases hfi; rfl
        subst hij
        have hj' := jumpsK_iff.1 hj
        rw [runF_line (by omega)]
        have hkn := hu.knd
        rw [e2] at hkn
        have ea : ak p i = a := e3
        have eb : bk p i = b := e4
        have key : (lineR k a b i h (fun s => runF t kids (i + 1) none h s) s).1 = jEn p i s.fs.length ∧ (lineR k a b i h (fun s => runF t kids (i + 1) none h s) s).2.fs = jFs p i h s.fs := by
          unfold lineR
          rw [if_neg (by omega), if_neg (by omega)]
          have ejf : (s.jump k i).fs = s.fs := by unfold RS.jump; split <;> rfl
          unfold lineS jEn jFs
          rw [e2, ea, eb, if_neg (show ¬ k = 1 by omega), ejf]
          by_cases k2 : k = 2
          · rw [if_pos k2, if_pos k2, if_pos k2]
            refine ⟨rfl, ?_⟩
            show raiseF (s.jump k i).fs a b h = _
            rw [ejf]
          · have k4 : k = 4 := by omega
            rw [if_neg k2, if_neg k2, if_neg k2, if_neg (show ¬ k = 3 by omega), if_pos k4]
            exact ⟨rfl, ejf⟩
        generalize lineR k a b i h (fun s => runF t kids (i + 1) none h s) s = r at key ⊢
        show (if r.1.ed = 0 then _ else r).1 = _ ∧ (if r.1.ed = 0 then _ else r).2.fs = _
        rw [if_neg (by rw [key.1]; exact jEn_ne)]
        exact key
      rw [if_neg hj] at hfi
      rcases okF_node hok with ⟨q, _⟩ | ⟨_, ⟨h7, ot, o1, o2⟩ | ⟨h7, o1, o2, o3, o4⟩⟩
      · rw [hf] at q; cases q
      · subst h7
        rw [if_neg (by omega)] at hfi
        rw [runF_try]
        have tg : tryG 7 (headsK rest) = true := by
          unfold tryOkF at ot
          rw [Bool.and_eq_true] at ot
          exact ot.1
        have hcp := chainP_at ha
        cases e : firstF kids (i + 1) false with
        | some j =>
          rw [e] at hfi
          have hjJ : j = J := by cases hfi; rfl
          subst hjJ
          obtain ⟨k1, k2⟩ := ihk lp (d + 1) (i + 1) none h s ha.kids o1 n4 hs (fun q hq => by cases hq) (fun q => by cases q) e
          generalize runF t kids (i + 1) none h s = r at k1 k2 ⊢
          show (runF t rest _ (some (r.1, r.1)) h r.2).1 = _ ∧ (runF t rest _ (some (r.1, r.1)) h r.2).2.fs = _
          rw [k1]
          refine chain_pass jEn_ne rest _ d h 7 _ r.2 ha.rest n5 tg k2 (fun q => absurd q jEn_ne) (fun q x hx hx8 => ?_) (fun x hx hx10 => ?_)
          · rw [cls2 r.2 h s.fs k2 q]
            exact hu.exc i (inb e).1 (inb e).2 e2 (jEn_2 q) x (by rw [hcp]; exact List.mem_cons_of_mem _ hx) hx8
          · exact hu.fin i i (inb e).1 (inb e).2 (.inl e2) e2 (by rw [hcp]; exact List.mem_cons_self ..) x (by rw [hcp]; exact List.mem_cons_of_mem _ hx) hx10
        | none =>
          rw [e] at hfi
          obtain ⟨k1, k2, k3⟩ := calm_run kids lp (d + 1) (i + 1) none h s o1 n4 hs (fun q hq => by cases hq) e
          generalize runF t kids (i + 1) none h s = r at k1 k2 k3 ⊢
          show (runF t rest _ (some (r.1, r.1)) h r.2).1 = _ ∧ (runF t rest _ (some (r.1, r.1)) h r.2).2.fs = _
          rw [k1, ← k3]
          exact ihr lp d _ (some (.next, .next)) h r.2 ha.rest o2 n5 k2 (fun q hq => by cases hq; exact ⟨rfl, rfl⟩) (fun _ => ⟨i, 7, e2, fun y hy => by rw [hcp]; exact List.mem_cons_of_mem _ hy, tg⟩) hfi
      · rw [hf, Bool.and_false, Bool.or_false, decide_eq_false h7] at hfi
        rw [runF_line h7]
        by_cases h12z : k = 12 ∧ a = 0
        · rw [if_pos h12z] at hfi
          have e0 : lineR k a b i h (fun s => runF t kids (i + 1) none h s) s = (.next, s) := by
            obtain ⟨w1, w2⟩ := h12z
            subst w1; subst w2
            unfold lineR
            rw [if_neg (by decide), if_pos rfl]
            rfl
          rw [e0]
          exact ihr lp d _ none h s ha.rest o1 n5 hs (fun q hq => by cases hq) (fun q => by cases q) hfi
        · rw [if_neg h12z] at hfi
          cases e : firstF kids (i + 1) false with
          | some j =>
            rw [e] at hfi
            have hjJ : j = J := by cases hfi; rfl
            subst hjJ
            have key : (lineR k a b i h (fun s => runF t kids (i + 1) none h s) s).1 = jEn p j s.fs.length ∧ (lineR k a b i h (fun s => runF t kids (i + 1) none h s) s).2.fs = jFs p j h s.fs := by
              unfold lineR
              by_cases h11 : k = 11
              · rw [if_pos h11]
                obtain ⟨k1, k2⟩ := ihk lp (d + 1) (i + 1) none h (s.tell (100 + a)) ha.kids (o2 h11) n4 hs (fun q hq => by cases hq) (fun q => by cases q) e
                unfold withS
                refine ⟨?_, k2⟩
                show (if (runF t kids (i + 1) none h (s.tell (100 + a))).1.ed = 2 ∧ b = 1 then En.next else (runF t kids (i + 1) none h (s.tell (100 + a))).1) = _
                rw [if_neg]
                · exact k1
                · rintro ⟨w1, w2⟩
                  rw [k1] at w1
                  exact hu.hid i (inb e).1 (inb e).2 (by rw [e2]; exact h11) (jEn_2 w1) (e4.trans w2)
              · rw [if_neg h11]
                by_cases h12 : k = 12
                · rw [if_pos h12]
                  have ha0 : 0 ≤ a := by
                    subst h12
                    unfold numOk at n1
                    simp only [show ¬ ((12 : Int) = 1 ∨ (12 : Int) = 4) by decide, show ¬ (12 : Int) = 2 by decide, show ¬ (12 : Int) = 8 by decide, show ¬ (12 : Int) = 11 by decide, if_false, if_true, Bool.and_eq_true, inR, decide_eq_true_eq] at n1
                    omega
                  obtain ⟨k1, k2⟩ := ihk true (d + 1) (i + 1) none h s ha.kids (o3 h12) n4 hs (fun q hq => by cases hq) (fun q => by cases q) e
                  obtain ⟨n, hn'⟩ : ∃ n, a.toNat = n + 1 := ⟨a.toNat - 1, by omega⟩
                  rw [hn']
                  simp only [loopS]
                  rw [if_pos (by rw [k1]; exact jEn_12)]
                  exact ⟨k1, k2⟩
                · have hkn : kids = .nil := kids_nil hn hf h7 h11 h12
                  subst hkn
                  cases e
            generalize lineR k a b i h (fun s => runF t kids (i + 1) none h s) s = r at key ⊢
            show (if r.1.ed = 0 then _ else r).1 = _ ∧ (if r.1.ed = 0 then _ else r).2.fs = _
            rw [if_neg (by rw [key.1]; exact jEn_ne)]
            exact key
          | none =>
            rw [e] at hfi
            have hone : (runF t (.node k a b kids .nil) i none h s).1 = .next ∧ (runF t (.node k a b kids .nil) i none h s).2.first = -1 ∧ (runF t (.node k a b kids .nil) i none h s).2.fs = s.fs := by
              refine calm_run (.node k a b kids .nil) lp d i none h s ?_ ?_ hs (fun q hq => by cases hq) ?_
              · show okF (.node k a b kids .nil) lp false = true
                simp only [okF]
                rw [if_neg (by rw [hf]; decide)]
                by_cases h56 : k = 5 ∨ k = 6
                · rw [if_pos h56, o4 h56]; rfl
                · rw [if_neg h56, if_neg h7]
                  by_cases h11 : k = 11
                  · rw [if_pos h11, o2 h11]; rfl
                  · rw [if_neg h11]
                    by_cases h12 : k = 12
                    · rw [if_pos h12, o3 h12]; rfl
                    · rw [if_neg h12]
              · simp only [numsF]
                rw [n1, n2, n3, n4]
                simp
              · show firstF (.node k a b kids .nil) i false = none
                simp only [firstF]
                rw [if_neg n8, if_neg hj, if_neg h12z, e]
            rw [runF_line h7] at hone
            generalize lineR k a b i h (fun s => runF t kids (i + 1) none h s) s = r at hone ⊢
            have hr : r.1.ed = 0 ∧ r.2.first = -1 ∧ r.2.fs = s.fs := by
              dsimp only at hone
              by_cases c : r.1.ed = 0
              · rw [if_pos c] at hone
                simp only [runF] at hone
                exact ⟨c, hone.2.1, hone.2.2⟩
              · rw [if_neg c] at hone
                rw [hone.1] at c
                exact absurd rfl c
            show (if r.1.ed = 0 then _ else r).1 = _ ∧ (if r.1.ed = 0 then _ else r).2.fs = _
            rw [if_pos hr.1, ← hr.2.2]
            exact ihr lp d _ none h r.2 ha.rest o1 n5 hr.2.1 (fun q hq => by cases hq) (fun q => by cases q) hfi
    cases pd with
    | none =>
      refine plain ?_ hfi
      rcases okF_node hok with ⟨_, q, _⟩ | ⟨hf, _⟩
      · cases q
      · exact hf
    | some q =>
      obtain ⟨q1, q2⟩ := hq q rfl
      by_cases hf : followsK k = true
      · rcases okF_node hok with ⟨_, _, o1, o2⟩ | ⟨w, _⟩
        rotate_left
        · rw [hf] at w; cases w
        have hf' := followsK_iff.1 hf
        have hj : ¬ jumpsK k = true := by rw [jumpsK_iff]; omega
        obtain ⟨hd, last, c1, c2, c3⟩ := hch rfl
        have hcn : chainN (.node k a b kids rest) i = i :: chainN rest (i + 1 + kids.size) := by simp only [chainN, hf, if_true]
        simp only [headsK] at c3
        rw [if_pos hf] at c3
        obtain ⟨g1, g2⟩ := tryG_cons c3
        rw [hcn] at c2
        have cr : ∀ y ∈ chainN rest (i + 1 + kids.size), y ∈ chainP p hd := fun y hy => c2 y (List.mem_cons_of_mem _ hy)
        have ci : i ∈ chainP p hd := c2 i (List.mem_cons_self ..)
        have hfi' : firstF (.node k a b kids rest) i true = some J := hfi
        simp only [firstF] at hfi'
        simp only [runF, hf, if_true]
        by_cases k8 : k = 8
        · rw [if_pos ⟨trivial, k8⟩] at hfi'
          rw [if_pos k8, if_neg (by omega)]
          exact ihr lp d _ (some q) h s ha.rest o2 n5 hs (fun q' hq' => by cases hq'; exact ⟨q1, q2⟩) (fun _ => ⟨hd, k, c1, cr, g2⟩) hfi'
        · rw [if_neg (fun w => k8 w.2), if_neg hj, if_neg (by omega), hf] at hfi'
          simp only [Bool.and_self, Bool.or_true] at hfi'
          rw [if_neg k8]
          cases e : firstF kids (i + 1) false with
          | some j =>
            rw [e] at hfi'
            have hjJ : j = J := by cases hfi'; rfl
            subst hjJ
            by_cases k9 : k = 9
            · rw [if_pos k9, if_pos q1]
              obtain ⟨k1, k2⟩ := ihk lp (d + 1) (i + 1) none h s ha.kids o1 n4 hs (fun q hq => by cases hq) (fun q => by cases q) e
              generalize runF t kids (i + 1) none h s = r at k1 k2 ⊢
              show (runF t rest _ (some (q.1, r.1)) h r.2).1 = _ ∧ (runF t rest _ (some (q.1, r.1)) h r.2).2.fs = _
              rw [k1]
              exact chain_pass jEn_ne rest _ d h k _ r.2 ha.rest n5 g2 k2 (fun _ => by omega) (fun w => by rw [q1] at w; cases w) (fun x hx hx10 => hu.fin i hd (inb e).1 (inb e).2 (by rw [e2]; omega) c1 ci x (cr x hx) hx10)
            · have k10 : k = 10 := by omega
              have q20 : ¬ q.2.ed = 2 := by rw [q2]; show ¬ (0 : Int) = 2; decide
              rw [if_neg k9, if_neg q20]
              obtain ⟨k1, k2⟩ := ihk lp (d + 1) (i + 1) none h s ha.kids o1 n4 hs (fun q hq => by cases hq) (fun q => by cases q) e
              generalize runF t kids (i + 1) none h s = r at k1 k2 ⊢
              show (runF t rest _ (some (q.1, if r.1.ed = 0 then q.2 else r.1)) h r.2).1 = _ ∧ (runF t rest _ (some (q.1, if r.1.ed = 0 then q.2 else r.1)) h r.2).2.fs = _
              rw [k1, if_neg jEn_ne]
              refine chain_pass jEn_ne rest _ d h k _ r.2 ha.rest n5 g2 k2 (fun _ => by omega) (fun w => by rw [q1] at w; cases w) (fun x hx hx10 => ?_)
              have hnil : chainN rest (i + 1 + kids.size) = [] := by
                cases hr : rest with
                | nil => rfl
                | node k' a' b' ks' re' =>
                  rw [hr] at g2
                  simp only [headsK] at g2
                  simp only [chainN]
                  by_cases w : followsK k' = true
                  · rw [if_pos w] at g2
                    have := (tryG_cons g2).1
                    omega
                  · rw [if_neg w]
              rw [hnil] at hx
              cases hx
          | none =>
            rw [e] at hfi'
            obtain ⟨k1, k2, k3⟩ := calm_run kids lp (d + 1) (i + 1) none h s o1 n4 hs (fun q hq => by cases hq) e
            by_cases k9 : k = 9
            · rw [if_pos k9, if_pos q1]
              generalize runF t kids (i + 1) none h s = r at k1 k2 k3 ⊢
              show (runF t rest _ (some (q.1, r.1)) h r.2).1 = _ ∧ (runF t rest _ (some (q.1, r.1)) h r.2).2.fs = _
              rw [k1, ← k3]
              exact ihr lp d _ (some (q.1, .next)) h r.2 ha.rest o2 n5 k2 (fun q' hq' => by cases hq'; exact ⟨q1, rfl⟩) (fun _ => ⟨hd, k, c1, cr, g2⟩) hfi'
            · have q20 : ¬ q.2.ed = 2 := by rw [q2]; show ¬ (0 : Int) = 2; decide
              rw [if_neg k9, if_neg q20]
              generalize runF t kids (i + 1) none h s = r at k1 k2 k3 ⊢
              show (runF t rest _ (some (q.1, if r.1.ed = 0 then q.2 else r.1)) h r.2).1 = _ ∧ (runF t rest _ (some (q.1, if r.1.ed = 0 then q.2 else r.1)) h r.2).2.fs = _
              rw [k1, if_pos (show En.next.ed = 0 from rfl), ← k3]
              exact ihr lp d _ (some (q.1, q.2)) h r.2 ha.rest o2 n5 k2 (fun q' hq' => by cases hq'; exact ⟨q1, q2⟩) (fun _ => ⟨hd, k, c1, cr, g2⟩) hfi'
      · have e1 : runF t (.node k a b kids rest) i (some q) h s = if q.2.ed = 0 then runF t (.node k a b kids rest) i none h s else (q.2, s) := by
          simp only [runF]
          rw [if_neg hf]
        have hff : followsK k = false := by simpa using hf
        have hfi2 : firstF (.node k a b kids rest) i false = some J := by
          have hfi' : firstF (.node k a b kids rest) i true = some J := hfi
          have k8 : k ≠ 8 := fun w => by subst w; exact hf rfl
          simp only [firstF] at hfi' ⊢
          rw [if_neg (fun w => k8 w.2), hff, Bool.and_false] at hfi'
          rw [if_neg (fun w => k8 w.2), Bool.false_and]
          exact hfi'
        rw [e1, if_pos (by rw [q2]; rfl)]
        exact plain hff hfi2
end
section
open Go Go.Sim
set_option maxRecDepth 100000

theorem en_in {p : List Line} {x i : Nat} {d : Int} (hx : x < i) (h : InB p x d i) : x ∈ enD p d i := by
  classical
  rw [en_filter (fun k => decide (InB p k d i)) i d (fun k _ => decide_eq_true_iff)]
  rw [List.mem_filter]
  exact ⟨List.mem_reverse.2 (List.mem_range.2 hx), decide_eq_true h⟩
/-- What stands between a try and the lines that go on with it. -/
theorem tailP_in {p : List Line} {d : Int} : ∀ (n k x : Nat), x ∈ tailP p d n k → k ≤ x ∧ x < p.length ∧ dp p x = d ∧ followsK (kd p x) = true ∧ ∀ m, k ≤ m → m ≤ x → dp p m = d → followsK (kd p m) = true
  | 0, k, x, h => by cases h
  | n + 1, k, x, h => by
    simp only [tailP] at h
    split at h
    · rename_i c
      obtain ⟨c1, c2, c3⟩ := c
      rcases List.mem_cons.1 h with rfl | h
      · refine ⟨Nat.le_refl _, c1, c2, c3, fun m m1 m2 _ => ?_⟩
        have : m = x := by omega
        subst this; exact c3
      · obtain ⟨q1, q2, q3, q4, q5⟩ := tailP_in n _ x h
        have hg := endP_gt p k
        refine ⟨by omega, q2, q3, q4, fun m m1 m2 m3 => ?_⟩
        rcases Nat.lt_or_ge m (endP p k) with w | w
        · by_cases e : m = k
          · subst e; exact c3
          · have := (endP_in (i := k) (j := m) (by omega) (by omega)).1 w m (by omega) (Nat.le_refl _)
            have c2' : dp p k = d := c2
            omega
        · exact q5 m w m2 m3
    · cases h
/-- The first line that opens a try of a depth, going back from a line. -/
def back7 (p : List Line) (d : Int) : Nat → Option Nat
  | 0 => if kd p 0 = 7 ∧ dp p 0 = d then some 0 else none
  | j + 1 => if kd p (j + 1) = 7 ∧ dp p (j + 1) = d then some (j + 1) else back7 p d j
theorem back7_at {p : List Line} {d : Int} {hd : Nat} (h7 : kd p hd = 7) (hdd : dp p hd = d) : ∀ (x : Nat), hd ≤ x → (∀ m, hd < m → m ≤ x → dp p m = d → kd p m ≠ 7) → back7 p d x = some hd
  | 0, h, _ => by
    have : hd = 0 := by omega
    subst this
    simp only [back7]
    rw [if_pos ⟨h7, hdd⟩]
  | x + 1, h, hn => by
    simp only [back7]
    by_cases e : hd = x + 1
    · subst e; rw [if_pos ⟨h7, hdd⟩]
    · rw [if_neg (fun q => hn (x + 1) (by omega) (Nat.le_refl _) q.2 q.1)]
      exact back7_at h7 hdd x (by omega) (fun m m1 m2 => hn m m1 (by omega))
def tryOfP (p : List Line) (i : Nat) : List Nat := match back7 p (dp p i) i with
  | some h => chainP p h
  | none => []
theorem tryOfP_at {p : List Line} {x hd : Nat} (h7 : kd p hd = 7) (hl : hd < p.length) (hx : x ∈ chainP p hd) : tryOfP p x = chainP p hd := by
  unfold tryOfP
  have : back7 p (dp p x) x = some hd := by
    unfold chainP at hx
    rcases List.mem_cons.1 hx with rfl | hx
    · exact back7_at h7 rfl x (Nat.le_refl _) (fun m m1 m2 => by omega)
    · obtain ⟨q1, q2, q3, q4, q5⟩ := tailP_in _ _ _ hx
      have hg := endP_gt p hd
      refine back7_at h7 q3.symm x (by omega) (fun m m1 m2 m3 w => ?_)
      rcases Nat.lt_or_ge m (endP p hd) with v | v
      · have := (endP_in (i := hd) (j := m) (by omega) (by omega)).1 v m (by omega) (Nat.le_refl _)
        have q3' : dp p x = dp p hd := q3
        omega
      · have := q5 m v m2 (by rw [m3, q3])
        rw [w] at this
        cases this
  rw [this]
/-- The lines that an ending passes on its way out. -/
def wayL (p : List Line) : List Nat → List Nat
  | [] => []
  | x :: l => (if kd p x = 11 then [x] else if kd p x = 7 ∨ (kd p x = 8 ∨ kd p x = 9) then (if kd p ((tryOfP p x).getLastD 0) = 10 then [(tryOfP p x).getLastD 0] else []) else []) ++ wayL p l
theorem wayL_in {p : List Line} {x : Nat} : ∀ {l : List Nat}, x ∈ l → (kd p x = 7 ∨ (kd p x = 8 ∨ kd p x = 9)) → kd p ((tryOfP p x).getLastD 0) = 10 → (tryOfP p x).getLastD 0 ∈ wayL p l
  | y :: l, h, hk, hl => by
    simp only [wayL]
    rcases List.mem_cons.1 h with rfl | h
    · rw [if_neg (by omega), if_pos hk, if_pos hl]
      exact List.mem_append_left _ (List.mem_singleton.2 rfl)
    · exact List.mem_append_right _ (wayL_in h hk hl)
/-- No line of some holds up a fault of a class. -/
def NoCatch (t : List Class) (p : List Line) (c : Int) (l : List Nat) : Prop := ∀ x ∈ l, (kd p x = 11 → bk p x ≠ 1) ∧ (kd p x = 7 → ∀ y ∈ chainP p x, kd p y = 8 → isF t c (ak p y) = false)
theorem ten_lastP {t : List Class} {p : List Line} (h : ValidP t p) {hd y : Nat} (hl : hd < p.length) (h7 : kd p hd = 7) (hy : y ∈ chainP p hd) (h10 : kd p y = 10) : (chainP p hd).getLastD 0 = y := by
  obtain ⟨d, k, a, b, kids, rest, ha, hc⟩ := cx_all h hl
  obtain ⟨lp, m, sh, seen, bh, cs, h1, _⟩ := hc.flags
  obtain ⟨e1, e2, e3, e4, e5⟩ := dp_head ha
  have k7 : k = 7 := by rw [← e2]; exact h7
  subst k7
  rw [chainP_at ha] at hy ⊢
  rcases okF_node h1 with ⟨q, _⟩ | ⟨_, ⟨_, ot, o1, o2⟩ | ⟨q, _⟩⟩
  · cases q
  · have tg : tryG 7 (headsK rest) = true := by
      unfold tryOkF at ot
      rw [Bool.and_eq_true] at ot
      exact ot.1
    rcases List.mem_cons.1 hy with rfl | hy
    · rw [h7] at h10; cases h10
    · exact ten_last rest _ 7 hd y ha.rest tg hy h10
  · exact absurd rfl q
theorem up_ok {t : List Class} {p : List Line} (h : ValidP t p) {J : Nat} (hk : kd p J = 2 ∨ kd p J = 4) (hJ : J < p.length) (hw : ∀ y ∈ wayL p (enD p (dp p J) J), kd p y ≠ 11 → plainB p y) (hc : kd p J = 2 → NoCatch t p (ak p J) (enD p (dp p J) J)) : UpOk t p J := by
  refine ⟨hk, fun x hlt hx h11 h2 => ?_, fun x hlt hx h7 h2 => ?_, fun x hd hlt hx hkx h7 hm y hy h10 => ?_⟩
  · exact (hc h2 x (en_in hlt hx)).1 h11
  · exact (hc h2 x (en_in hlt hx)).2 h7
  · have hl : hd < p.length := by
      apply Classical.byContradiction
      intro q
      unfold kd at h7
      rw [List.getD_eq_getElem?_getD, List.getElem?_eq_none (by omega)] at h7
      exact absurd h7 (by decide)
    have e1 := tryOfP_at h7 hl hm
    have e2 := ten_lastP h hl h7 hy h10
    have := wayL_in (p := p) (en_in hlt hx) hkx (by rw [e1, e2]; exact h10)
    rw [e1, e2] at this
    exact hw y this (by rw [h10]; decide)
end
section
open Go Go.Sim
set_option maxRecDepth 100000
set_option maxHeartbeats 4000000

theorem At.sub {p : List Line} {i : Nat} {d : Int} {f : Fo} (h : At p i d f) : (p.take (i + f.size)).drop i = f.flat d := by
  obtain ⟨pre, post, rfl, rfl, _⟩ := h
  have e1 : (pre ++ (f.flat d ++ post)).take (pre.length + f.size) = pre ++ f.flat d := by
    rw [← List.append_assoc, ← flat_len f d, ← List.length_append, List.take_left]
  rw [e1, List.drop_left]
theorem app_lines {H0 H : AHeap} {x : AV} {out m : List Line} {es : List (List AV)} {cl : Bool} {K : AV → AHeap → Prop} {g : Tag (H, K)} (hg : Grow rLine 4 44 H0 H x out) (hb : out.length + m.length ≤ 1000000) (he : es = m.map rLine) (k : ∀ x' H', Grow rLine 4 44 H0 H' x' (out ++ m) → K x' H') : appT Tryz.prog H 26 x (.vsl es cl) K g :=
  grow_append (m := m) te26 ti44 rLine_len (by decide) hg (by show (out.length + m.length) * 32 ≤ _; omega) (by omega) he fun x' H'' hg' => k x' H'' hg'
end
end
end Go.Proofs.YtoacjmckefahcaaGreat
