/- Walks and plain laws that the claims of this seat lean on. No condition. -/
import Derived.Test.YtjpfgafdjlkblaaGreatJ5
import Derived.Test.YtjpfgafdjlkblaaGreatJ2
import Derived.Test.YtjpfgafdjlkblaaGreatSimY
import Derived.Lib.ItoaNum
import Derived.Test.YtjpfgafdjlkblaaGreatJ1
import Derived.Test.YtjpfgafdjlkblaaGreatSimZ
import Derived.Test.YtjpfgafdjlkblaaGreatGrow
set_option linter.unusedVariables false
set_option linter.unusedSimpArgs false
namespace Go.Proofs.YtjpfgafdjlkblaaGreat
open Go Go.Sim
section
set_option maxRecDepth 100000
attribute [local go_sem ↓] aw_skip aw_ret aw_exit aw_region aw_draw aw_seq aw_block aw_loop aw_cond frz_nil frz_cons sq_normal sq_ret sq_exit exB_normal exB_ret exB_same exB_other retQ_ret retQ_normal ret0_ret ret0_normal ao_nil go1 g_move g_assign g_pick g_build g_load g_binOp g_unOp g_convert g_fieldAddr g_field g_indexAddr g_index g_extract g_lookup g_slice g_nilCheck g_len g_makeFunc h_call h_append h_alloc h_box h_buildSlice h_makeSlice h_store gV i_box i_buildSlice i_move i_assign i_build i_load i_binOp i_unOp i_convert i_fieldAddr i_field i_indexAddr i_index i_extract i_lookup i_makeMap i_mapUpdate i_slice i_nilCheck i_makeFunc i_len i_max i_min i_alloc i_makeSlice i_store i_append i_call i_pick boxI boxA buildSliceI buildSliceA makeSliceA makeMapA allocA storeA p_move p_assign p_pick p_build p_load p_binOp p_unOp p_convert p_fieldAddr p_field p_indexAddr p_index p_extract p_lookup p_makeMap p_mapUpdate p_slice p_nilCheck p_makeFunc p_len p_max p_min p_alloc p_box p_buildSlice p_makeSlice p_store p_append p_call x_nil x_go1 x_g0 x_g1 x_g2 x_g3 x_s0 x_s1 x_s2 x_s3 u_move u_assign u_pick u_build u_load u_binOp u_unOp u_convert u_fieldAddr u_field u_indexAddr u_index u_extract u_lookup u_slice u_nilCheck u_makeFunc u_len u_buildSlice x_s4 x_g4 rq_normal rq_ret rq_exit aw_range
attribute [local go_sem] frzV_sl frzK_some set_none set_other AHeap.set_self set_del set_set cnd_t cnd_f cnd_b retA_one retA_two retA_three retA_four retA_nil gIf_b mrgV_b mrgV_wh mrgV_U gIf_U gIf_wh mrgB_f mrgB_some mrgB_if wh_true wh_false keepA_some keepA_if gD_zero gD_succ gT_some bxA_t bxA_f callA_fn ev_tmp ev_const ev_global ev_func oc_bool oc_int oc_string oc_nil oc_nilptr oc_nilfunc cl_bool cl_int cl_string cl_nil updO_some updO_none upd_same upd_other init_at pickA_b pickA_wh selA_t selA_f selA_and selA_or selA_orn selA_orm selA_bb selA_ii beqt b_add b_sub b_mul b_and b_or b_xor b_eql b_neq b_lss b_leq b_gtr b_geq b_quo b_rem b_shr b_seql b_sneq b_sadd b_beql b_bneq b_aeql b_aneq u_not u_neg isConstOp eqA eqCellV List.getD_cons_zero List.getD_cons_succ List.map_cons List.map_nil List.nil_append List.cons_append List.append_nil if_true if_false Option.map_some Option.map_none ne_eq not_false_eq_true oneA ldv ld1v ld1s wr1s ldRow stRow row_lit row_agg row_vsl row_sl row_ptr row_fn one_I one_B one_S one_vsl one_sl one_ptr one_fn extractA okA rI rS rU rClass rFault rExit rStart rLine Int.toNat_natCast List.length_cons List.length_nil List.length_map List.all_cons List.all_nil Bool.and_true Nat.zero_add List.getElem?_cons_zero List.getElem?_cons_succ List.take_succ_cons List.take_zero List.drop_succ_cons List.drop_zero and_self true_and and_true implies_true decide_eq_true_eq decide_eq_false_iff_not Bool.or_eq_true Bool.or_eq_false_iff Bool.and_eq_true Bool.not_eq_true' Bool.not_eq_false' beq_false decide_true decide_false Int.ofNat_lt Int.ofNat_le Int.natCast_nonneg Bool.or_true Bool.or_false Bool.true_or Bool.false_or beq_self_eq_true List.drop_one Bool.not_true Bool.not_false Bool.not_not Bool.false_eq_true Bool.true_eq_false false_implies true_implies Bool.true_and Bool.false_and Bool.and_false not_true_eq_false Int.natCast_eq_zero Int.natCast_pos Int.natCast_zero false_and and_false or_false false_or or_true true_or Bool.or_self none_le_iff List.replicate_zero Int.toNat_zero List.replicate_succ buildRows List.set_cons_zero List.set_cons_succ List.set_nil List.mapM_nil maxLen_eq Nat.zero_le Nat.mul_one Nat.one_mul bldA fillA spliceA List.take_nil List.drop_nil List.getElem?_nil ld1o wr1o bldSliceA le_same cv_i cvI_t quietT_fn qvd_some ld_o ldO_1 ldO_l wr_o wrO_1 set_2 set_3 set_4 putL_nil putL_cons List.zip_cons_cons List.zip_nil_left List.zip_nil_right List.toList_toArray frzV_set ti1 ti2 tk2 ti3 te3 ts3 tk3 tz3 ti4 tb4 ti5 tk5 tz5 ti9 te9 ts9 tk9 tz9 ti12 tk12 ti13 tp13 tf13_0 tf13_1 ti20 ti21 tk21 tz21 ti22 te22 tz22 ti23 te23 ti24 tp24 tf24_0 ti25 tp25 tf25_0 ti26 te26 ti28 ti29 te29 ti30 te30 ti31 tp31 tf31_0 ti32 tp32 tf32_0 ti33 tp33 tf33_0 tf33_1 tf33_2 tf33_3 ti34 tp34 tf34_0 tf34_1 tf34_2 tf34_3 ti35 ti36 ti37 ti39 ti40 tq40 tp40 tf40_0 tf40_1 tf40_2 tf40_3 ti41 tq41 tp41 tf41_0 tf41_1 tf41_2 tf41_3 ti42 ti43 tq43 tp43 tf43_0 tf43_1 tf43_2 ti44 tq44 tp44 tf44_0 tf44_1 tf44_2 ti45 te45 ti46 tq46 tp46 tf46_0 tf46_1 tf46_2 ti47 tq47 tp47 tf47_0 tf47_1 tf47_2 ti49 ti50 ti51 ti53 ti54 ti55 ti56 te56 ti57 tp57 tf57_0 ti58 tp58 tf58_0 ti59 te59 ti60 ti61 ti62 ti63 ti64 ti65 ti66 ti67 ti68 ti69 ti70 ti71 te71 ti72 tq72 tp72 tf72_0 tf72_1 tf72_2 ti73 ti74 ti75 ti76 ti77 ti78 ti79 ti80 ti81 ti82 ti83 ti84 ti85 ti86 ti87 tq87 tp87 tf87_0 tf87_1 ti88 tq88 tp88 tf88_0 tf88_1 ti89 ti90 ti91 ti92 ti93 ti94 ti95 ti96 ti97 ti98 ti99 ti100 ti101 ti102 tq102 tp102 tf102_0 tf102_1 tf102_2 tf102_3 tf102_4 ti103 tq103 tp103 tf103_0 tf103_1 tf103_2 tf103_3 tf103_4 ti104 ti105 ti106 ti107 ti108 ti109 ti110 ti111 ti112 ti113 tq113 tp113 tf113_0 tf113_1 tf113_2 tf113_3 ti114 ti115 ti116 ti117 ti118 ti119 ti120 tq120 tp120 tf120_0 tf120_1 tf120_2 ti121 ti122 ti123 ti124 ti125 ti126 tp126 tf126_0 tf126_1 ti127 tp127 tf127_0 tf127_1 ti128 tp128 tf128_0 tf128_1 tf128_2 tf128_3 tf128_4 ti129 tp129 tf129_0 tf129_1 tf129_2 tf129_3 tf129_4 ti131 ti132 ti133 ti134 ti135 ti136 ti137 tp137 tf137_0 tf137_1 tf137_2 tf137_3 ti138 tp138 tf138_0 tf138_1 tf138_2 tf138_3 ti139 tq139 tp139 tf139_0 tf139_1 ti140 tq140 tp140 tf140_0 tf140_1 ti141 ti142 ti143 tq143 tp143 tf143_0 tf143_1 ti144 tq144 tp144 tf144_0 tf144_1 ti145 ti146 ti147 ti148 ti149 te149 ti150 ti151 te151 ti152 ti153 ti154 ti155 ti156 ti157 ti158 tp158 tf158_0 tf158_1 tf158_2 ti159 tp159 tf159_0 tf159_1 tf159_2 ti160 ti161 ti162 ti163 ti164 ti165 ti166 ti167 ti168 ti169 tq169 tp169 tf169_0 tf169_1 ti170 ti171 ti172 ti173 ti174 ti175 ti176 ti177 te177 ti178 ti179 ti180 ti181 ti182 ti183 ti184 ti185 ti186 ti187 ti188 ti189 ti190 ti191 ti192 ti193 ti194 ti195 ti196 ti197 ti198 ti199 ti200 ti201 ti202 ti203 ti204 ti205 tk205 tz205 ti206 ti207 ti208 ti209 tk209 ti211 ti212 ti213 ti215 ti216 ti217 tk217 tz217 ti218 ti219 tk219 tz219 ti220 tk220 ti221 ti222 ti223 ti224 ti225 ti226 ti228 ti229 ti235 ti239 ti244 fp13_0 fv13_0 fp13_1 fv13_1 fp24_0 fv24_0 fp25_0 fv25_0 fp31_0 fv31_0 fp32_0 fv32_0 fp33_0 fv33_0 fp33_1 fv33_1 fp33_2 fv33_2 fp33_3 fv33_3 fp34_0 fv34_0 fp34_1 fv34_1 fp34_2 fv34_2 fp34_3 fv34_3 fp40_0 fv40_0 fp40_1 fv40_1 fp40_2 fv40_2 fp40_3 fv40_3 fp41_0 fv41_0 fp41_1 fv41_1 fp41_2 fv41_2 fp41_3 fv41_3 fp43_0 fv43_0 fp43_1 fv43_1 fp43_2 fv43_2 fp44_0 fv44_0 fp44_1 fv44_1 fp44_2 fv44_2 fp46_0 fv46_0 fp46_1 fv46_1 fp46_2 fv46_2 fp47_0 fv47_0 fp47_1 fv47_1 fp47_2 fv47_2 fp57_0 fv57_0 fp58_0 fv58_0 fp72_0 fv72_0 fp72_1 fv72_1 fp72_2 fv72_2 fp87_0 fv87_0 fp87_1 fv87_1 fp88_0 fv88_0 fp88_1 fv88_1 fp102_0 fv102_0 fp102_1 fv102_1 fp102_2 fv102_2 fp102_3 fv102_3 fp102_4 fv102_4 fp103_0 fv103_0 fp103_1 fv103_1 fp103_2 fv103_2 fp103_3 fv103_3 fp103_4 fv103_4 fp113_0 fv113_0 fp113_1 fv113_1 fp113_2 fv113_2 fp113_3 fv113_3 fp120_0 fv120_0 fp120_1 fv120_1 fp120_2 fv120_2 fp126_0 fv126_0 fp126_1 fv126_1 fp127_0 fv127_0 fp127_1 fv127_1 fp128_0 fv128_0 fp128_1 fv128_1 fp128_2 fv128_2 fp128_3 fv128_3 fp128_4 fv128_4 fp129_0 fv129_0 fp129_1 fv129_1 fp129_2 fv129_2 fp129_3 fv129_3 fp129_4 fv129_4 fp137_0 fv137_0 fp137_1 fv137_1 fp137_2 fv137_2 fp137_3 fv137_3 fp138_0 fv138_0 fp138_1 fv138_1 fp138_2 fv138_2 fp138_3 fv138_3 fp139_0 fv139_0 fp139_1 fv139_1 fp140_0 fv140_0 fp140_1 fv140_1 fp143_0 fv143_0 fp143_1 fv143_1 fp144_0 fv144_0 fp144_1 fv144_1 fp158_0 fv158_0 fp158_1 fv158_1 fp158_2 fv158_2 fp159_0 fv159_0 fp159_1 fv159_1 fp159_2 fv159_2 fp169_0 fv169_0 fp169_1 fv169_1 lv22 ll22 is22 ix22 sh22 so22 sb22 sm22 sp22 lv23 ll23 is23 ix23 sh23 so23 sb23 sm23 sp23 lv26 ll26 is26 ix26 sh26 so26 sb26 sm26 sp26 lv29 ll29 is29 ix29 sh29 so29 sb29 sm29 sp29 lv30 ll30 is30 ix30 sh30 so30 sb30 sm30 sp30 lv45 ll45 is45 ix45 sh45 so45 sb45 sm45 sp45 lv56 ll56 is56 sp56 lv59 ll59 is59 sp59 lv71 ll71 is71 sp71 lv149 ll149 is149 sp149 lv151 ll151 is151 sp151 lv177 ll177 is177 ix177 sh177 so177 sb177 sm177 sp177 xs9 ls9 sx9 sy9 sz9
section
open Go Go.Sim
set_option maxRecDepth 100000
set_option maxHeartbeats 4000000

theorem c_slineTry {t : List Class} {cl : Bool} {P : List Line} {clp : Bool} {n : Nat} (ht : validT t = true) (ih : SBlkOk t cl P clp n) {i : Nat} {d a b h : Int} {kids rest : Fo} {s : RS} {F H : AHeap} {bs : Nat} {lp : Bool}
    (hn : kids.size + rest.size < n) (hat : At P i d (.node 7 a b kids rest)) (hk : numsF t kids (d + 1) = true) (hr : numsF t rest d = true) (hok : okF kids lp false = true) (hokr : okF rest lp true = true) (hto : tryG 7 (headsK rest) = true) (hs : FsOk t s.fs) (hh : h < s.fs.length)
    (hl : s.log.length + (cost kids + cost rest) ≤ 900000) (hf : s.fs.length + (cost kids + cost rest) ≤ 900000) (hM : StS F H bs t cl P clp s) (hp : P.length ≤ 4398046511104) :
    ACalls Tryz.prog 150 [.ptr bs 4 0 0, I i, I h] H fun r H' =>
      r = .agg (rEn (chainR t rest (i + 1 + kids.size) (runF t kids (i + 1) none h s).1 (runF t kids (i + 1) none h s).1 h (runF t kids (i + 1) none h s).2).1) ∧
      StS F H' bs t cl P clp (chainR t rest (i + 1 + kids.size) (runF t kids (i + 1) none h s).1 (runF t kids (i + 1) none h s).1 h (runF t kids (i + 1) none h s).2).2 := by
  have hi := hat.head.1
  have hx := hat.head.2
  obtain ⟨xl, G, clf, hF, hg1, hb, rfl⟩ := id hM
  refine acalls_of1 Tryz.func150 rfl (by kernel_rfl) rfl rfl (awp_sound (fz := fun r => if r = 1 then [7] else []) (im := fun _ => false) mixed _ _ _ _ (by kernel_rfl) ?_)
  simp +contextual -dsimp -implicitDefEqProofs (maxSteps := 5000000) only [go_sem, reduceIte, reduceCtorEq, Nat.reduceEqDiff, Nat.reduceBEq, Nat.reduceAdd, Nat.reduceLeDiff, Nat.reduceMul, Nat.reduceLT, Int.reduceEq, Int.reduceLT, Int.reduceLE, hi, hx]
  rintro b6 ⟨n1, n2, hn2⟩
  have hF6 : F b6 = none := grow_none hg1 hn2
  have nb6 : ∀ K, (G.set bs K) b6 = none := fun K => by rw [set_other n1]; exact hn2
  rintro b7 hb7
  have key := c_stry ht ih hn hat hk hr hok hokr hto hs hh hl hf (sts_in (K := ⟨2, 140, [[I 0, I 0]]⟩) hM (nb6 _)) hp
  generalize chainR t rest (i + 1 + kids.size) (runF t kids (i + 1) none h s).1 (runF t kids (i + 1) none h s).1 h (runF t kids (i + 1) none h s).2 = r at key ⊢
  refine key.mono ?_
  rintro _ H9 ⟨rfl, hM9⟩
  obtain ⟨H10, rfl, w1, w2⟩ := sts_out hM9 hF6
  simp +contextual -dsimp -implicitDefEqProofs (maxSteps := 5000000) only [go_sem, reduceIte, reduceCtorEq, Nat.reduceEqDiff, Nat.reduceBEq, Nat.reduceAdd, Nat.reduceLeDiff, Nat.reduceMul, Nat.reduceLT, Int.reduceEq, Int.reduceLT, Int.reduceLE, n1, n2, rEn]
  refine retR_less (l := [.agg (rEn r.1)]) (H' := H10) ?_ (le_set w2) ⟨rfl, w1⟩
  simp only [resA, go_sem, reduceIte, reduceCtorEq, Nat.reduceEqDiff, Nat.reduceBEq, Nat.reduceAdd, Nat.reduceLeDiff, Nat.reduceMul, Nat.reduceLT, Int.reduceEq, Int.reduceLT, Int.reduceLE, rEn]
theorem okF_skip {lp : Bool} : ∀ f : Fo, okF f lp true = true → okF (skipF f) lp false = true
  | .nil, _ => rfl
  | .node k a b kids rest, h => by
    simp only [skipF]
    by_cases hk : followsK k = true
    · rw [if_pos hk]; exact okF_skip rest (okF_rest hk h)
    · rw [if_neg hk]
      have : okF (.node k a b kids rest) lp true = okF (.node k a b kids rest) lp false := by
        have hk' : followsK k = false := by simpa using hk
        simp only [okF, hk']; rfl
      rw [← this]; exact h
theorem c_sblkStep {t : List Class} {cl : Bool} {P : List Line} {clp : Bool} {n : Nat} (ht : validT t = true) (hp : P.length ≤ 4398046511104) (ih : SBlkOk t cl P clp n) : SBlkOk t cl P clp (n + 1) := by
  intro f i d h s F H bs lp hfn hat hnf hok hs hh hl hf hM
  have hfl := hat.len
  refine acalls_of1 Tryz.func100 rfl (by kernel_rfl) rfl rfl (awp_sound (fz := fun r => if r = 4 then [10] else []) (im := fun _ => false) mixed _ _ _ _ (by kernel_rfl) ?_)
  simp +contextual -dsimp -implicitDefEqProofs (maxSteps := 5000000) only [go_sem, reduceIte, reduceCtorEq, Nat.reduceEqDiff, Nat.reduceBEq, Nat.reduceAdd, Nat.reduceLeDiff, Nat.reduceMul, Nat.reduceLT, Int.reduceEq, Int.reduceLT, Int.reduceLE]
  intro b8 hb8
  have hF8 := sts_none hM hb8
  refine aloop mixed (fz := fun r => if r = 4 then [10] else []) (im := fun _ => false) (by kernel_rfl) (fun m tm H' => ∃ (g : Fo) (q : Nat) (s' : RS) (H'' : AHeap), m = g.size ∧ At P q d g ∧ numsF t g d = true ∧ okF g lp false = true ∧ g.size ≤ f.size ∧ q + g.size = i + f.size ∧ FsOk t s'.fs ∧ s.fs.length ≤ s'.fs.length ∧ s'.log.length + cost g ≤ 900000 ∧ s'.fs.length + cost g ≤ 900000 ∧ runF t f i none h s = runF t g q none h s' ∧ H' = H''.set b8 ⟨2, 140, [[I 0, I 0]]⟩ ∧ H'' b8 = none ∧ StS F H'' bs t cl P clp s' ∧ tm 0 = .ptr bs 4 0 0 ∧ tm 2 = I (i + f.size : Nat) ∧ tm 3 = I h ∧ tm 8 = .ptr b8 2 0 0 ∧ tm 9 = I q) f.size ⟨f, i, s, H, rfl, hat, hnf, hok, Nat.le_refl _, rfl, hs, Nat.le_refl _, hl, hf, rfl, rfl, hb8, hM, ?_⟩ ?_
  · simp +contextual -dsimp -implicitDefEqProofs (maxSteps := 5000000) only [go_sem, reduceIte, reduceCtorEq, Nat.reduceEqDiff, Nat.reduceBEq, Nat.reduceAdd, Nat.reduceLeDiff, Nat.reduceMul, Nat.reduceLT, Int.reduceEq, Int.reduceLT, Int.reduceLE]
  · rintro m tm _ ⟨g, q, s', H'', rfl, hgat, hgn, hgo2, hgs, hgq, hs', hsl, bl, bf, he, rfl, h8, hM', t0, t2, t3, t8, t9⟩
    cases g with
    | nil =>
      have z : ¬ q < i + f.size := by simp only [Fo.size] at hgq; omega
      rw [he]
      simp +contextual -dsimp -implicitDefEqProofs (maxSteps := 5000000) only [go_sem, reduceIte, reduceCtorEq, Nat.reduceEqDiff, Nat.reduceBEq, Nat.reduceAdd, Nat.reduceLeDiff, Nat.reduceMul, Nat.reduceLT, Int.reduceEq, Int.reduceLT, Int.reduceLE, t0, t2, t3, t8, t9, z]
      refine retR_less (l := [.agg (rEn .next)]) (H' := H'') ?_ (le_set h8) ⟨rfl, hM'⟩
      simp only [resA, go_sem, reduceIte, reduceCtorEq, Nat.reduceEqDiff, Nat.reduceBEq, Nat.reduceAdd, Nat.reduceLeDiff, Nat.reduceMul, Nat.reduceLT, Int.reduceEq, Int.reduceLT, Int.reduceLE, rEn, En.next, t8]
    | node k a b kids rest =>
      have hsz : (Fo.node k a b kids rest).size = 1 + kids.size + rest.size := rfl
      have z : q < i + f.size := by omega
      have hq := hgat.head
      obtain ⟨n1, n2, n3, n4, n5⟩ := numsF_node hgn
      have hMin := sts_in (K := ⟨2, 140, [[I 0, I 0]]⟩) hM' h8
      have adv : ∀ (SZ : Nat) (g' : Fo) (q' : Nat) (s'' : RS) (H3 : AHeap), g'.size < SZ → g'.size ≤ rest.size → At P q' d g' → numsF t g' d = true → okF g' lp false = true → q' + g'.size = i + f.size → runF t (.node k a b kids rest) q none h s' = runF t g' q' none h s'' → FsOk t s''.fs → s.fs.length ≤ s''.fs.length → s''.log.length + cost g' ≤ 900000 → s''.fs.length + cost g' ≤ 900000 → H3 b8 = none → StS F H3 bs t cl P clp s'' →
          ∃ m', m' < SZ ∧ ∃ (g : Fo) (q : Nat) (s' : RS) (H'' : AHeap), m' = g.size ∧ At P q d g ∧ numsF t g d = true ∧ okF g lp false = true ∧ g.size ≤ f.size ∧ q + g.size = i + f.size ∧ FsOk t s'.fs ∧ s.fs.length ≤ s'.fs.length ∧ s'.log.length + cost g ≤ 900000 ∧ s'.fs.length + cost g ≤ 900000 ∧ runF t f i none h s = runF t g q none h s' ∧ H3.set b8 ⟨2, 140, [[I 0, I 0]]⟩ = H''.set b8 ⟨2, 140, [[I 0, I 0]]⟩ ∧ H'' b8 = none ∧ StS F H'' bs t cl P clp s' ∧ I q' = I q :=
        fun SZ g' q' s'' H3 w1 w0 w2 w3 w3b w4 w5 w6 w7 w8 w9 w10 w11 => ⟨g'.size, w1, g', q', s'', H3, rfl, w2, w3, w3b, by omega, w4, w6, w7, w8, w9, by rw [he]; exact w5, rfl, w10, w11, rfl⟩
      have nx := fun H => c_snextLine (clp := clp) H hgat hp
      by_cases k7 : k = 7
      · subst k7
        have hc : cost (.node 7 a b kids rest) = 2 + cost kids + cost rest := cost_node_le (by omega)
        obtain ⟨_, o1, o2, o3⟩ | ⟨_, ⟨_, o1, o2, o3⟩ | ⟨o0, _⟩⟩ := okF_node hgo2
        · cases o1
        · have hto : tryG 7 (headsK rest) = true := by
            unfold tryOkF at o1
            rw [Bool.and_eq_true] at o1
            exact o1.1
          have hgo0 := goes_run ht kids (q + 1) none (d + 1) h s' n4 hs' (by omega) trivial
          have hgl0 := hgo0.len
          have hss := skipN_add rest (q + 1 + kids.size)
          have hsf := skipF_size rest
          have key := c_slineTry (h := h) ht ih (by omega) hgat n4 n5 o2 o3 hto hs' (by omega) (by omega) (by omega) hMin hp
          have hrun := runF_try (t := t) (a := a) (b := b) (kids := kids) (rest := rest) (i := q) (h := h) (s := s')
          simp only [runF_some] at hrun
          generalize runF t kids (q + 1) none h s' = r0 at key hgo0 hgl0 hrun
          obtain ⟨c, hc1, hgo⟩ := goes_chain ht rest (q + 1 + kids.size) r0.1 r0.1 d h r0.2 n5 hgo0.ok (by omega) ⟨hgo0.val, hgo0.val⟩
          have hgl := hgo.len
          generalize chainR t rest (q + 1 + kids.size) r0.1 r0.1 h r0.2 = r at key hgo hgl hrun
          simp +contextual -dsimp -implicitDefEqProofs (maxSteps := 5000000) only [go_sem, reduceIte, reduceCtorEq, Nat.reduceEqDiff, Nat.reduceBEq, Nat.reduceAdd, Nat.reduceLeDiff, Nat.reduceMul, Nat.reduceLT, Int.reduceEq, Int.reduceLT, Int.reduceLE, t0, t2, t3, t8, t9, z]
          refine key.mono ?_
          rintro _ H3 ⟨rfl, hM3⟩
          obtain ⟨H4, rfl, w1, w2⟩ := sts_out hM3 hF8
          obtain ⟨xl4, G4, clf4, hFb4, hg4, hb4, rfl⟩ := id w1
          have w2' := w2
          rw [set_none] at w2'
          obtain ⟨z1, z2, z3⟩ := w2'
          by_cases c0 : r.1.ed = 0
          · simp only [c0, if_true] at hrun
            simp +contextual -dsimp -implicitDefEqProofs (maxSteps := 5000000) only [go_sem, reduceIte, reduceCtorEq, Nat.reduceEqDiff, Nat.reduceBEq, Nat.reduceAdd, Nat.reduceLeDiff, Nat.reduceMul, Nat.reduceLT, Int.reduceEq, Int.reduceLT, Int.reduceLE, rEn, t0, t2, t3, t8, t9, z, z1, z2, c0]
            rintro b10 hb10
            refine (nx _).det ?_
            rw [if_pos rfl]
            simp +contextual -dsimp -implicitDefEqProofs (maxSteps := 5000000) only [go_sem, reduceIte, reduceCtorEq, Nat.reduceEqDiff, Nat.reduceBEq, Nat.reduceAdd, Nat.reduceLeDiff, Nat.reduceMul, Nat.reduceLT, Int.reduceEq, Int.reduceLT, Int.reduceLE, t0, t2, t3, t8, t9, z1, z2]
            exact adv _ (skipF rest) (skipN rest (q + 1 + kids.size)) r.2 _ (by simp only [Fo.size]; omega) hsf hgat.rest.skip (numsF_skip rest n5) (okF_skip rest o3) (by omega) hrun hgo.ok (by omega) (by omega) (by omega) w2 w1
          · simp only [c0, if_false] at hrun
            simp +contextual -dsimp -implicitDefEqProofs (maxSteps := 5000000) only [go_sem, reduceIte, reduceCtorEq, Nat.reduceEqDiff, Nat.reduceBEq, Nat.reduceAdd, Nat.reduceLeDiff, Nat.reduceMul, Nat.reduceLT, Int.reduceEq, Int.reduceLT, Int.reduceLE, rEn, t0, t2, t3, t8, t9, z, z1, z2, c0]
            rintro b10 hb10
            rw [he, hrun]
            refine retR_less (l := [.agg (rEn r.1)]) (H' := G4.set bs _) ?_ (le_set w2) ⟨rfl, w1⟩
            simp only [resA, go_sem, reduceIte, reduceCtorEq, Nat.reduceEqDiff, Nat.reduceBEq, Nat.reduceAdd, Nat.reduceLeDiff, Nat.reduceMul, Nat.reduceLT, Int.reduceEq, Int.reduceLT, Int.reduceLE, rEn, t8]
        · exact absurd rfl o0
      · obtain ⟨_, o1, o2, o3⟩ | ⟨_, ⟨o0, _⟩ | ⟨_, o1, o2, o3, _⟩⟩ := okF_node hgo2
        · cases o1
        · exact absurd o0 k7
        · have hgo := goes_lineR (h := h) (i := q) (body := fun s => runF t kids (q + 1) none h s) (n := cost kids) ht hs' n1 (by omega) (fun s2 hs2 hl2 => goes_run ht kids (q + 1) none (d + 1) h s2 n4 hs2 (by omega) trivial)
          have hgl := hgo.len
          have hrun := runF_line (t := t) (a := a) (b := b) (kids := kids) (rest := rest) (i := q) (h := h) (s := s') k7
          have hcn : cost (.node k a b kids rest) = 2 + (if k = 12 then a.toNat * cost kids else cost kids) + cost rest := rfl
          have key := c_sline (h := h) (lp := lp) ht ih k7 (by omega) hgat n1 n4 o2 o3 hs' (by omega) (by omega) (by omega) hMin hp
          generalize lineR k a b q h (fun s => runF t kids (q + 1) none h s) s' = r at key hgo hgl hrun
          simp +contextual -dsimp -implicitDefEqProofs (maxSteps := 5000000) only [go_sem, reduceIte, reduceCtorEq, Nat.reduceEqDiff, Nat.reduceBEq, Nat.reduceAdd, Nat.reduceLeDiff, Nat.reduceMul, Nat.reduceLT, Int.reduceEq, Int.reduceLT, Int.reduceLE, t0, t2, t3, t8, t9, z]
          refine key.mono ?_
          rintro _ H3 ⟨rfl, hM3⟩
          obtain ⟨H4, rfl, w1, w2⟩ := sts_out hM3 hF8
          obtain ⟨xl4, G4, clf4, hFb4, hg4, hb4, rfl⟩ := id w1
          have w2' := w2
          rw [set_none] at w2'
          obtain ⟨z1, z2, z3⟩ := w2'
          by_cases c0 : r.1.ed = 0
          · simp only [c0, if_true] at hrun
            simp +contextual -dsimp -implicitDefEqProofs (maxSteps := 5000000) only [go_sem, reduceIte, reduceCtorEq, Nat.reduceEqDiff, Nat.reduceBEq, Nat.reduceAdd, Nat.reduceLeDiff, Nat.reduceMul, Nat.reduceLT, Int.reduceEq, Int.reduceLT, Int.reduceLE, rEn, t0, t2, t3, t8, t9, z, z1, z2, c0]
            rintro b10 hb10
            refine (nx _).det ?_
            rw [if_neg k7]
            simp +contextual -dsimp -implicitDefEqProofs (maxSteps := 5000000) only [go_sem, reduceIte, reduceCtorEq, Nat.reduceEqDiff, Nat.reduceBEq, Nat.reduceAdd, Nat.reduceLeDiff, Nat.reduceMul, Nat.reduceLT, Int.reduceEq, Int.reduceLT, Int.reduceLE, t0, t2, t3, t8, t9, z1, z2]
            exact adv _ rest (q + 1 + kids.size) r.2 _ (by simp only [Fo.size]; omega) (Nat.le_refl _) hgat.rest n5 o1 (by omega) hrun hgo.ok (by omega) (by omega) (by omega) w2 w1
          · simp only [c0, if_false] at hrun
            simp +contextual -dsimp -implicitDefEqProofs (maxSteps := 5000000) only [go_sem, reduceIte, reduceCtorEq, Nat.reduceEqDiff, Nat.reduceBEq, Nat.reduceAdd, Nat.reduceLeDiff, Nat.reduceMul, Nat.reduceLT, Int.reduceEq, Int.reduceLT, Int.reduceLE, rEn, t0, t2, t3, t8, t9, z, z1, z2, c0]
            rintro b10 hb10
            rw [he, hrun]
            refine retR_less (l := [.agg (rEn r.1)]) (H' := G4.set bs _) ?_ (le_set w2) ⟨rfl, w1⟩
            simp only [resA, go_sem, reduceIte, reduceCtorEq, Nat.reduceEqDiff, Nat.reduceBEq, Nat.reduceAdd, Nat.reduceLeDiff, Nat.reduceMul, Nat.reduceLT, Int.reduceEq, Int.reduceLT, Int.reduceLE, rEn, t8]
theorem c_sblkAll {t : List Class} {cl : Bool} {P : List Line} {clp : Bool} (ht : validT t = true) (hp : P.length ≤ 4398046511104) : ∀ n, SBlkOk t cl P clp n
  | 0 => fun f i d h s F H bs lp hn => by omega
  | n + 1 => c_sblkStep ht hp (c_sblkAll ht hp n)
end
section
open Go Go.Sim
set_option maxRecDepth 100000
set_option maxHeartbeats 4000000

theorem rel_opn {O : Nat → Prop} {w : World} {es : List (List AV)} {cl : Bool} {v : Value} (h : Rel O w (.vsl es cl) v) : Rel O w (.vsl es false) v := by
  cases h with
  | vnil => exact .vnil false
  | vsl es cl b o sz cap g h1 h2 h3 h4 h5 h6 h7 h8 h9 => exact .vsl es false b o sz cap g h1 h2 (fun q => by cases q) h4 h5 h6 h7 h8 h9
theorem rel_one {O : Nat → Prop} {w : World} {es : List (List AV)} {cl : Bool} {v : Value} (h : Rel O w (.agg [.vsl es cl]) v) : Rel O w (.agg [.vsl es false]) v := by
  cases h with
  | agg _ vs e1 e2 e3 =>
    refine .agg _ vs (by simpa using e1) e2 fun i c u hc hu => ?_
    cases i with
    | zero => simp at hc; subst hc; exact rel_opn (e3 0 _ u rfl hu)
    | succ i => simp at hc
theorem acalls_opn {P : Program} {f : FuncId} {args : List AV} {H : AHeap} {es : List (List AV)} {x : AV} (h : ACalls P f args H fun r H' => (∃ cl, r = .tup [.agg [.vsl es cl], x]) ∧ H' = H) : ACalls P f args H fun r H' => r = .tup [.agg [.vsl es false], x] ∧ H' = H := by
  refine ⟨h.1, fun w vs hh hv => (h.2 w vs hh hv).mono ?_⟩
  rintro e w' ⟨v, r, H', rfl, ⟨⟨cl, rfl⟩, rfl⟩, h1, h2⟩
  refine ⟨v, _, _, rfl, ⟨rfl, rfl⟩, ?_, h2⟩
  cases h1 with
  | tup _ vs e1 e3 =>
    refine .tup _ vs (by simpa using e1) fun i c u hc hu => ?_
    cases i with
    | zero => simp at hc; subst hc; exact rel_one (e3 0 _ u rfl hu)
    | succ i => exact e3 (i + 1) c u (by simpa using hc) hu
/-- The result of a run, as the reference tells it. -/
def resSp (r : En × RS) : Res :=
  if r.1.ed = 2 then ⟨r.2.log, 2, idxF (fun x => decide (r.1.val = x)) (sortedF (dchF r.2.fs r.1.val)), isoL r.2.fs (sortedF (dchF r.2.fs r.1.val))⟩ else ⟨r.2.log, r.1.ed, r.1.val, []⟩
theorem c_srun (t : List Class) (cl : Bool) (p : List Line) (cl' : Bool) (H : AHeap) (hp : p.length ≤ 4398046511104) (hv : ValidP t p) :
    ACalls Tryz.prog 52 [aTree t cl, aProg p cl'] H fun r H' => ∃ xl c2, r = .agg [xl, I (resSp (runP t p)).ed, I (resSp (runP t p)).val, .vsl ((resSp (runP t p)).heap.map rFault) c2] ∧ Grow rI 1 3 H H' xl (resSp (runP t p)).log := by
  obtain ⟨h1, h2, h3, h4, h5, h6⟩ := validP_forest hv
  have hgo := runP_goes hv
  have hgl := hgo.len
  have hat := at_top h2
  have hcs := cost_small h3 h6
  have hlen : ((0 + (forestP p).size : Nat) : Int) = (p.length : Int) := by omega
  refine acalls_of1 Tryz.func52 rfl (by kernel_rfl) rfl rfl (awp_sound (fz := fun r => if r = 2 then [6] else if r = 5 then [8] else []) (im := fun s => s == 2 || s == 12) mixed _ _ _ _ (by kernel_rfl) ?_)
  simp +contextual -dsimp -implicitDefEqProofs (maxSteps := 5000000) only [go_sem, reduceIte, reduceCtorEq, Nat.reduceEqDiff, Nat.reduceBEq, Nat.reduceAdd, Nat.reduceLeDiff, Nat.reduceMul, Nat.reduceLT, Int.reduceEq, Int.reduceLT, Int.reduceLE]
  rintro b4 hb4 bs ⟨n1, n2, hbs⟩
  have hM : StS (H.set b4 ⟨4, 34, [[.vsl [] true, I 0, I 0, .vsl [] true]]⟩) ((H.set b4 ⟨4, 34, [[.vsl [] true, I 0, I 0, .vsl [] true]]⟩).set bs ⟨4, 138, [[.vsl (t.map rClass) cl, aProg p cl', .vsl [] true, .vsl [] true]]⟩) bs t cl p cl' rs0 :=
    ⟨.vsl [] true, _, true, by rw [set_other n1]; exact hbs, grow_nil, by rw [set_other n1]; exact hbs, rfl⟩
  have key := c_sblkAll (cl := cl) (P := p) (clp := cl') h1 hp ((forestP p).size + 1) (forestP p) 0 0 (-1) rs0 _ _ bs false (by omega) hat h3 h4 (fsOk_nil t) (by show (-1 : Int) < 0; omega) (by show 0 + _ ≤ _; omega) (by show 0 + _ ≤ _; omega) hM
  rw [hlen, show ((0 : Nat) : Int) = 0 from rfl] at key
  have er : runF t (forestP p) 0 none (-1) rs0 = runP t p := rfl
  rw [er] at key
  generalize runP t p = r at key hgo hgl ⊢
  refine key.mono ?_
  rintro _ H2 ⟨rfl, hM2⟩
  obtain ⟨xl, G, clf, hF2, hg2, hb2, rfl⟩ := id hM2
  obtain ⟨G2, hg3, rfl, w4⟩ := grow_out hg2 hb4
  rw [set_none] at hb2
  obtain ⟨z1, z2, z3⟩ := hb2
  obtain ⟨q1, q2⟩ := one_grow hg3
  simp +contextual -dsimp -implicitDefEqProofs (maxSteps := 5000000) only [go_sem, reduceIte, reduceCtorEq, Nat.reduceEqDiff, Nat.reduceBEq, Nat.reduceAdd, Nat.reduceLeDiff, Nat.reduceMul, Nat.reduceLT, Int.reduceEq, Int.reduceLT, Int.reduceLE, rEn, z1, z2, q1, q2]
  rintro b6 hb6
  refine draw_intro [0, 0, 0, 1, 0, 1, 0, 1, 0, 3, 2] _ (by kernel_rfl) (AHeap.le_refl _) ?_
  simp +contextual -dsimp -implicitDefEqProofs (maxSteps := 5000000) only [go_sem, reduceIte, reduceCtorEq, Nat.reduceEqDiff, Nat.reduceBEq, Nat.reduceAdd, Nat.reduceLeDiff, Nat.reduceMul, Nat.reduceLT, Int.reduceEq, Int.reduceLT, Int.reduceLE, rEn, z1, z2, q1, q2]
  rintro b7 ⟨d1, d2, d3, d4, m7⟩
  have hle : ∀ K K7, AHeap.le ((G2.set b4 K).set bs ⟨4, 138, [[.vsl (t.map rClass) cl, aProg p cl', xl, .vsl (r.2.fs.map rFault) clf]]⟩) (((G2.set b4 K).set bs ⟨4, 138, [[.vsl (t.map rClass) cl, aProg p cl', xl, .vsl (r.2.fs.map rFault) clf]]⟩).set b7 K7) := fun K K7 => le_set (by rw [set_other d1, set_other d3]; exact m7)
  refine ⟨hle _ _, ?_⟩
  have hle2 : ∀ K S K7, AHeap.le G2 (((G2.set b4 K).set bs S).set b7 K7) := fun K S K7 => AHeap.le_trans (AHeap.le_trans (le_set w4) (le_set (by rw [set_other n1]; exact z3))) (le_set (by rw [set_other d1, set_other d3]; exact m7))
  refine ⟨fun e2 => ?_, fun e2 => ?_⟩
  · have fin : ∀ H', ACalls Tryz.prog 101 [aHeap r.2.fs clf, I r.1.val] H' fun r0 H'' => r0 = .tup [.agg [.vsl ((isoL r.2.fs (sortedF (dchF r.2.fs r.1.val))).map rFault) false], I (idxF (fun x => decide (r.1.val = x)) (sortedF (dchF r.2.fs r.1.val)))] ∧ H'' = H' := fun H' => acalls_opn (c_isolated r.2.fs clf r.1.val _ (by have : (rs0 : RS).fs.length = 0 := rfl; omega) hgo.ok.ho (hgo.val e2).2 (dch_ok hgo.ok.ho (hgo.val e2).2) (dch_len (hgo.val e2).2 (by have : (rs0 : RS).fs.length = 0 := rfl; omega)))
    refine draw_introQ [6] [0, 0, 0, 1, 0, 1, 4, 0, 0, 0, 3, 2, 0] (fun _ => .tup [.agg [.vsl ((isoL r.2.fs (sortedF (dchF r.2.fs r.1.val))).map rFault) false], I (idxF (fun x => decide (r.1.val = x)) (sortedF (dchF r.2.fs r.1.val)))]) _ (by kernel_rfl) (AHeap.le_refl _) ?_
    simp +contextual -dsimp -implicitDefEqProofs (maxSteps := 5000000) only [go_sem, reduceIte, reduceCtorEq, Nat.reduceEqDiff, Nat.reduceBEq, Nat.reduceAdd, Nat.reduceLeDiff, Nat.reduceMul, Nat.reduceLT, Int.reduceEq, Int.reduceLT, Int.reduceLE, rEn, z1, z2, q1, q2, d1, d2, d3, d4]
    refine ⟨fun H' _ => fin H', ?_⟩
    rintro b8 ⟨f1, f2, f3, f4, f5, f6, m8⟩
    refine ⟨le_set (by rw [set_other f1, set_other f3, set_other f5]; exact m8), ?_⟩
    have hr : resSp r = ⟨r.2.log, 2, idxF (fun x => decide (r.1.val = x)) (sortedF (dchF r.2.fs r.1.val)), isoL r.2.fs (sortedF (dchF r.2.fs r.1.val))⟩ := by unfold resSp; rw [if_pos e2]
    refine retR_less (l := [.agg [xl, I (resSp r).ed, I (resSp r).val, .vsl ((resSp r).heap.map rFault) false]]) (H' := G2) ?_ (hle2 _ _ _) ⟨xl, false, rfl, ?_⟩
    · rw [hr]
      simp only [resA, go_sem, reduceIte, reduceCtorEq, Nat.reduceEqDiff, Nat.reduceBEq, Nat.reduceAdd, Nat.reduceLeDiff, Nat.reduceMul, Nat.reduceLT, Int.reduceEq, Int.reduceLT, Int.reduceLE, rEn, n1, n2, d1, d2, d3, d4, e2]
    · rw [hr]; exact hg3
  · refine retR_less (l := [.agg [xl, I (resSp r).ed, I (resSp r).val, .vsl ((resSp r).heap.map rFault) true]]) (H' := G2) ?_ (hle2 _ _ _) ⟨xl, true, rfl, ?_⟩
    · have hr : resSp r = ⟨r.2.log, r.1.ed, r.1.val, []⟩ := by unfold resSp; rw [if_neg e2]
      rw [hr]
      simp only [resA, go_sem, reduceIte, reduceCtorEq, Nat.reduceEqDiff, Nat.reduceBEq, Nat.reduceAdd, Nat.reduceLeDiff, Nat.reduceMul, Nat.reduceLT, Int.reduceEq, Int.reduceLT, Int.reduceLE, rEn, n1, n2, d1, d2, d3, d4]
      try rfl
    · have hr : resSp r = ⟨r.2.log, r.1.ed, r.1.val, []⟩ := by unfold resSp; rw [if_neg e2]
      rw [hr]; exact hg3
end
section
open Go Go.Sim
set_option maxRecDepth 100000

/-- Openings and closings of a log, what is open first: the innermost thing first. -/
def scanB : List Int → List Int → Option (List Int)
  | st, [] => some st
  | st, x :: r => if 200 ≤ x then (match st with | [] => none | y :: st => if y = x - 200 then scanB st r else none) else if 100 ≤ x then scanB ((x - 100) :: st) r else scanB st r
def Bal (l : List Int) : Prop := (∀ st m, scanB st (l ++ m) = scanB st m) ∧ ∀ x ∈ l, 0 ≤ x ∧ x < 1000
theorem bal_nil : Bal [] := ⟨fun _ _ => rfl, fun x h => by cases h⟩
theorem Bal.app {l m : List Int} (h : Bal l) (g : Bal m) : Bal (l ++ m) := ⟨fun st r => by rw [List.append_assoc, h.1, g.1], fun x hx => (List.mem_append.1 hx).elim (h.2 x) (g.2 x)⟩
theorem Bal.wrap {l : List Int} (h : Bal l) {a : Int} (h0 : 0 ≤ a) (h1 : a < 100) : Bal ([100 + a] ++ (l ++ [200 + a])) := by
  refine ⟨fun st m => ?_, fun x hx => ?_⟩
  rotate_left
  · simp only [List.mem_append, List.mem_singleton] at hx
    rcases hx with rfl | hx | rfl
    · omega
    · exact h.2 x hx
    · omega
  show scanB st ((100 + a) :: ((l ++ [200 + a]) ++ m)) = _
  simp only [scanB]
  rw [if_neg (by omega), if_pos (by omega), List.append_assoc, h.1]
  show scanB _ ((200 + a) :: m) = _
  simp only [scanB]
  rw [if_pos (by omega), if_pos (by omega)]
def LogB (s s' : RS) : Prop := ∃ l, s'.log = s.log ++ l ∧ Bal l
theorem LogB.same {s s' : RS} (h : s'.log = s.log) : LogB s s' := ⟨[], by simp [h], bal_nil⟩
theorem LogB.trans {s s' s'' : RS} (h : LogB s s') (g : LogB s' s'') : LogB s s'' := by
  obtain ⟨l, e1, b1⟩ := h
  obtain ⟨m, e2, b2⟩ := g
  exact ⟨l ++ m, by rw [e2, e1, List.append_assoc], b1.app b2⟩
end
section
open Go Go.Sim
set_option maxRecDepth 100000
set_option maxHeartbeats 4000000

theorem top_same {t : List Class} {p : List Line} (h : ValidP t p) : resSp (runP t p) = resOf (runP t p) := by
  have hgo := runP_goes h
  unfold resSp resOf
  split
  · rename_i e2
    rw [sort_same hgo.ok.ho (hgo.val e2).1 (hgo.val e2).2]
  · rfl
theorem c_sRunProgram (t : List Class) (cl : Bool) (p : List Line) (cl' : Bool) (H : AHeap) (hn : namesOk t) (hp : p.length ≤ 4398046511104) :
    ACalls Tryz.prog 12 [aTree t cl, aProg p cl'] H fun r H' => (∃ c1 c2, r = aRes (if validB t p = true then resOf (runP t p) else res0) c1 c2) ∧ H' = H := by
  refine acalls_of1 Tryz.func12 rfl (by kernel_rfl) rfl rfl (awp_sound (fz := fun _ => []) (im := fun s => s == 2) mixed _ _ _ _ (by kernel_rfl) ?_)
  simp +contextual -dsimp -implicitDefEqProofs (maxSteps := 5000000) only [go_sem, reduceIte, reduceCtorEq, Nat.reduceEqDiff, Nat.reduceBEq, Nat.reduceAdd, Nat.reduceLeDiff, Nat.reduceMul, Nat.reduceLT, Int.reduceEq, Int.reduceLT, Int.reduceLE]
  intro b6 hb6
  refine (c_svalidProgram t cl p cl' _ hn hp).det ?_
  cases hv : validB t p
  · simp +contextual -dsimp -implicitDefEqProofs (maxSteps := 5000000) only [go_sem, reduceIte, reduceCtorEq, Nat.reduceEqDiff, Nat.reduceBEq, Nat.reduceAdd, Nat.reduceLeDiff, Nat.reduceMul, Nat.reduceLT, Int.reduceEq, Int.reduceLT, Int.reduceLE]
    refine retR_less (l := [.agg [.vsl [] true, I 0, I 0, .vsl [] true]]) (H' := H) ?_ (le_set hb6) ⟨⟨true, true, rfl⟩, rfl⟩
    simp only [resA, go_sem, reduceIte, reduceCtorEq, Nat.reduceEqDiff, Nat.reduceBEq, Nat.reduceAdd, Nat.reduceLeDiff, Nat.reduceMul, Nat.reduceLT, Int.reduceEq, Int.reduceLT, Int.reduceLE]
  · simp +contextual -dsimp -implicitDefEqProofs (maxSteps := 5000000) only [go_sem, reduceIte, reduceCtorEq, Nat.reduceEqDiff, Nat.reduceBEq, Nat.reduceAdd, Nat.reduceLeDiff, Nat.reduceMul, Nat.reduceLT, Int.reduceEq, Int.reduceLT, Int.reduceLE]
    have hval := validB_true.1 hv
    have key : ∀ H, ACalls Tryz.prog 52 [aTree t cl, aProg p cl'] H fun r H' => (∃ c1 c2, r = aRes (resOf (runP t p)) c1 c2) ∧ H' = H := fun H => by
      refine acalls_fz (c_srun t cl p cl' H hp hval) ?_
      rintro _ H' ⟨xl, c2, rfl, hg⟩
      obtain ⟨c1, hz⟩ := grow_fz hg
      rw [top_same hval] at hz ⊢
      exact ⟨_, H, grow_le hg, fz_agg (.cons hz (.refl _)), ⟨c1, c2, rfl⟩, rfl⟩
    refine (key _).mono ?_
    rintro _ _ ⟨⟨c1, c2, rfl⟩, rfl⟩
    simp +contextual -dsimp -implicitDefEqProofs (maxSteps := 5000000) only [go_sem, reduceIte, reduceCtorEq, Nat.reduceEqDiff, Nat.reduceBEq, Nat.reduceAdd, Nat.reduceLeDiff, Nat.reduceMul, Nat.reduceLT, Int.reduceEq, Int.reduceLT, Int.reduceLE]
    refine retR_less (l := [aRes (resOf (runP t p)) c1 c2]) (H' := H) ?_ (le_set hb6) ⟨⟨c1, c2, rfl⟩, rfl⟩
    simp only [resA, go_sem, reduceIte, reduceCtorEq, Nat.reduceEqDiff, Nat.reduceBEq, Nat.reduceAdd, Nat.reduceLeDiff, Nat.reduceMul, Nat.reduceLT, Int.reduceEq, Int.reduceLT, Int.reduceLE]
theorem res_len2 {t : List Class} {p : List Line} (h : ValidP t p) : (resOf (runP t p)).log.length ≤ 34992 := by
  have := (runP_goes h).len
  have e : (resOf (runP t p)).log = (runP t p).2.log := by unfold resOf; split <;> rfl
  rw [e]
  have : (rs0 : RS).log.length = 0 := rfl
  omega
end
section
open Go Go.Sim
set_option maxRecDepth 100000

/-- A number of a fault, further on. -/
def shv (n : Nat) (v : Int) : Int := if 0 ≤ v then v + n else v
def shf (n : Nat) (x : Fault) : Fault := { x with cause := shv n x.cause, ctx := shv n x.ctx }
/-- How two runs are alike: logs as 'LR' says, faults behind 'F'; 'wk': but for what was handled. -/
structure SimP where
  LR : List Int → List Int → Prop
  F : List Fault
  wk : Bool
structure SR (P : SimP) (s s' : RS) : Prop where
  log : P.LR s.log s'.log
  fs : ∃ X, s'.fs = P.F ++ X ∧ (P.wk = true → X.map (·.cls) = s.fs.map (·.cls)) ∧ (P.wk = false → X = s.fs.map (shf P.F.length))
def HR (P : SimP) (h h' : Int) : Prop := (0 ≤ h ∧ h' = h + P.F.length) ∨ (h < 0 ∧ (P.wk = true ∨ h' < 0))
section
variable {P : SimP}
theorem SR.len {s s' : RS} (h : SR P s s') : s'.fs.length = P.F.length + s.fs.length := by
  obtain ⟨X, e, h1, h2⟩ := h.fs
  have : X.length = s.fs.length := by
    cases hw : P.wk
    · rw [h2 hw, List.length_map]
    · have := congrArg List.length (h1 hw)
      simpa using this
  rw [e, List.length_append, this]
theorem SR.cls {s s' : RS} (h : SR P s s') {v : Int} (hv : 0 ≤ v) : clsOf s' (v + P.F.length) = clsOf s v := by
  obtain ⟨X, e, h1, h2⟩ := h.fs
  have hc : X.map (·.cls) = s.fs.map (·.cls) := by
    cases hw : P.wk
    · rw [h2 hw, List.map_map]; rfl
    · exact h1 hw
  have hg : ∀ (l : List Fault) (k : Nat), (l.getD k default).cls = (l.map (·.cls)).getD k (default : Fault).cls := fun l k => by
    simp only [List.getD_eq_getElem?_getD, List.getElem?_map]
    cases l[k]? <;> rfl
  unfold clsOf
  have e2 : (v + (P.F.length : Int)).toNat = P.F.length + v.toNat := by omega
  rw [e, e2]
  have e3 : (P.F ++ X).getD (P.F.length + v.toNat) default = X.getD v.toNat default := by
    simp only [List.getD_eq_getElem?_getD]
    rw [List.getElem?_append_right (by omega), Nat.add_sub_cancel_left]
  rw [e3, hg, hg, hc]
theorem SR.tell {s s' : RS} (h : SR P s s') {n n' : Int} (hl : P.LR s.log s'.log → P.LR (s.log ++ [n]) (s'.log ++ [n'])) : SR P (s.tell n) (s'.tell n') := ⟨hl h.log, h.fs⟩
theorem SR.jump {s s' : RS} (h : SR P s s') (k : Int) (i i' : Nat) : SR P (s.jump k i) (s'.jump k i') := by
  unfold RS.jump
  constructor
  · split <;> split <;> exact h.log
  · split <;> split <;> exact h.fs
theorem SR.raise {s s' : RS} (h : SR P s s') (c d : Int) {g g' : Int} (hg : HR P g g') : SR P (s.raise c d g) (s'.raise c d g') := by
  refine ⟨h.log, ?_⟩
  obtain ⟨X, e, h1, h2⟩ := h.fs
  refine ⟨X ++ [⟨c, d, -1, if 0 ≤ g' then g' else -1, false⟩], ?_, fun q => ?_, fun q => ?_⟩
  · show raiseF s'.fs c d g' = _
    unfold raiseF
    rw [e, List.append_assoc]
  · show _ = (raiseF s.fs c d g).map (·.cls)
    unfold raiseF
    rw [List.map_append, List.map_append, h1 q]; rfl
  · show _ = (raiseF s.fs c d g).map (shf P.F.length)
    unfold raiseF
    rw [List.map_append, ← h2 q]
    congr 1
    rcases hg with ⟨g0, rfl⟩ | ⟨g0, g1⟩
    · have h3 : 0 ≤ g + (P.F.length : Int) := by omega
      simp [shf, shv, g0, h3]
    · have g2 : g' < 0 := by
        rcases g1 with g1 | g1
        · rw [q] at g1; cases g1
        · exact g1
      have n1 : ¬ 0 ≤ g := by omega
      have n2 : ¬ 0 ≤ g' := by omega
      simp [shf, shv, n1, n2]
end
end
section
open Go Go.Sim
set_option maxRecDepth 100000

/-- How lines may end, in a loop or not. -/
def EdOk (lp : Bool) (e : En) : Prop := (e.ed = 0 → e.val = 0) ∧ (e.ed = 0 ∨ e.ed = 1 ∨ e.ed = 2 ∨ (lp = true ∧ (e.ed = 3 ∨ e.ed = 4)))
theorem EdOk.up {e : En} {lp : Bool} (h : EdOk false e) : EdOk lp e := ⟨h.1, by have := h.2; simp at this; omega⟩
/-- Runs that are the same but for where the first jump is. -/
def REq (r r' : En × RS) : Prop := r'.1 = r.1 ∧ r'.2.log = r.2.log ∧ r'.2.fs = r.2.fs
theorem REq.refl (r : En × RS) : REq r r := ⟨rfl, rfl, rfl⟩
theorem REq.symm {r r' : En × RS} (h : REq r r') : REq r' r := ⟨h.1.symm, h.2.1.symm, h.2.2.symm⟩
theorem REq.trans {r r' r'' : En × RS} (h : REq r r') (g : REq r' r'') : REq r r'' := ⟨g.1.trans h.1, g.2.1.trans h.2.1, g.2.2.trans h.2.2⟩
theorem REq.res {r r' : En × RS} (h : REq r r') : resOf r' = resOf r := by
  unfold resOf
  rw [h.1, h.2.1, h.2.2]
/-- Logs and faults go on behind others. -/
abbrev behind (L : List Int) (F : List Fault) (wk : Bool) : SimP := ⟨fun l l' => l' = L ++ l, F, wk⟩
end
section
open Go Go.Sim
set_option maxRecDepth 100000
/-- A fault isolated: its number, and the faults. -/
def isoR (fs : List Fault) (v : Int) : Int × List Fault := (idxF (fun x => decide (v = x)) (sortI (bfsF fs v)), isoL fs (sortI (bfsF fs v)))
theorem sort_dch {h : List Fault} (ho : heapOk h) {f : Int} (h0 : 0 ≤ f) (h1 : f < h.length) : sortI (bfsF h f) = (dchF h f).reverse := by
  rw [bfsF_dch ho h0 h1]
  exact sortI_dec (dchG_dec ho (f + 1).toNat f h1).1
section
variable {F h : List Fault}
theorem dch_pre {X : List Fault} (ho : heapOk F) : ∀ (m : Nat) (v : Int), v < F.length → dchG (F ++ X) m v = dchG F m v
  | 0, v, _ => rfl
  | m + 1, v, hv => by
    simp only [dchG]
    split
    · rename_i h0
      obtain ⟨o1, o2, o3⟩ := ho v.toNat (by omega)
      have e : ctxOf (F ++ X) v = ctxOf F v := by
        unfold ctxOf
        simp only [List.getD_eq_getElem?_getD]
        rw [List.getElem?_append_left (by omega)]
      have e3 : ctxOf F v < F.length := by
        have : ctxOf F v < v.toNat := o3
        omega
      rw [e, dch_pre ho m _ e3]
    · rfl
end
theorem res_two {r : En × RS} (h : r.1.ed = 2) : resOf r = ⟨r.2.log, 2, (isoR r.2.fs r.1.val).1, (isoR r.2.fs r.1.val).2⟩ := by unfold resOf isoR; rw [if_pos h]
theorem res_else {r : En × RS} (h : r.1.ed ≠ 2) : resOf r = ⟨r.2.log, r.1.ed, r.1.val, []⟩ := by unfold resOf; rw [if_neg h]
end
section
open Go Go.Sim
set_option maxRecDepth 100000

/-- How many faults a fault has behind it, itself counted. -/
def dep (fs : List Fault) (v : Int) : Nat := (dchF fs v).length
theorem dep_neg {fs : List Fault} {v : Int} (h : v < 0) : dep fs v = 0 := by unfold dep; rw [dchF_neg h]; rfl
theorem dep_pre {F X : List Fault} (ho : heapOk F) {v : Int} (h : v < F.length) : dep (F ++ X) v = dep F v := by
  unfold dep dchF
  rw [dch_pre ho _ v h]
theorem dep_new {fs : List Fault} (ho : heapOk fs) {c d g : Int} (hg : g < fs.length) : dep (raiseF fs c d g) fs.length = dep fs g + 1 := by
  have ho' := raiseF_ok (cls := c) (code := d) ho hg
  have hl : (raiseF fs c d g).length = fs.length + 1 := raiseF_len
  have e : ctxOf (raiseF fs c d g) fs.length = if 0 ≤ g then g else -1 := by
    unfold ctxOf raiseF
    simp [List.getD_eq_getElem?_getD]
  unfold dep
  rw [dchF_step ho' (by omega) (by omega), e, List.length_cons]
  by_cases q : 0 ≤ g
  · rw [if_pos q]
    have := dep_pre (X := [⟨c, d, -1, if 0 ≤ g then g else -1, false⟩]) ho hg
    unfold dep at this
    show (dchF (fs ++ _) g).length + 1 = _
    rw [this]
  · rw [if_neg q, dchF_neg (by omega), dchF_neg (by omega)]
def DepOk (fs : List Fault) (N : Nat) (e : En) : Prop := e.ed = 2 → dep fs e.val ≤ N
theorem DepOk.up {fs : List Fault} {N M : Nat} {e : En} (h : DepOk fs N e) (hm : N ≤ M) : DepOk fs M e := fun q => Nat.le_trans (h q) hm
theorem Goes.dep {t : List Class} {n : Nat} {s : RS} {e : En} {s' : RS} (h : Goes t n s e s') (ho : heapOk s.fs) {v : Int} (hv : v < s.fs.length) : dep s'.fs v = dep s.fs v := by
  obtain ⟨l, e1, _⟩ := h.fs
  rw [e1]; exact dep_pre ho hv
theorem dep_lineS {s : RS} (ho : heapOk s.fs) {k a b h : Int} {N : Nat} (hh : h < s.fs.length) (hN : dep s.fs h ≤ N) : DepOk (lineS k a b h s).2.fs (N + 1) (lineS k a b h s).1 := by
  unfold lineS
  split
  · exact fun q => by cases q
  · split
    · intro _
      show dep (raiseF s.fs a b h) s.fs.length ≤ N + 1
      rw [dep_new ho hh]; omega
    · split
      · split
        · intro _
          show dep (raiseF s.fs 0 0 (-1)) s.fs.length ≤ N + 1
          rw [dep_new ho (by omega), dep_neg (by omega)]; omega
        · intro _
          show dep s.fs h ≤ N + 1
          omega
      · split
        · exact fun q => by cases q
        · split
          · exact fun q => by cases q
          · split
            · exact fun q => by cases q
            · exact fun q => by cases q
theorem dep_run {t : List Class} (ht : validT t = true) : ∀ (f : Fo) (i : Nat) (pd : Option (En × En)) (d h : Int) (s : RS) (N : Nat), numsF t f d = true → FsOk t s.fs → h < s.fs.length → PdOk s pd → dep s.fs h ≤ N → (∀ q, pd = some q → DepOk s.fs N q.1 ∧ DepOk s.fs N q.2) → DepOk (runF t f i pd h s).2.fs (N + f.size) (runF t f i pd h s).1 := by
  intro f
  induction f with
  | nil =>
    intro i pd d h s N _ hs _ _ _ hq
    cases pd with
    | none => exact fun q => by cases q
    | some q =>
      simp only [runF]
      split
      · exact fun q => by cases q
      · exact ((hq q rfl).2).up (by omega)
  | node k a b kids rest ihk ihr =>
    intro i pd d h s N hn hs hh hp hN hq
    obtain ⟨n1, n2, n3, n4, n5⟩ := numsF_node hn
    have esz : (Fo.node k a b kids rest).size = 1 + kids.size + rest.size := rfl
    have hline : k ≠ 7 → DepOk ((fun r : En × RS => if r.1.ed = 0 then runF t rest (i + 1 + kids.size) none h r.2 else r) (lineR k a b i h (fun s => runF t kids (i + 1) none h s) s)).2.fs (N + (Fo.node k a b kids rest).size) ((fun r : En × RS => if r.1.ed = 0 then runF t rest (i + 1 + kids.size) none h r.2 else r) (lineR k a b i h (fun s => runF t kids (i + 1) none h s) s)).1 := by
      intro _
      have hg := goes_lineR (i := i) (body := fun s => runF t kids (i + 1) none h s) (n := cost kids) ht hs n1 hh (fun s' hs' hl => goes_run ht kids (i + 1) none (d + 1) h s' n4 hs' (by omega) trivial)
      have h1 : DepOk (lineR k a b i h (fun s => runF t kids (i + 1) none h s) s).2.fs (N + 1 + kids.size) (lineR k a b i h (fun s => runF t kids (i + 1) none h s) s).1 := by
        unfold lineR
        by_cases k11 : k = 11
        · rw [if_pos k11]
          have h2 := ihk (i + 1) none (d + 1) h (s.tell (100 + a)) N n4 hs hh trivial hN (fun q hq => by cases hq)
          unfold withS
          intro q
          by_cases c : (runF t kids (i + 1) none h (s.tell (100 + a))).1.ed = 2 ∧ b = 1
          · simp only [c, and_self, if_true] at q; cases q
          · simp only [c, if_false] at q ⊢
            have := h2 q
            show dep (runF t kids (i + 1) none h (s.tell (100 + a))).2.fs _ ≤ _
            omega
        · rw [if_neg k11]
          by_cases k12 : k = 12
          · rw [if_pos k12]
            have key : ∀ (m : Nat) (s' : RS), FsOk t s'.fs → h < s'.fs.length → dep s'.fs h ≤ N → DepOk (loopS (fun s => runF t kids (i + 1) none h s) m s').2.fs (N + 1 + kids.size) (loopS (fun s => runF t kids (i + 1) none h s) m s').1 := by
              intro m
              induction m with
              | zero => intro s' _ _ _; exact fun q => by cases q
              | succ m ih =>
                intro s' hs' hh' hN'
                have g1 := goes_run ht kids (i + 1) none (d + 1) h s' n4 hs' hh' trivial
                have h2 := ihk (i + 1) none (d + 1) h s' N n4 hs' hh' trivial hN' (fun q hq => by cases hq)
                have gl := g1.len
                simp only [loopS]
                split
                · exact h2.up (by omega)
                · split
                  · exact fun q => by cases q
                  · exact ih _ g1.ok (by omega) (by rw [g1.dep hs'.ho hh']; exact hN')
            exact key _ s hs hh hN
          · rw [if_neg k12]
            have e : (s.jump k i).fs = s.fs := by unfold RS.jump; split <;> rfl
            exact (dep_lineS (by rw [e]; exact hs.ho) (by rw [e]; exact hh) (by rw [e]; exact hN)).up (by omega)
      generalize lineR k a b i h (fun s => runF t kids (i + 1) none h s) s = r at h1 hg ⊢
      have gl := hg.len
      show DepOk (if r.1.ed = 0 then _ else r).2.fs _ (if r.1.ed = 0 then _ else r).1
      split
      · exact (ihr _ none d h r.2 N n5 hg.ok (by omega) trivial (by rw [hg.dep hs.ho hh]; exact hN) (fun q hq => by cases hq)).up (by omega)
      · exact h1.up (by omega)
    have htry : DepOk ((fun r : En × RS => runF t rest (i + 1 + kids.size) (some (r.1, r.1)) h r.2) (runF t kids (i + 1) none h s)).2.fs (N + (Fo.node k a b kids rest).size) ((fun r : En × RS => runF t rest (i + 1 + kids.size) (some (r.1, r.1)) h r.2) (runF t kids (i + 1) none h s)).1 := by
      have hg := goes_run ht kids (i + 1) none (d + 1) h s n4 hs hh trivial
      have h1 := ihk (i + 1) none (d + 1) h s N n4 hs hh trivial hN (fun q hq => by cases hq)
      generalize runF t kids (i + 1) none h s = r at h1 hg ⊢
      have gl := hg.len
      exact (ihr _ (some (r.1, r.1)) d h r.2 (N + kids.size) n5 hg.ok (by omega) ⟨hg.val, hg.val⟩ (by rw [hg.dep hs.ho hh]; omega) (fun q hq => by cases hq; exact ⟨h1, h1⟩)).up (by omega)
    cases pd with
    | none =>
      simp only [runF]
      split
      · exact htry
      · exact hline ‹_›
    | some q =>
      obtain ⟨q1, q2⟩ := hq q rfl
      simp only [runF]
      by_cases hk : followsK k = true
      · simp only [hk, if_true]
        have pass : DepOk (runF t rest (i + 1 + kids.size) (some q) h s).2.fs (N + (Fo.node k a b kids rest).size) (runF t rest (i + 1 + kids.size) (some q) h s).1 :=
          (ihr _ (some q) d h s N n5 hs hh hp hN (fun q' hq' => by cases hq'; exact ⟨q1, q2⟩)).up (by omega)
        have go : ∀ (g : Int) (st : En) (e : En → En), g < s.fs.length → dep s.fs g ≤ N → (st.ed = 2 → 0 ≤ st.val ∧ st.val < s.fs.length) → DepOk s.fs N st → (∀ x : En, e x = x ∨ e x = q.2) →
            DepOk ((fun r : En × RS => runF t rest (i + 1 + kids.size) (some (st, e r.1)) h r.2) (runF t kids (i + 1) none g s)).2.fs (N + (Fo.node k a b kids rest).size) ((fun r : En × RS => runF t rest (i + 1 + kids.size) (some (st, e r.1)) h r.2) (runF t kids (i + 1) none g s)).1 := by
          intro g st e hg0 hgd hst hsd he
          have hg := goes_run ht kids (i + 1) none (d + 1) g s n4 hs hg0 trivial
          have h1 := ihk (i + 1) none (d + 1) g s N n4 hs hg0 trivial hgd (fun q hq => by cases hq)
          generalize runF t kids (i + 1) none g s = r at h1 hg ⊢
          have gl := hg.len
          have hst2 : DepOk r.2.fs (N + kids.size) st := fun z => by
            have := hst z
            rw [hg.dep hs.ho this.2]; have := hsd z; omega
          have he2 : DepOk r.2.fs (N + kids.size) (e r.1) ∧ ((e r.1).ed = 2 → 0 ≤ (e r.1).val ∧ (e r.1).val < r.2.fs.length) := by
            rcases he r.1 with z | z
            · rw [z]; exact ⟨h1, hg.val⟩
            · rw [z]
              refine ⟨fun y => ?_, fun y => ?_⟩
              · rw [hg.dep hs.ho (hp.2 y).2]; have := q2 y; omega
              · have := hp.2 y; omega
          exact (ihr _ (some (st, e r.1)) d h r.2 (N + kids.size) n5 hg.ok (by omega) ⟨fun z => by have := hst z; show 0 ≤ st.val ∧ st.val < (r.2.fs.length : Int); omega, he2.2⟩ (by rw [hg.dep hs.ho hh]; omega) (fun q hq => by cases hq; exact ⟨hst2, he2.1⟩)).up (by omega)
        split
        · split
          · rename_i hc
            exact go q.1.val ⟨-1, 0⟩ (fun r => r) (hp.1 hc.1).2 (q1 hc.1) (fun z => by cases z) (fun z => by cases z) (fun x => .inl rfl)
          · exact pass
        · split
          · split
            · exact go h q.1 (fun r => r) hh hN hp.1 q1 (fun x => .inl rfl)
            · exact pass
          · refine go _ q.1 (fun r => if r.ed = 0 then q.2 else r) ?_ ?_ hp.1 q1 (fun x => ?_)
            · split
              · exact (hp.2 ‹_›).2
              · exact hh
            · split
              · exact q2 ‹_›
              · exact hN
            · show (if _ then _ else _) = x ∨ (if _ then _ else _) = q.2
              split
              · exact .inr rfl
              · exact .inl rfl
      · rw [if_neg hk]
        split
        · split
          · exact htry
          · exact hline ‹_›
        · exact q2.up (by omega)
theorem dep_top {t : List Class} {p : List Line} (h : ValidP t p) (h2 : (runP t p).1.ed = 2) : dep (runP t p).2.fs (runP t p).1.val ≤ 24 := by
  obtain ⟨h1, _, h3, h4, h5, h6⟩ := validP_forest h
  have := dep_run h1 (forestP p) 0 none 0 (-1) rs0 0 h3 (fsOk_nil t) (by show (-1 : Int) < 0; omega) trivial (by rw [dep_neg (by omega)]; omega) (fun q hq => by cases hq) h2
  rw [Nat.zero_add] at this
  exact Nat.le_trans this h6
end
section
open Go Go.Sim
set_option maxRecDepth 100000
def linkF (n : Nat) (f to : Int) : Bool := decide (to = -1) || (inR to 0 (n - 1) && !decide (to = f))
theorem chainF_in {h : List Fault} (hc : ∀ k, k < h.length → (h.getD k default).ctx < h.length) {f : Int} (hf : f < h.length) {a : Int} (ha : a ∈ chainF h f) : 0 ≤ a ∧ a < h.length := by
  have := walkG_mem (nx := ctxOf h) (p := fun a => a < h.length) (fun a a0 a1 => hc a.toNat (by omega)) (h.length + 1) [] f hf a ha
  simpa using this
def lastI (l : List Int) : Int := l.getD (l.length - 1) default
theorem lastI_in {h : List Fault} (hc : ∀ k, k < h.length → (h.getD k default).ctx < h.length) {f : Int} (h0 : 0 ≤ f) (hf : f < h.length) : 0 ≤ lastI (chainF h f) ∧ lastI (chainF h f) < h.length := by
  have hne := List.length_pos_iff.2 (chainF_ne (h := h) h0)
  apply chainF_in hc hf
  have : (chainF h f).length - 1 < (chainF h f).length := by omega
  unfold lastI
  rw [List.getD_eq_getElem?_getD, List.getElem?_eq_getElem this]
  exact List.getElem_mem this
def faultOk (t : List Class) (h : List Fault) (k : Nat) : Bool := hasF t (h.getD k default).cls && inR (h.getD k default).code 0 99 && linkF h.length k (h.getD k default).cause && linkF h.length k (h.getD k default).ctx
def lastOk (h : List Fault) (k : Nat) : Bool := decide (ctxOf h (lastI (chainF h k)) = -1)
def validH (t : List Class) (h : List Fault) : Bool := (List.range h.length).all (faultOk t h) && ((List.range h.length).all (lastOk h) && (validT t && decide (h.length ≤ 24)))
end
section
open Go Go.Sim
set_option maxRecDepth 100000

theorem getD_app {α : Type} {a b : List α} {d : α} {i : Nat} (h : i < a.length) : (a ++ b).getD i d = a.getD i d := by
  rw [List.getD_eq_getElem?_getD, List.getD_eq_getElem?_getD, List.getElem?_append_left h]
theorem walkG_step {nx : Int → Int} : ∀ (n : Nat) (out : List Int) (f : Int), (∀ i, i + 1 < out.length → out.getD (i + 1) default = nx (out.getD i default)) → (∀ i, i + 1 = out.length → nx (out.getD i default) = f) →
    ∀ i, i + 1 < (walkG nx n out f).length → (walkG nx n out f).getD (i + 1) default = nx ((walkG nx n out f).getD i default)
  | 0, out, f, h, _, i, hi => h i hi
  | n + 1, out, f, h, h2, i, hi => by
    simp only [walkG] at hi ⊢
    by_cases c : 0 ≤ f ∧ (out.any fun x => decide (f = x)) = false
    · rw [if_pos c] at hi ⊢
      refine walkG_step n (out ++ [f]) (nx f) ?_ ?_ i hi
      · intro j hj
        rw [List.length_append, List.length_singleton] at hj
        rcases Nat.lt_or_ge (j + 1) out.length with q | q
        · rw [getD_app q, getD_app (show j < out.length by omega)]
          exact h j q
        · have e : j + 1 = out.length := by omega
          rw [getD_app (show j < out.length by omega), h2 j e, e]
          simp [List.getD_eq_getElem?_getD]
      · intro j hj
        rw [List.length_append, List.length_singleton] at hj
        have e : j = out.length := by omega
        subst e
        simp [List.getD_eq_getElem?_getD]
    · rw [if_neg c] at hi ⊢
      exact h i hi
theorem walkG_pre {nx : Int → Int} : ∀ (n : Nat) (out : List Int) (f : Int) (i : Nat), i < out.length → (walkG nx n out f).getD i default = out.getD i default
  | 0, out, f, i, hi => rfl
  | n + 1, out, f, i, hi => by
    simp only [walkG]
    split
    · rw [walkG_pre n (out ++ [f]) (nx f) i (by simp; omega), getD_app hi]
    · rfl
theorem chain_step {h : List Fault} {g : Int} {i : Nat} (hi : i + 1 < (chainF h g).length) : (chainF h g).getD (i + 1) default = ctxOf h ((chainF h g).getD i default) :=
  walkG_step (h.length + 1) [] g (fun i q => by simp at q) (fun i q => by simp at q) i hi
theorem chain_head {h : List Fault} {g : Int} (h0 : 0 ≤ g) : (chainF h g).getD 0 default = g := by
  unfold chainF walkF
  simp only [walkG]
  rw [if_pos ⟨h0, rfl⟩, walkG_pre _ _ _ 0 (by simp)]
  rfl
/-- Contexts of faults that come to an end. -/
structure Calm (h : List Fault) : Prop where
  ctx : ∀ k, k < h.length → -1 ≤ (h.getD k default).ctx ∧ (h.getD k default).ctx < h.length
  last : ∀ k, k < h.length → lastOk h k = true
theorem Calm.at {h : List Fault} (hc : Calm h) {g : Int} (h0 : 0 ≤ g) (hg : g < h.length) {i : Nat} (hi : i < (chainF h g).length) : (i + 1 < (chainF h g).length ∧ 0 ≤ ctxOf h ((chainF h g).getD i default)) ∨ (i + 1 = (chainF h g).length ∧ ctxOf h ((chainF h g).getD i default) = -1) := by
  rcases Nat.lt_or_ge (i + 1) (chainF h g).length with q | q
  · left
    refine ⟨q, ?_⟩
    rw [← chain_step q, List.getD_eq_getElem?_getD, List.getElem?_eq_getElem q]
    exact (chainF_in (fun k hk => (hc.ctx k hk).2) hg (List.getElem_mem q)).1
  · right
    have e : i + 1 = (chainF h g).length := by omega
    refine ⟨e, ?_⟩
    have := hc.last g.toNat (by omega)
    rw [lastOk, decide_eq_true_eq, lastI, Int.toNat_of_nonneg h0, ← e] at this
    simpa using this
end
section
open Go Go.Sim
set_option maxRecDepth 100000

/-- In so many steps there is nothing more. -/
def EndsAt (nx : Int → Int) : Nat → Int → Prop
  | 0, a => a < 0
  | m + 1, a => 0 ≤ a ∧ EndsAt nx m (nx a)
theorem EndsAt.uniq {nx : Int → Int} : ∀ {m m' : Nat} {a : Int}, EndsAt nx m a → EndsAt nx m' a → m = m'
  | 0, 0, _, _, _ => rfl
  | 0, m' + 1, a, h, h' => by have := h'.1; simp only [EndsAt] at h; omega
  | m + 1, 0, a, h, h' => by have := h.1; simp only [EndsAt] at h'; omega
  | m + 1, m' + 1, a, h, h' => by rw [EndsAt.uniq h.2 h'.2]
def Ends (nx : Int → Int) (a : Int) : Prop := ∃ m, EndsAt nx m a
theorem Ends.neg {nx : Int → Int} {a : Int} (h : a < 0) : Ends nx a := ⟨0, h⟩
theorem Ends.step {nx : Int → Int} {a : Int} (h : Ends nx (nx a)) : Ends nx a := by
  obtain ⟨m, hm⟩ := h
  by_cases c : a < 0
  · exact .neg c
  · exact ⟨m + 1, by omega, hm⟩
theorem Ends.ind {nx : Int → Int} {p : Int → Prop} (h0 : ∀ a, a < 0 → p a) (h1 : ∀ a, 0 ≤ a → p (nx a) → p a) {a : Int} (h : Ends nx a) : p a := by
  obtain ⟨m, hm⟩ := h
  induction m generalizing a with
  | zero => exact h0 a hm
  | succ m ih => exact h1 a hm.1 (ih hm.2)
theorem walkG_end {nx : Int → Int} {n : Nat} (hnx : ∀ a : Int, 0 ≤ a → a < n → nx a < n) : ∀ (m fuel : Nat) (out : List Int) (f : Int), EndsAt nx m f → f < n → (∀ a ∈ out, ∃ m', m < m' ∧ EndsAt nx m' a) → freeN n out < fuel → (out ≠ [] → nx (lastI out) = f) → walkG nx fuel out f ≠ [] → nx (lastI (walkG nx fuel out f)) < 0
  | m, 0, out, f, _, _, _, hfr, _, _ => by omega
  | 0, fuel + 1, out, f, he, hf, ho, hfr, hl, hne => by
    have hf0 : f < 0 := he
    simp only [walkG] at hne ⊢
    rw [if_neg (by omega)] at hne ⊢
    rw [hl hne]; exact hf0
  | m + 1, fuel + 1, out, f, he, hf, ho, hfr, hl, hne => by
    have hany : (out.any fun x => decide (f = x)) = false := by
      rw [List.any_eq_false]
      intro a ha
      obtain ⟨m', h1, h2⟩ := ho a ha
      have : ¬ f = a := by
        rintro rfl
        have := he.uniq h2
        omega
      simpa using this
    simp only [walkG] at hne ⊢
    rw [if_pos ⟨he.1, hany⟩] at hne ⊢
    have := freeN_lt he.1 hf hany
    refine walkG_end hnx m fuel (out ++ [f]) (nx f) he.2 (hnx f he.1 hf) ?_ (by omega) ?_ hne
    · intro a ha
      rcases List.mem_append.1 ha with q | q
      · obtain ⟨m', h1, h2⟩ := ho a q
        exact ⟨m', by omega, h2⟩
      · simp at q; subst q
        exact ⟨m + 1, by omega, he⟩
    · intro _
      congr 1
      simp [lastI, List.getD_eq_getElem?_getD]
theorem Calm.of_ends {h : List Fault} (hc : ∀ k, k < h.length → -1 ≤ (h.getD k default).ctx ∧ (h.getD k default).ctx < h.length) (he : ∀ k : Nat, k < h.length → Ends (ctxOf h) k) : Calm h := by
  refine ⟨hc, fun k hk => ?_⟩
  obtain ⟨m, hm⟩ := he k hk
  have hne := chainF_ne (h := h) (g := k) (by omega)
  have hnx : ∀ a : Int, 0 ≤ a → a < h.length → ctxOf h a < h.length := fun a a0 a1 => (hc a.toNat (by omega)).2
  have := walkG_end hnx m (h.length + 1) [] k hm (by omega) (fun a ha => by cases ha) (by have := freeN_nil h.length; omega) (fun q => absurd rfl q) hne
  have hin := lastI_in (fun k hk => (hc k hk).2) (f := k) (by omega) (by omega)
  have h1 := hc (lastI (chainF h k)).toNat (by omega)
  rw [lastOk, decide_eq_true_eq]
  unfold ctxOf at this ⊢
  unfold chainF walkF at h1 ⊢
  unfold ctxOf at h1 ⊢
  omega
theorem Calm.ends {h : List Fault} (hc : Calm h) {k : Int} (h0 : 0 ≤ k) (hk : k < h.length) : Ends (ctxOf h) k := by
  have hne := List.length_pos_iff.2 (chainF_ne (h := h) h0)
  have key : ∀ j, j < (chainF h k).length → Ends (ctxOf h) ((chainF h k).getD ((chainF h k).length - 1 - j) default) := by
    intro j
    induction j with
    | zero =>
      intro hj
      rcases hc.at h0 hk (i := (chainF h k).length - 1 - 0) (by omega) with ⟨q, _⟩ | ⟨_, q⟩
      · omega
      · exact .step (.neg (by omega))
    | succ j ih =>
      intro hj
      have e : (chainF h k).length - 1 - j = ((chainF h k).length - 1 - (j + 1)) + 1 := by omega
      have := ih (by omega)
      rw [e, chain_step (by omega)] at this
      exact .step this
  have := key ((chainF h k).length - 1) (by omega)
  rw [Nat.sub_self, chain_head h0] at this
  exact this
end
section
open Go Go.Sim
set_option maxRecDepth 100000
theorem Calm.nil : Calm [] := ⟨fun k hk => by simp at hk, fun k hk => by simp at hk⟩
theorem Calm.same {h h' : List Fault} (hc : Calm h) (hl : h'.length = h.length) (hx : ∀ k, k < h.length → (h'.getD k default).ctx = (h.getD k default).ctx) : Calm h' := by
  have e : ∀ a : Int, 0 ≤ a → a < h.length → ctxOf h' a = ctxOf h a := fun a a0 a1 => hx a.toNat (by omega)
  refine .of_ends (fun k hk => ?_) (fun k hk => ?_)
  · rw [hl] at hk ⊢; rw [hx k hk]; exact hc.ctx k hk
  · rw [hl] at hk
    have := hc.ends (k := k) (by omega) (by omega)
    refine Ends.ind (p := fun a => a < h.length → Ends (ctxOf h') a) (fun a q _ => .neg q) (fun a a0 q q1 => .step ?_) this (by omega)
    rw [e a a0 q1]
    exact q (hc.ctx a.toNat (by omega)).2
theorem Calm.add {h : List Fault} (hc : Calm h) {x : Fault} (hx : x.ctx = -1) : Calm (h ++ [x]) := by
  have e1 : ∀ a : Int, 0 ≤ a → a < h.length → ctxOf (h ++ [x]) a = ctxOf h a := fun a a0 a1 => by unfold ctxOf; rw [getD_app (by omega)]
  have e2 : ctxOf (h ++ [x]) h.length = -1 := by unfold ctxOf; simp [List.getD_eq_getElem?_getD, hx]
  refine .of_ends (fun k hk => ?_) (fun k hk => ?_)
  · rw [List.length_append, List.length_singleton] at hk ⊢
    show -1 ≤ ctxOf (h ++ [x]) (k : Int) ∧ ctxOf (h ++ [x]) (k : Int) < ((h.length + 1 : Nat) : Int)
    rcases Nat.lt_or_ge k h.length with q | q
    · rw [e1 k (by omega) (by omega)]
      have := hc.ctx k q
      unfold ctxOf
      simp only [Int.toNat_natCast]
      omega
    · have : k = h.length := by omega
      subst this
      rw [e2]; omega
  · rw [List.length_append, List.length_singleton] at hk
    rcases Nat.lt_or_ge k h.length with q | q
    · have := hc.ends (k := k) (by omega) (by omega)
      refine Ends.ind (p := fun a => a < h.length → Ends (ctxOf (h ++ [x])) a) (fun a q _ => .neg q) (fun a a0 q q1 => .step ?_) this (by omega)
      rw [e1 a a0 q1]
      exact q (hc.ctx a.toNat (by omega)).2
    · have : k = h.length := by omega
      subst this
      exact .step (by rw [e2]; exact .neg (by omega))
end
section
open Go Go.Sim
set_option maxRecDepth 100000

def Links (h : List Fault) : Prop := ∀ k, k < h.length → (h.getD k default).cause < h.length ∧ (h.getD k default).ctx < h.length
theorem Nums.app {n : Nat} {out : List Int} (h : Nums n out) {g : Int} (h0 : 0 ≤ g) (hg : g < n) (ha : (out.any fun x => decide (g = x)) = false) : Nums n (out ++ [g]) := by
  have := h.add hg
  unfold addF at this
  rwa [if_pos ⟨h0, ha⟩] at this
end
end
section
set_option maxRecDepth 100000
attribute [local go_sem ↓] aw_skip aw_ret aw_exit aw_region aw_draw aw_seq aw_block aw_loop aw_cond frz_nil frz_cons sq_normal sq_ret sq_exit exB_normal exB_ret exB_same exB_other retQ_ret retQ_normal ret0_ret ret0_normal ao_nil go1 g_move g_assign g_pick g_build g_load g_binOp g_unOp g_convert g_fieldAddr g_field g_indexAddr g_index g_extract g_lookup g_slice g_nilCheck g_len g_makeFunc h_call h_append h_alloc h_box h_buildSlice h_makeSlice h_store gV i_box i_buildSlice i_move i_assign i_build i_load i_binOp i_unOp i_convert i_fieldAddr i_field i_indexAddr i_index i_extract i_lookup i_makeMap i_mapUpdate i_slice i_nilCheck i_makeFunc i_len i_max i_min i_alloc i_makeSlice i_store i_append i_call i_pick boxI boxA buildSliceI buildSliceA makeSliceA makeMapA allocA storeA p_move p_assign p_pick p_build p_load p_binOp p_unOp p_convert p_fieldAddr p_field p_indexAddr p_index p_extract p_lookup p_makeMap p_mapUpdate p_slice p_nilCheck p_makeFunc p_len p_max p_min p_alloc p_box p_buildSlice p_makeSlice p_store p_append p_call x_nil x_go1 x_g0 x_g1 x_g2 x_g3 x_s0 x_s1 x_s2 x_s3 u_move u_assign u_pick u_build u_load u_binOp u_unOp u_convert u_fieldAddr u_field u_indexAddr u_index u_extract u_lookup u_slice u_nilCheck u_makeFunc u_len u_buildSlice
attribute [local go_sem] frzV_ptr frzV_sl frzK_some set_none set_other AHeap.set_self set_del set_set cnd_t cnd_f cnd_b retA_one retA_two retA_three retA_four retA_nil gIf_b mrgV_b mrgV_wh mrgV_U gIf_U gIf_wh mrgB_f mrgB_some mrgB_if wh_true wh_false keepA_some keepA_if gD_zero gD_succ gT_some bxA_t bxA_f callA_fn ev_tmp ev_const ev_global ev_func oc_bool oc_int oc_string oc_nil oc_nilptr oc_nilfunc cl_bool cl_int cl_string cl_nil updO_some updO_none upd_same upd_other init_at pickA_b pickA_wh selA_t selA_f selA_and selA_or selA_orn selA_orm selA_bb selA_ii beqt b_add b_sub b_mul b_and b_or b_xor b_eql b_neq b_lss b_leq b_gtr b_geq b_quo b_rem b_shr b_seql b_sneq b_sadd b_beql b_bneq b_aeql b_aneq u_not u_neg isConstOp eqA eqCellV List.getD_cons_zero List.getD_cons_succ List.map_cons List.map_nil List.nil_append List.cons_append List.append_nil if_true if_false Option.map_some Option.map_none ne_eq not_false_eq_true oneA ldv ld1v ld1s wr1s ldRow stRow row_lit row_agg row_vsl row_sl row_ptr row_fn one_I one_B one_S one_vsl one_sl one_ptr one_fn extractA okA rI rS rU rClass rFault rExit rStart rLine Int.toNat_natCast List.length_cons List.length_nil List.length_map List.all_cons List.all_nil Bool.and_true Nat.zero_add List.getElem?_cons_zero List.getElem?_cons_succ List.take_succ_cons List.take_zero List.drop_succ_cons List.drop_zero and_self true_and and_true implies_true decide_eq_true_eq decide_eq_false_iff_not Bool.or_eq_true Bool.or_eq_false_iff Bool.and_eq_true Bool.not_eq_true' Bool.not_eq_false' beq_false decide_true decide_false Int.ofNat_lt Int.ofNat_le Int.natCast_nonneg Bool.or_true Bool.or_false Bool.true_or Bool.false_or beq_self_eq_true List.drop_one Bool.not_true Bool.not_false Bool.not_not Bool.false_eq_true Bool.true_eq_false false_implies true_implies Bool.true_and Bool.false_and Bool.and_false not_true_eq_false Int.natCast_eq_zero Int.natCast_pos Int.natCast_zero false_and and_false or_false false_or or_true true_or Bool.or_self none_le_iff List.replicate_zero Int.toNat_zero List.replicate_succ buildRows List.set_cons_zero List.set_cons_succ List.set_nil List.mapM_nil maxLen_eq Nat.zero_le Nat.mul_one Nat.one_mul bldA fillA spliceA List.take_nil List.drop_nil List.getElem?_nil ld1o wr1o bldSliceA le_same ti1 ti2 tk2 ti3 te3 ts3 tk3 tz3 ti4 tb4 ti5 tk5 tz5 ti9 te9 ts9 tk9 tz9 ti12 tk12 ti13 tp13 tf13_0 tf13_1 ti20 ti21 tk21 tz21 ti22 te22 tz22 ti23 te23 ti24 tp24 tf24_0 ti25 tp25 tf25_0 ti26 te26 ti28 ti29 te29 ti30 te30 ti31 tp31 tf31_0 ti32 tp32 tf32_0 ti33 tp33 tf33_0 tf33_1 tf33_2 tf33_3 ti34 tp34 tf34_0 tf34_1 tf34_2 tf34_3 ti35 ti36 ti37 ti39 ti40 tq40 tp40 tf40_0 tf40_1 tf40_2 tf40_3 ti41 tq41 tp41 tf41_0 tf41_1 tf41_2 tf41_3 ti42 ti43 tq43 tp43 tf43_0 tf43_1 tf43_2 ti44 tq44 tp44 tf44_0 tf44_1 tf44_2 ti45 te45 ti46 tq46 tp46 tf46_0 tf46_1 tf46_2 ti47 tq47 tp47 tf47_0 tf47_1 tf47_2 ti49 ti50 ti51 ti53 ti54 ti55 ti56 te56 ti57 tp57 tf57_0 ti58 tp58 tf58_0 ti59 te59 ti60 ti61 ti62 ti63 ti64 ti65 ti66 ti67 ti68 ti69 ti70 ti71 te71 ti72 tq72 tp72 tf72_0 tf72_1 tf72_2 ti73 ti74 ti75 ti76 ti77 ti78 ti79 ti80 ti81 ti82 ti83 ti84 ti85 ti86 ti87 tq87 tp87 tf87_0 tf87_1 ti88 tq88 tp88 tf88_0 tf88_1 ti89 ti90 ti91 ti92 ti93 ti94 ti95 ti96 ti97 ti98 ti99 ti100 ti101 ti102 tq102 tp102 tf102_0 tf102_1 tf102_2 tf102_3 tf102_4 ti103 tq103 tp103 tf103_0 tf103_1 tf103_2 tf103_3 tf103_4 ti104 ti105 ti106 ti107 ti108 ti109 ti110 ti111 ti112 ti113 tq113 tp113 tf113_0 tf113_1 tf113_2 tf113_3 ti114 ti115 ti116 ti117 ti118 ti119 ti120 tq120 tp120 tf120_0 tf120_1 tf120_2 ti121 ti122 ti123 ti124 ti125 ti126 tp126 tf126_0 tf126_1 ti127 tp127 tf127_0 tf127_1 ti128 tp128 tf128_0 tf128_1 tf128_2 tf128_3 tf128_4 ti129 tp129 tf129_0 tf129_1 tf129_2 tf129_3 tf129_4 ti131 ti132 ti133 ti134 ti135 ti136 ti137 tp137 tf137_0 tf137_1 tf137_2 tf137_3 ti138 tp138 tf138_0 tf138_1 tf138_2 tf138_3 ti139 tq139 tp139 tf139_0 tf139_1 ti140 tq140 tp140 tf140_0 tf140_1 ti141 ti142 ti143 tq143 tp143 tf143_0 tf143_1 ti144 tq144 tp144 tf144_0 tf144_1 ti145 ti146 ti147 ti148 ti149 te149 ti150 ti151 te151 ti152 ti153 ti154 ti155 ti156 ti157 ti158 tp158 tf158_0 tf158_1 tf158_2 ti159 tp159 tf159_0 tf159_1 tf159_2 ti160 ti161 ti162 ti163 ti164 ti165 ti166 ti167 ti168 ti169 tq169 tp169 tf169_0 tf169_1 ti170 ti171 ti172 ti173 ti174 ti175 ti176 ti177 te177 ti178 ti179 ti180 ti181 ti182 ti183 ti184 ti185 ti186 ti187 ti188 ti189 ti190 ti191 ti192 ti193 ti194 ti195 ti196 ti197 ti198 ti199 ti200 ti201 ti202 ti203 ti204 ti205 tk205 tz205 ti206 ti207 ti208 ti209 tk209 ti211 ti212 ti213 ti215 ti216 ti217 tk217 tz217 ti218 ti219 tk219 tz219 ti220 tk220 ti221 ti222 ti223 ti224 ti225 ti226 ti228 ti229 ti235 ti239 ti244 fp13_0 fv13_0 fp13_1 fv13_1 fp24_0 fv24_0 fp25_0 fv25_0 fp31_0 fv31_0 fp32_0 fv32_0 fp33_0 fv33_0 fp33_1 fv33_1 fp33_2 fv33_2 fp33_3 fv33_3 fp34_0 fv34_0 fp34_1 fv34_1 fp34_2 fv34_2 fp34_3 fv34_3 fp40_0 fv40_0 fp40_1 fv40_1 fp40_2 fv40_2 fp40_3 fv40_3 fp41_0 fv41_0 fp41_1 fv41_1 fp41_2 fv41_2 fp41_3 fv41_3 fp43_0 fv43_0 fp43_1 fv43_1 fp43_2 fv43_2 fp44_0 fv44_0 fp44_1 fv44_1 fp44_2 fv44_2 fp46_0 fv46_0 fp46_1 fv46_1 fp46_2 fv46_2 fp47_0 fv47_0 fp47_1 fv47_1 fp47_2 fv47_2 fp57_0 fv57_0 fp58_0 fv58_0 fp72_0 fv72_0 fp72_1 fv72_1 fp72_2 fv72_2 fp87_0 fv87_0 fp87_1 fv87_1 fp88_0 fv88_0 fp88_1 fv88_1 fp102_0 fv102_0 fp102_1 fv102_1 fp102_2 fv102_2 fp102_3 fv102_3 fp102_4 fv102_4 fp103_0 fv103_0 fp103_1 fv103_1 fp103_2 fv103_2 fp103_3 fv103_3 fp103_4 fv103_4 fp113_0 fv113_0 fp113_1 fv113_1 fp113_2 fv113_2 fp113_3 fv113_3 fp120_0 fv120_0 fp120_1 fv120_1 fp120_2 fv120_2 fp126_0 fv126_0 fp126_1 fv126_1 fp127_0 fv127_0 fp127_1 fv127_1 fp128_0 fv128_0 fp128_1 fv128_1 fp128_2 fv128_2 fp128_3 fv128_3 fp128_4 fv128_4 fp129_0 fv129_0 fp129_1 fv129_1 fp129_2 fv129_2 fp129_3 fv129_3 fp129_4 fv129_4 fp137_0 fv137_0 fp137_1 fv137_1 fp137_2 fv137_2 fp137_3 fv137_3 fp138_0 fv138_0 fp138_1 fv138_1 fp138_2 fv138_2 fp138_3 fv138_3 fp139_0 fv139_0 fp139_1 fv139_1 fp140_0 fv140_0 fp140_1 fv140_1 fp143_0 fv143_0 fp143_1 fv143_1 fp144_0 fv144_0 fp144_1 fv144_1 fp158_0 fv158_0 fp158_1 fv158_1 fp158_2 fv158_2 fp159_0 fv159_0 fp159_1 fv159_1 fp159_2 fv159_2 fp169_0 fv169_0 fp169_1 fv169_1 lv22 ll22 is22 ix22 sh22 so22 sb22 sm22 sp22 lv23 ll23 is23 ix23 sh23 so23 sb23 sm23 sp23 lv26 ll26 is26 ix26 sh26 so26 sb26 sm26 sp26 lv29 ll29 is29 ix29 sh29 so29 sb29 sm29 sp29 lv30 ll30 is30 ix30 sh30 so30 sb30 sm30 sp30 lv45 ll45 is45 ix45 sh45 so45 sb45 sm45 sp45 lv56 ll56 is56 sp56 lv59 ll59 is59 sp59 lv71 ll71 is71 sp71 lv149 ll149 is149 sp149 lv151 ll151 is151 sp151 lv177 ll177 is177 ix177 sh177 so177 sb177 sm177 sp177 xs9 ls9 sx9 sy9 sz9
section
open Go Go.Sim
set_option maxRecDepth 100000
theorem Nums.nil (n : Nat) : Nums n [] where
  mem a ha := absurd ha (List.not_mem_nil)
  free := by have := freeN_nil n; simpa using this
end
section
open Go Go.Sim
set_option maxRecDepth 100000

def insR : List Int → Int → List Int
  | [], v => [v]
  | b :: out, v => if b < v then b :: insR out v else if b = v then b :: out else v :: b :: out
theorem insF_eq : ∀ (out : List Int) (v : Int), insF out v = insR out v
  | [], v => by simp [insF, insR, insK]
  | b :: out, v => by
    have ih := insF_eq out v
    unfold insR
    by_cases c : b < v
    · rw [if_pos c, ← ih]
      have hk : insK (b :: out) v = insK out v + 1 := by simp [insK, List.takeWhile_cons, c]
      unfold insF
      rw [hk]
      simp only [List.length_cons, List.getD_cons_succ, List.take_succ_cons, List.drop_succ_cons, Nat.add_right_cancel_iff]
      split <;> simp
    · rw [if_neg c]
      have hk : insK (b :: out) v = 0 := by simp [insK, List.takeWhile_cons, c]
      unfold insF
      rw [hk]
      by_cases e : b = v
      · rw [if_pos e, if_neg (by simp [e])]
      · rw [if_neg e, if_pos (by right; simpa using e)]
        simp
theorem insR_mem : ∀ {out : List Int} {v a : Int}, a ∈ insR out v ↔ a = v ∨ a ∈ out
  | [], v, a => by simp [insR]
  | b :: out, v, a => by
    unfold insR
    split
    · rw [List.mem_cons, insR_mem, List.mem_cons]
      constructor
      · rintro (q | q | q) <;> simp [q]
      · rintro (q | q | q) <;> simp [q]
    · split
      · rename_i e; subst e; simp
      · simp
theorem insR_asc : ∀ {out : List Int} {v : Int}, out.Pairwise (· < ·) → (insR out v).Pairwise (· < ·)
  | [], v, _ => by simp [insR]
  | b :: out, v, h => by
    obtain ⟨h1, h2⟩ := List.pairwise_cons.1 h
    unfold insR
    split
    · rename_i c
      refine .cons (fun a ha => ?_) (insR_asc h2)
      rcases insR_mem.1 ha with q | q
      · omega
      · exact h1 a q
    · split
      · exact h
      · rename_i c e
        refine .cons (fun a ha => ?_) h
        rcases List.mem_cons.1 ha with q | q
        · omega
        · have := h1 a q; omega
theorem fold_asc : ∀ (l out : List Int), out.Pairwise (· < ·) → (l.foldl insF out).Pairwise (· < ·) ∧ ∀ a, a ∈ l.foldl insF out ↔ a ∈ out ∨ a ∈ l
  | [], out, h => ⟨h, fun a => by simp⟩
  | v :: l, out, h => by
    rw [List.foldl_cons, insF_eq]
    obtain ⟨h1, h2⟩ := fold_asc l (insR out v) (insR_asc h)
    refine ⟨h1, fun a => ?_⟩
    rw [h2, insR_mem, List.mem_cons]
    constructor
    · rintro ((q | q) | q) <;> simp [q]
    · rintro (q | q | q) <;> simp [q]
theorem sortedF_asc (l : List Int) : (sortedF l).Pairwise (· < ·) := (fold_asc l [] .nil).1
theorem sortedF_iff {l : List Int} {a : Int} : a ∈ sortedF l ↔ a ∈ l := by
  have := (fold_asc l [] .nil).2 a
  simpa [sortedF] using this
/-- Numbers sorted, each once: told by what is in them. -/
theorem sort_ext {l m : List Int} (hl : l.Nodup) (h : ∀ a, a ∈ l ↔ a ∈ m) : sortI l = sortedF m := by
  have s1 : (sortI l).Pairwise (fun a b => a ≤ b) := by
    have := List.pairwise_mergeSort (le := fun x y : Int => decide (x ≤ y)) (fun a b c h1 h2 => by simp at *; omega) (fun a b => by simp; omega) l
    exact this.imp (fun h => by simpa using h)
  have a2 := sortedF_asc m
  have s2 : (sortedF m).Pairwise (fun a b => a ≤ b) := a2.imp (fun h => by omega)
  have n2 : (sortedF m).Nodup := a2.imp (fun h => by omega)
  have n1 : (sortI l).Nodup := (List.mergeSort_perm l _).nodup_iff.2 hl
  have pm : (sortI l).Perm (sortedF m) := (List.perm_ext_iff_of_nodup n1 n2).2 fun a => by rw [sortI_mem, sortedF_iff, h]
  exact pm.eq_of_pairwise (fun a b _ _ h1 h2 => by omega) s1 s2
/-- What a fault reaches. -/
inductive Rch (h : List Fault) (f : Int) : Int → Prop where
  | refl : Rch h f f
  | cause {a : Int} : Rch h f a → 0 ≤ causeOf h a → Rch h f (causeOf h a)
  | ctx {a : Int} : Rch h f a → 0 ≤ ctxOf h a → Rch h f (ctxOf h a)
theorem addF_mem {out : List Int} {g a : Int} : a ∈ addF out g ↔ a ∈ out ∨ (a = g ∧ 0 ≤ g) := by
  unfold addF
  by_cases c : 0 ≤ g ∧ (out.any fun x => decide (g = x)) = false
  · rw [if_pos c, List.mem_append, List.mem_singleton]
    constructor
    · rintro (q | q)
      · exact .inl q
      · exact .inr ⟨q, c.1⟩
    · rintro (q | q)
      · exact .inl q
      · exact .inr q.1
  · rw [if_neg c]
    refine ⟨.inl, ?_⟩
    rintro (q | ⟨rfl, q⟩)
    · exact q
    · have : ¬ (out.any fun x => decide (a = x)) = false := fun e => c ⟨q, e⟩
      simpa using this
theorem addF_nodup {out : List Int} {g : Int} (h : out.Nodup) : (addF out g).Nodup := by
  unfold addF
  split
  · rename_i c
    rw [List.nodup_append]
    refine ⟨h, by simp, fun a ha b hb => ?_⟩
    simp at hb; subst hb
    rintro rfl
    have := c.2
    rw [List.any_eq_false] at this
    exact this a ha (by simp)
  · exact h
theorem bfsG_clos {h : List Fault} (hlk : Links h) (f : Int) : ∀ (n i : Nat) (out : List Int), Nums h.length out → out.Nodup → h.length ≤ i + n → (∀ a ∈ out, Rch h f a) →
    (∀ j, j < i → j < out.length → (0 ≤ causeOf h (out.getD j default) → causeOf h (out.getD j default) ∈ out) ∧ (0 ≤ ctxOf h (out.getD j default) → ctxOf h (out.getD j default) ∈ out)) →
    (∀ a ∈ out, a ∈ bfsG h n i out) ∧ (bfsG h n i out).Nodup ∧ (∀ a ∈ bfsG h n i out, Rch h f a) ∧ (∀ a ∈ bfsG h n i out, (0 ≤ causeOf h a → causeOf h a ∈ bfsG h n i out) ∧ (0 ≤ ctxOf h a → ctxOf h a ∈ bfsG h n i out)) := by
  have stop : ∀ (i : Nat) (out : List Int), out.length ≤ i → (∀ j, j < i → j < out.length → (0 ≤ causeOf h (out.getD j default) → causeOf h (out.getD j default) ∈ out) ∧ (0 ≤ ctxOf h (out.getD j default) → ctxOf h (out.getD j default) ∈ out)) →
      ∀ a ∈ out, (0 ≤ causeOf h a → causeOf h a ∈ out) ∧ (0 ≤ ctxOf h a → ctxOf h a ∈ out) := by
    intro i out hi hj a ha
    obtain ⟨j, hj1, rfl⟩ := List.mem_iff_getElem.1 ha
    have := hj j (by omega) hj1
    simpa [List.getD_eq_getElem?_getD, hj1] using this
  intro n
  induction n with
  | zero =>
    intro i out hn hd hl hr hj
    have := hn.free
    exact ⟨fun a ha => ha, hd, hr, stop i out (by omega) hj⟩
  | succ n ih =>
    intro i out hn hd hl hr hj
    simp only [bfsG]
    by_cases c : i < out.length
    · rw [if_pos c]
      have hm : out.getD i default ∈ out := by rw [List.getD_eq_getElem?_getD, List.getElem?_eq_getElem c]; exact List.getElem_mem c
      have hmm := hn.mem _ hm
      have hk := hlk (out.getD i default).toNat (by omega)
      have hri := hr _ hm
      generalize hg : out.getD i default = v at hm hmm hk hri
      have hN := (hn.add (g := causeOf h v) hk.1).add (g := ctxOf h v) hk.2
      have keep : ∀ a ∈ out, a ∈ addF (addF out (causeOf h v)) (ctxOf h v) := fun a ha => addF_mem.2 (.inl (addF_mem.2 (.inl ha)))
      have pre : ∀ (o : List Int) (g : Int) (j : Nat), j < o.length → (addF o g).getD j default = o.getD j default := by
        intro o g j hjo
        unfold addF
        split
        · rw [getD_app hjo]
        · rfl
      have l1 := addF_len out (causeOf h v)
      obtain ⟨b1, b2, b3, b4⟩ := ih (i + 1) (addF (addF out (causeOf h v)) (ctxOf h v)) hN (addF_nodup (addF_nodup hd)) (by omega) (fun a ha => by
        rcases addF_mem.1 ha with q | ⟨e, q⟩
        · rcases addF_mem.1 q with q1 | ⟨e1, q1⟩
          · exact hr a q1
          · rw [e1]; exact .cause hri q1
        · rw [e]; exact .ctx hri q) (fun j hj1 hj2 => by
        have hjo : j < out.length := by omega
        rw [pre _ _ j (by omega), pre _ _ j hjo]
        by_cases e : j = i
        · subst e
          rw [hg]
          exact ⟨fun q => addF_mem.2 (.inl (addF_mem.2 (.inr ⟨rfl, q⟩))), fun q => addF_mem.2 (.inr ⟨rfl, q⟩)⟩
        · have := hj j (by omega) hjo
          exact ⟨fun q => keep _ (this.1 q), fun q => keep _ (this.2 q)⟩)
      exact ⟨fun a ha => b1 a (keep a ha), b2, b3, b4⟩
    · rw [if_neg c]
      exact ⟨fun a ha => ha, hd, hr, stop i out (by omega) hj⟩
theorem bfsF_iff {h : List Fault} (hlk : Links h) {f : Int} (h0 : 0 ≤ f) (hf : f < h.length) : (bfsF h f).Nodup ∧ ∀ a, a ∈ bfsF h f ↔ Rch h f a := by
  obtain ⟨b1, b2, b3, b4⟩ := bfsG_clos hlk f (h.length + 1) 0 [f] (Nums.one h0 hf) (by simp) (by omega) (fun a ha => by simp at ha; subst ha; exact .refl) (fun j hj => by omega)
  refine ⟨b2, fun a => ⟨b3 a, fun r => ?_⟩⟩
  induction r with
  | refl => exact b1 f (by simp)
  | cause _ q ih => exact (b4 _ ih).1 q
  | ctx _ q ih => exact (b4 _ ih).2 q
end
section
open Go Go.Sim
set_option maxRecDepth 100000

theorem validH_all {t : List Class} {h : List Fault} (hv : validH t h = true) : (List.range h.length).all (faultOk t h) = true ∧ (List.range h.length).all (lastOk h) = true ∧ validT t = true ∧ h.length ≤ 24 := by
  simpa only [validH, Bool.and_eq_true, decide_eq_true_eq] using hv
end
section
open Go Go.Sim
set_option maxRecDepth 100000

/-- Where a number stands in a list; -1 if it does not. -/
def posF (S : List Int) (a : Int) : Int := idxF (fun x => decide (a = x)) S
theorem posF_mem {S : List Int} {a : Int} (h : a ∈ S) : 0 ≤ posF S a ∧ posF S a < S.length ∧ S.getD (posF S a).toNat default = a := by
  unfold posF
  induction S with
  | nil => cases h
  | cons b S ih =>
    simp only [idxF]
    by_cases e : a = b
    · rw [if_pos (by simpa using e)]
      refine ⟨by omega, by simp only [List.length_cons]; omega, ?_⟩
      show (b :: S).getD 0 default = a
      rw [List.getD_cons_zero, e]
    · have hm : a ∈ S := by
        rcases List.mem_cons.1 h with q | q
        · exact absurd q e
        · exact q
      obtain ⟨i1, i2, i3⟩ := ih hm
      rw [if_neg (by simpa using e), if_neg (by omega)]
      refine ⟨by omega, by simp only [List.length_cons]; omega, ?_⟩
      have : (idxF (fun x => decide (a = x)) S + 1).toNat = (idxF (fun x => decide (a = x)) S).toNat + 1 := by omega
      rw [this, List.getD_cons_succ, i3]
theorem posF_none {S : List Int} {a : Int} (h : a ∉ S) : posF S a = -1 := by
  unfold posF
  rw [idxF_neg, List.any_eq_false]
  intro x hx
  have : ¬ a = x := by rintro rfl; exact h hx
  simpa using this
theorem posF_inj {S : List Int} {a b : Int} (ha : a ∈ S) (hb : b ∈ S) (h : posF S a = posF S b) : a = b := by
  have h1 := (posF_mem ha).2.2
  have h2 := (posF_mem hb).2.2
  rw [h] at h1
  rw [← h1, h2]
theorem posF_at {S : List Int} (hd : S.Nodup) {k : Nat} (hk : k < S.length) : posF S (S.getD k default) = k := by
  have hm : S.getD k default ∈ S := by rw [List.getD_eq_getElem?_getD, List.getElem?_eq_getElem hk]; exact List.getElem_mem hk
  obtain ⟨h1, h2, h3⟩ := posF_mem hm
  obtain ⟨j, hj⟩ : ∃ j : Nat, posF S (S.getD k default) = j := ⟨(posF S (S.getD k default)).toNat, by omega⟩
  rw [hj] at h1 h2 h3 ⊢
  have hj2 : j < S.length := by omega
  rw [Int.toNat_natCast, List.getD_eq_getElem?_getD, List.getD_eq_getElem?_getD, List.getElem?_eq_getElem hj2, List.getElem?_eq_getElem hk] at h3
  have h4 : S[j] = S[k] := by simpa using h3
  rcases Nat.lt_trichotomy j k with q | q | q
  · exact absurd h4 ((List.pairwise_iff_getElem.1 hd) j k hj2 hk q)
  · omega
  · exact absurd h4.symm ((List.pairwise_iff_getElem.1 hd) k j hk hj2 q)
theorem isoL_len (h : List Fault) (S : List Int) : (isoL h S).length = S.length := by simp [isoL]
theorem isoL_at {h : List Fault} {S : List Int} {k : Nat} (hk : k < S.length) : (isoL h S).getD k default = isoAt h S (S.getD k default) := by
  simp [isoL, List.getD_eq_getElem?_getD, hk]
theorem iso_cause {h : List Fault} {S : List Int} {a : Int} (ha : a ∈ S) : causeOf (isoL h S) (posF S a) = posF S (causeOf h a) := by
  obtain ⟨h1, h2, h3⟩ := posF_mem ha
  unfold causeOf
  rw [isoL_at (by omega), h3]
  rfl
theorem iso_ctx {h : List Fault} {S : List Int} {a : Int} (ha : a ∈ S) : ctxOf (isoL h S) (posF S a) = posF S (ctxOf h a) := by
  obtain ⟨h1, h2, h3⟩ := posF_mem ha
  unfold ctxOf
  rw [isoL_at (by omega), h3]
  rfl
theorem walk_iso {S : List Int} {n : Nat} (hS : ∀ a ∈ S, 0 ≤ a ∧ a < n) {nx nx' : Int → Int} (hnx : ∀ a ∈ S, nx a ∈ S ∨ nx a < 0) (hiso : ∀ a ∈ S, nx' (posF S a) = posF S (nx a)) :
    ∀ (fuel fuel' : Nat) (out : List Int) (f : Int), (f ∈ S ∨ f < 0) → (∀ a ∈ out, a ∈ S) → freeN n out < fuel → freeN S.length (out.map (posF S)) < fuel' → walkG nx' fuel' (out.map (posF S)) (posF S f) = (walkG nx fuel out f).map (posF S)
  | 0, fuel', out, f, _, _, h1, _ => by omega
  | fuel + 1, 0, out, f, _, _, _, h2 => by omega
  | fuel + 1, fuel' + 1, out, f, hf, ho, h1, h2 => by
    simp only [walkG]
    rcases hf with hf | hf
    · have hp := posF_mem hf
      have hany : ((out.map (posF S)).any fun x => decide (posF S f = x)) = (out.any fun x => decide (f = x)) := by
        rw [List.any_map, Bool.eq_iff_iff, List.any_eq_true, List.any_eq_true]
        constructor
        · rintro ⟨a, ha, q⟩
          exact ⟨a, ha, by simp only [Function.comp, decide_eq_true_eq] at q; simpa using posF_inj hf (ho a ha) q⟩
        · rintro ⟨a, ha, q⟩
          exact ⟨a, ha, by simp only [decide_eq_true_eq] at q; subst q; simp⟩
      rw [hany]
      cases hb : out.any fun x => decide (f = x)
      · rw [if_pos ⟨hp.1, rfl⟩, if_pos ⟨(hS f hf).1, rfl⟩, hiso f hf]
        have l1 := freeN_lt (hS f hf).1 (hS f hf).2 hb
        have l2 := freeN_lt (out := out.map (posF S)) hp.1 hp.2.1 (by rw [hany, hb])
        have e : out.map (posF S) ++ [posF S f] = (out ++ [f]).map (posF S) := by simp
        rw [e] at l2 ⊢
        refine walk_iso hS hnx hiso fuel fuel' (out ++ [f]) (nx f) (hnx f hf) (fun a ha => ?_) (by omega) (by omega)
        rcases List.mem_append.1 ha with q | q
        · exact ho a q
        · simp at q; subst q; exact hf
      · rw [if_neg (fun q => by cases q.2), if_neg (fun q => by cases q.2)]
    · have hn : f ∉ S := fun q => by have := hS f q; omega
      rw [posF_none hn, if_neg (by omega), if_neg (by omega)]
/-- What a set of faults reaches is in it. -/
structure Closed (h : List Fault) (S : List Int) : Prop where
  mem : ∀ a ∈ S, 0 ≤ a ∧ a < h.length
  cause : ∀ a ∈ S, causeOf h a ∈ S ∨ causeOf h a < 0
  ctx : ∀ a ∈ S, ctxOf h a ∈ S ∨ ctxOf h a < 0
theorem Closed.pos {h : List Fault} {S : List Int} (hc : Closed h S) {b : Int} (hb : b ∈ S ∨ b < 0) : (0 ≤ posF S b ↔ 0 ≤ b) ∧ (b < 0 → posF S b = -1) := by
  rcases hb with q | q
  · have h1 := (posF_mem q).1
    have h2 := (hc.mem b q).1
    exact ⟨⟨fun _ => h2, fun _ => h1⟩, fun w => by omega⟩
  · have hn : b ∉ S := fun w => by have := (hc.mem b w).1; omega
    rw [posF_none hn]
    exact ⟨⟨fun w => by omega, fun w => by omega⟩, fun _ => rfl⟩
theorem closed_reach {h : List Fault} (hlk : Links h) {f : Int} (h0 : 0 ≤ f) (hf : f < h.length) : Closed h (sortI (bfsF h f)) ∧ f ∈ sortI (bfsF h f) ∧ (sortI (bfsF h f)).Nodup := by
  obtain ⟨b1, b2⟩ := bfsF_iff hlk h0 hf
  have hn := bfsF_nums hlk h0 hf
  have m : ∀ a, a ∈ sortI (bfsF h f) ↔ Rch h f a := fun a => by rw [sortI_mem, b2]
  refine ⟨⟨fun a ha => hn.mem a (sortI_mem.1 ha), fun a ha => ?_, fun a ha => ?_⟩, (m f).2 .refl, (List.mergeSort_perm _ _).nodup_iff.2 b1⟩
  · by_cases c : causeOf h a < 0
    · exact .inr c
    · exact .inl ((m _).2 (.cause ((m a).1 ha) (by omega)))
  · by_cases c : ctxOf h a < 0
    · exact .inr c
    · exact .inl ((m _).2 (.ctx ((m a).1 ha) (by omega)))
theorem Closed.links {h : List Fault} {S : List Int} (hd : S.Nodup) : Links (isoL h S) := by
  intro k hk
  rw [isoL_len] at hk ⊢
  rw [isoL_at hk]
  exact ⟨idxF_lt _ _, idxF_lt _ _⟩
theorem Closed.rch {h : List Fault} {S : List Int} (hc : Closed h S) {f a : Int} (hf : f ∈ S) (r : Rch h f a) : a ∈ S ∧ Rch (isoL h S) (posF S f) (posF S a) := by
  induction r with
  | refl => exact ⟨hf, .refl⟩
  | @cause a r q ih =>
    obtain ⟨i1, i2⟩ := ih
    have hm := (hc.cause a i1).resolve_right (by omega)
    refine ⟨hm, ?_⟩
    rw [← iso_cause i1]
    exact .cause i2 (by rw [iso_cause i1]; exact (posF_mem hm).1)
  | @ctx a r q ih =>
    obtain ⟨i1, i2⟩ := ih
    have hm := (hc.ctx a i1).resolve_right (by omega)
    refine ⟨hm, ?_⟩
    rw [← iso_ctx i1]
    exact .ctx i2 (by rw [iso_ctx i1]; exact (posF_mem hm).1)
/-- The isolated heap is reached whole: sorted, it is all numbers in order. -/
theorem reach_all {h : List Fault} (hlk : Links h) {f : Int} (h0 : 0 ≤ f) (hf : f < h.length) :
    sortI (bfsF (isoL h (sortI (bfsF h f))) (posF (sortI (bfsF h f)) f)) = (List.range (sortI (bfsF h f)).length).map (fun (k : Nat) => (k : Int)) := by
  obtain ⟨hc, hm, hd⟩ := closed_reach hlk h0 hf
  have hall : ∀ a ∈ sortI (bfsF h f), Rch h f a := fun a ha => ((bfsF_iff hlk h0 hf).2 a).1 (sortI_mem.1 ha)
  generalize hS : sortI (bfsF h f) = S at hc hm hd hall ⊢
  obtain ⟨p1, p2, p3⟩ := posF_mem hm
  have hl2 : Links (isoL h S) := Closed.links hd
  obtain ⟨b1, b2⟩ := bfsF_iff hl2 p1 (by rw [isoL_len]; exact p2)
  have hn := bfsF_nums hl2 p1 (by rw [isoL_len]; exact p2)
  have s2 : ((List.range S.length).map (fun (k : Nat) => (k : Int))).Pairwise (fun a b => a < b) := by
    rw [List.pairwise_map]
    exact List.pairwise_lt_range.imp (fun q => by omega)
  have hsf : sortedF ((List.range S.length).map (fun (k : Nat) => (k : Int))) = (List.range S.length).map (fun (k : Nat) => (k : Int)) := by
    have a2 := sortedF_asc ((List.range S.length).map (fun (k : Nat) => (k : Int)))
    have pm : (sortedF ((List.range S.length).map (fun (k : Nat) => (k : Int)))).Perm ((List.range S.length).map (fun (k : Nat) => (k : Int))) :=
      (List.perm_ext_iff_of_nodup (a2.imp (fun q => by omega)) (s2.imp (fun q => by omega))).2 fun a => sortedF_iff
    exact pm.eq_of_pairwise (fun a b _ _ q1 q2 => by omega) (a2.imp (fun q => Int.le_of_lt q)) (s2.imp (fun q => Int.le_of_lt q))
  rw [← hsf]
  refine sort_ext b1 fun a => ?_
  rw [List.mem_map]
  constructor
  · intro ha
    have := hn.mem a ha
    rw [isoL_len] at this
    exact ⟨a.toNat, by simp; omega, by omega⟩
  · rintro ⟨k, hk, rfl⟩
    rw [List.mem_range] at hk
    rw [b2, ← posF_at hd hk]
    have hkm : S.getD k default ∈ S := by rw [List.getD_eq_getElem?_getD, List.getElem?_eq_getElem hk]; exact List.getElem_mem hk
    exact (hc.rch hm (hall _ hkm)).2
def natsF (n : Nat) : List Int := (List.range n).map (fun (k : Nat) => (k : Int))
theorem Closed.last {h : List Fault} {S : List Int} (hc : Closed h S) (hcm : Calm h) {a : Int} (ha : a ∈ S) : ctxOf (isoL h S) (lastI (chainF (isoL h S) (posF S a))) = -1 := by
  have hw : chainF (isoL h S) (posF S a) = (chainF h a).map (posF S) := by
    unfold chainF
    rw [isoL_len]
    exact walk_iso (S := S) (n := h.length) hc.mem (nx := ctxOf h) (nx' := ctxOf (isoL h S)) hc.ctx (fun a ha => iso_ctx ha) (h.length + 1) (S.length + 1) [] a (.inl ha) (fun a ha => by cases ha) (by have := freeN_nil h.length; omega) (by have := freeN_nil S.length; simp only [List.map_nil]; omega)
  have h0 := hc.mem a ha
  have hne := List.length_pos_iff.2 (chainF_ne (h := h) h0.1)
  have hl : (chainF h a).length - 1 < (chainF h a).length := by omega
  have hmem : ∀ b ∈ chainF h a, b ∈ S := by
    intro b hb
    have key := walkG_mem (nx := ctxOf h) (p := fun a => a ∈ S ∨ a < 0) (fun a a0 ha => hc.ctx a (ha.resolve_right (by omega))) (h.length + 1) [] a (.inl ha) b hb
    rcases key with q | ⟨q0, q⟩
    · cases q
    · exact q.resolve_right (by omega)
  have hlm : lastI (chainF h a) ∈ S := hmem _ (by unfold lastI; rw [List.getD_eq_getElem?_getD, List.getElem?_eq_getElem hl]; exact List.getElem_mem hl)
  have e : lastI ((chainF h a).map (posF S)) = posF S (lastI (chainF h a)) := by
    unfold lastI
    rw [List.length_map, List.getD_eq_getElem?_getD, List.getD_eq_getElem?_getD, List.getElem?_map, List.getElem?_eq_getElem hl]; rfl
  have hlast := hcm.last a.toNat (by omega)
  rw [lastOk, decide_eq_true_eq, Int.toNat_of_nonneg h0.1] at hlast
  rw [hw, e, iso_ctx hlm, hlast]
  exact (hc.pos (.inr (by omega))).2 (by omega)
theorem valid_isoG {t : List Class} {h : List Fault} {S : List Int} (v1 : (List.range h.length).all (faultOk t h) = true) (hcm : Calm h) (v3 : validT t = true) (hc : Closed h S) (hd : S.Nodup) (hlen : S.length ≤ 24) : validH t (isoL h S) = true := by
  have link : ∀ (k : Nat), k < S.length → ∀ b : Int, (b ∈ S ∨ b < 0) → b ≠ S.getD k default → linkF S.length k (posF S b) = true := by
    intro k hk b hb hne
    have hkm : S.getD k default ∈ S := by rw [List.getD_eq_getElem?_getD, List.getElem?_eq_getElem hk]; exact List.getElem_mem hk
    rcases hb with q | q
    · obtain ⟨p1, p2, p3⟩ := posF_mem q
      have hne2 : ¬ posF S b = k := fun e => hne (posF_inj q hkm (by rw [e, posF_at hd hk]))
      simp only [linkF, inR, Bool.or_eq_true, Bool.and_eq_true, decide_eq_true_eq, Bool.not_eq_true', decide_eq_false_iff_not]
      omega
    · rw [(hc.pos (.inr q)).2 q]; simp [linkF]
  simp only [validH, Bool.and_eq_true, decide_eq_true_eq, List.all_eq_true, List.mem_range, isoL_len]
  refine ⟨fun k hk => ?_, fun k hk => ?_, v3, hlen⟩
  · have hkm : S.getD k default ∈ S := by rw [List.getD_eq_getElem?_getD, List.getElem?_eq_getElem hk]; exact List.getElem_mem hk
    have hin := hc.mem _ hkm
    have hf := (List.all_eq_true.1 v1) (S.getD k default).toNat (List.mem_range.2 (by omega))
    simp only [faultOk, Bool.and_eq_true] at hf ⊢
    rw [isoL_at hk, isoL_len]
    have n1 : causeOf h (S.getD k default) ≠ S.getD k default := by
      have := hf.1.2
      unfold causeOf
      simp only [linkF, inR, Bool.or_eq_true, Bool.and_eq_true, decide_eq_true_eq, Bool.not_eq_true', decide_eq_false_iff_not] at this
      omega
    have n2 : ctxOf h (S.getD k default) ≠ S.getD k default := by
      have := hf.2
      unfold ctxOf
      simp only [linkF, inR, Bool.or_eq_true, Bool.and_eq_true, decide_eq_true_eq, Bool.not_eq_true', decide_eq_false_iff_not] at this
      omega
    exact ⟨⟨hf.1.1, link k hk _ (hc.cause _ hkm) n1⟩, link k hk _ (hc.ctx _ hkm) n2⟩
  · have hkm : S.getD k default ∈ S := by rw [List.getD_eq_getElem?_getD, List.getElem?_eq_getElem hk]; exact List.getElem_mem hk
    have := hc.last hcm hkm
    rw [posF_at hd hk] at this
    rw [lastOk, decide_eq_true_eq]
    exact this
end
section
open Go Go.Sim
set_option maxRecDepth 100000

theorem calm_heap {fs : List Fault} (ho : heapOk fs) : Calm fs := by
  refine .of_ends (fun k hk => by have := ho k hk; omega) (fun k hk => ?_)
  have key : ∀ n : Nat, ∀ k : Nat, k < n → k < fs.length → Ends (ctxOf fs) k := by
    intro n
    induction n with
    | zero => intro k hk; omega
    | succ n ih =>
      intro k hk hl
      obtain ⟨o1, o2, o3⟩ := ho k hl
      refine .step ?_
      have e : ctxOf fs k = (fs.getD k default).ctx := by unfold ctxOf; rw [Int.toNat_natCast]
      rw [e]
      by_cases c : (fs.getD k default).ctx < 0
      · exact .neg c
      · obtain ⟨m, hm⟩ : ∃ m : Nat, (fs.getD k default).ctx = m := ⟨(fs.getD k default).ctx.toNat, by omega⟩
        rw [hm]
        exact ih m (by omega) (by omega)
  exact key (k + 1) k (by omega) hk
/-- What a program ends with. -/
structure RunOut (t : List Class) (r : En × RS) (R : Res) : Prop where
  valid : validH t R.heap = true
  low : 0 ≤ R.val
  high : R.val < R.heap.length
  reach : sortI (bfsF R.heap R.val) = natsF R.heap.length
  cls : (R.heap.getD R.val.toNat default).cls = clsOf r.2 r.1.val
  code : (R.heap.getD R.val.toNat default).code = (r.2.fs.getD r.1.val.toNat default).code
theorem run_out {t : List Class} {r : En × RS} (ht : validT t = true) (hf : FsOk t r.2.fs) (h2 : r.1.ed = 2) (h0 : 0 ≤ r.1.val) (h1 : r.1.val < r.2.fs.length) (hd : dep r.2.fs r.1.val ≤ 24) : RunOut t r (resOf r) := by
  have ho := hf.ho
  have hlk : Links r.2.fs := heapOk_links ho
  obtain ⟨hc, hm, hn⟩ := closed_reach hlk h0 h1
  have hra := reach_all hlk h0 h1
  have hlen : (sortI (bfsF r.2.fs r.1.val)).length ≤ 24 := by
    rw [sort_dch ho h0 h1, List.length_reverse]; exact hd
  rw [res_two h2]
  unfold isoR
  generalize sortI (bfsF r.2.fs r.1.val) = S at hc hm hn hra hlen ⊢
  obtain ⟨p1, p2, p3⟩ := posF_mem hm
  have hat : (isoL r.2.fs S).getD (posF S r.1.val).toNat default = isoAt r.2.fs S r.1.val := by rw [isoL_at (by omega), p3]
  refine ⟨?_, p1, ?_, ?_, ?_, ?_⟩
  · refine valid_isoG ?_ (calm_heap ho) ht hc hn hlen
    rw [List.all_eq_true]
    intro k hk
    have hk' := List.mem_range.1 hk
    obtain ⟨o1, o2, o3⟩ := ho k hk'
    obtain ⟨c1, c2⟩ := hf.cls k hk'
    simp only [faultOk, Bool.and_eq_true]
    refine ⟨⟨⟨c1, c2⟩, ?_⟩, ?_⟩
    · rw [o1]; simp [linkF]
    · simp only [linkF, inR, Bool.or_eq_true, Bool.and_eq_true, decide_eq_true_eq, Bool.not_eq_true', decide_eq_false_iff_not]
      omega
  · show posF S r.1.val < (isoL r.2.fs S).length
    rw [isoL_len]; exact p2
  · show sortI (bfsF (isoL r.2.fs S) (posF S r.1.val)) = natsF (isoL r.2.fs S).length
    rw [hra, isoL_len]; rfl
  · show ((isoL r.2.fs S).getD (posF S r.1.val).toNat default).cls = _
    rw [hat]; rfl
  · show ((isoL r.2.fs S).getD (posF S r.1.val).toNat default).code = _
    rw [hat]; rfl
theorem run_valid {t : List Class} {p : List Line} (h : ValidP t p) (h2 : (runP t p).1.ed = 2) : RunOut t (runP t p) (resOf (runP t p)) := by
  have hg := runP_goes h
  exact run_out h.1 hg.ok h2 (hg.val h2).1 (hg.val h2).2 (dep_top h h2)
end
section
open Go Go.Sim
set_option maxRecDepth 100000
/-- The classes ahead in a try, behind a line. -/
def csN (k a : Int) (cs : List Int) : List Int := if k = 8 then cs ++ [a] else if followsK k = true then cs else []
/-- A line that never catches. -/
def deadK (t : List Class) (k a : Int) (cs : List Int) : Bool := decide (k = 8) && cs.any fun c => isF t a c
theorem tryG_cons {last k : Int} {ks : List Int} (h : tryG last (k :: ks) = true) : ((k = 8 ∧ last ≤ 8) ∨ (k = 9 ∧ last = 8) ∨ (k = 10 ∧ last < 10)) ∧ tryG k ks = true := by
  simpa [tryG] using h
/-! ### Runs -/
end
section
open Go Go.Sim
set_option maxRecDepth 100000

theorem jumpsK_iff {k : Int} : jumpsK k = true ↔ 2 ≤ k ∧ k ≤ 6 := by simp only [jumpsK, inR, Bool.and_eq_true, decide_eq_true_eq]
theorem followsK_iff {k : Int} : followsK k = true ↔ 8 ≤ k ∧ k ≤ 10 := by simp only [followsK, inR, Bool.and_eq_true, decide_eq_true_eq]
/-! ### Lines that cannot be run -/
/-- Of each line whether it cannot be run; 'sh': its block is never run; 'seen': a jump is ahead of it in its block. -/
def dlF (t : List Class) : Fo → Bool → Bool → List Int → List Bool
  | .nil, _, _, _ => []
  | .node k a b kids rest, sh, seen, cs =>
    (sh || (seen || deadK t k a cs)) :: (dlF t kids ((sh || (seen || deadK t k a cs)) || (decide (k = 12) && decide (a = 0))) false [] ++ dlF t rest sh (seen || jumpsK k) (csN k a cs))
theorem dl_len (t : List Class) : ∀ (f : Fo) (sh seen : Bool) (cs : List Int), (dlF t f sh seen cs).length = f.size
  | .nil, _, _, _ => rfl
  | .node k a b kids rest, sh, seen, cs => by simp only [dlF, List.length_cons, List.length_append, dl_len t kids, dl_len t rest, Fo.size]; omega
noncomputable def deadsP (t : List Class) (p : List Line) : List Bool := dlF t (forestP p) false false []
end
section
open Go Go.Sim
set_option maxRecDepth 100000

def dp (p : List Line) (m : Nat) : Int := (p.getD m default).depth
def kd (p : List Line) (m : Nat) : Int := (p.getD m default).kind
theorem dp_head {p : List Line} {i : Nat} {d k a b : Int} {kids rest : Fo} (h : At p i d (.node k a b kids rest)) : dp p i = d ∧ kd p i = k ∧ (p.getD i default).a = a ∧ (p.getD i default).b = b ∧ i < p.length := by
  obtain ⟨h1, h2⟩ := h.head
  unfold dp kd
  rw [h2]
  exact ⟨rfl, rfl, rfl, rfl, h1⟩
theorem dp_kids {p : List Line} {i : Nat} {d k a b : Int} {kids rest : Fo} (h : At p i d (.node k a b kids rest)) : ∀ m, i < m → m < i + 1 + kids.size → d < dp p m := fun m h1 h2 => by
  have := h.kids.deep (j := m) (by omega) (by omega)
  show d < (p.getD m default).depth
  omega

/-! ### What encloses a line -/
/-- The lines in whose blocks a line of a depth is, the innermost one first. -/
def enD (p : List Line) : Int → Nat → List Nat
  | _, 0 => []
  | d, k + 1 => if dp p k < d then k :: enD p (dp p k) k else enD p d k
theorem enD_skip {p : List Line} {d : Int} {i : Nat} : ∀ n, (∀ m, i ≤ m → m < i + n → d ≤ dp p m) → enD p d (i + n) = enD p d i
  | 0, _ => rfl
  | n + 1, h => by
    have := h (i + n) (by omega) (by omega)
    show enD p d (i + n + 1) = _
    simp only [enD]
    rw [if_neg (by omega)]
    exact enD_skip n fun m h1 h2 => h m h1 (by omega)
theorem en_kids {p : List Line} {i : Nat} {d k a b : Int} {kids rest : Fo} (h : At p i d (.node k a b kids rest)) : enD p (d + 1) (i + 1) = i :: enD p d i := by
  simp only [enD]
  rw [(dp_head h).1, if_pos (by omega)]
theorem en_rest {p : List Line} {i : Nat} {d k a b : Int} {kids rest : Fo} (h : At p i d (.node k a b kids rest)) : enD p d (i + 1 + kids.size) = enD p d i := by
  rw [show i + 1 + kids.size = i + (1 + kids.size) by omega]
  refine enD_skip _ fun m h1 h2 => ?_
  by_cases e : m = i
  · subst e; rw [(dp_head h).1]; exact Int.le_refl _
  · have := dp_kids h m (by omega) (by omega); omega
/-! ### What is behind jumps -/
/-- A line of a depth is behind a jump of its block. -/
def bjD (p : List Line) (d : Int) : Nat → Bool
  | 0 => false
  | k + 1 => if dp p k < d then false else if dp p k = d ∧ jumpsK (kd p k) = true then true else bjD p d k
theorem bj_skip {p : List Line} {d : Int} {i : Nat} : ∀ n, (∀ m, i ≤ m → m < i + n → d < dp p m) → bjD p d (i + n) = bjD p d i
  | 0, _ => rfl
  | n + 1, h => by
    have := h (i + n) (by omega) (by omega)
    show bjD p d (i + n + 1) = _
    simp only [bjD]
    rw [if_neg (by omega), if_neg (fun q => by omega)]
    exact bj_skip n fun m h1 h2 => h m h1 (by omega)
theorem bj_kids {p : List Line} {i : Nat} {d k a b : Int} {kids rest : Fo} (h : At p i d (.node k a b kids rest)) : bjD p (d + 1) (i + 1) = false := by
  simp only [bjD]
  rw [(dp_head h).1, if_pos (by omega)]
theorem bj_rest {p : List Line} {i : Nat} {d k a b : Int} {kids rest : Fo} (h : At p i d (.node k a b kids rest)) : bjD p d (i + 1 + kids.size) = (bjD p d i || jumpsK k) := by
  rw [bj_skip kids.size fun m h1 h2 => dp_kids h m (by omega) h2]
  simp only [bjD]
  rw [(dp_head h).1, (dp_head h).2.1, if_neg (by omega)]
  cases jumpsK k
  · rw [if_neg (fun q => by cases q.2), Bool.or_false]
  · rw [if_pos ⟨rfl, rfl⟩, Bool.or_true]
/-- A line of a depth is behind a jump, in its block or in a block around it. -/
def BH (p : List Line) (d : Int) (i : Nat) : Prop := ∃ j, j < i ∧ jumpsK (kd p j) = true ∧ dp p j ≤ d ∧ ∀ m, j < m → m < i → dp p j ≤ dp p m
theorem bh_kids {p : List Line} {i : Nat} {d k a b : Int} {kids rest : Fo} (h : At p i d (.node k a b kids rest)) (hj : jumpsK k = false) : BH p (d + 1) (i + 1) ↔ BH p d i := by
  obtain ⟨h1, h2, _⟩ := dp_head h
  constructor
  · rintro ⟨j, j1, j2, j3, j4⟩
    have ne : j ≠ i := fun e => by rw [e, h2, hj] at j2; cases j2
    refine ⟨j, by omega, j2, ?_, fun m a1 a2 => j4 m a1 (by omega)⟩
    have := j4 i (by omega) (by omega)
    omega
  · rintro ⟨j, j1, j2, j3, j4⟩
    refine ⟨j, by omega, j2, by omega, fun m a1 a2 => ?_⟩
    by_cases e : m = i
    · subst e; omega
    · exact j4 m a1 (by omega)
theorem bh_rest {p : List Line} {i : Nat} {d k a b : Int} {kids rest : Fo} (h : At p i d (.node k a b kids rest)) : BH p d (i + 1 + kids.size) ↔ (BH p d i ∨ jumpsK k = true) := by
  obtain ⟨h1, h2, _⟩ := dp_head h
  have hk := dp_kids h
  constructor
  · rintro ⟨j, j1, j2, j3, j4⟩
    by_cases e : j = i
    · subst e; rw [h2] at j2; exact .inr j2
    · by_cases c : i < j
      · have := hk j c (by omega); omega
      · exact .inl ⟨j, by omega, j2, j3, fun m a1 a2 => j4 m a1 (by omega)⟩
  · rintro (⟨j, j1, j2, j3, j4⟩ | hj)
    · refine ⟨j, by omega, j2, j3, fun m a1 a2 => ?_⟩
      by_cases e : m = i
      · subst e; omega
      · by_cases c : i < m
        · have := hk m c (by omega); omega
        · exact j4 m a1 (by omega)
    · exact ⟨i, by omega, by rw [h2]; exact hj, by omega, fun m a1 a2 => by have := hk m (by omega) (by omega); omega⟩

/-! ### The line that a line goes on with -/
def hdD (p : List Line) (d : Int) : Nat → Option Nat
  | 0 => none
  | k + 1 => if dp p k < d then none else if dp p k = d then some k else hdD p d k
theorem hd_skip {p : List Line} {d : Int} {i : Nat} : ∀ n, (∀ m, i ≤ m → m < i + n → d < dp p m) → hdD p d (i + n) = hdD p d i
  | 0, _ => rfl
  | n + 1, h => by
    have := h (i + n) (by omega) (by omega)
    show hdD p d (i + n + 1) = _
    simp only [hdD]
    rw [if_neg (by omega), if_neg (by omega)]
    exact hd_skip n fun m h1 h2 => h m h1 (by omega)
theorem hd_rest {p : List Line} {i : Nat} {d k a b : Int} {kids rest : Fo} (h : At p i d (.node k a b kids rest)) : hdD p d (i + 1 + kids.size) = some i := by
  rw [hd_skip kids.size fun m h1 h2 => dp_kids h m (by omega) h2]
  simp only [hdD]
  rw [(dp_head h).1, if_neg (by omega), if_pos rfl]
/-- The first line of a line's try; 'n': enough. -/
def tryP (p : List Line) : Nat → Nat → Nat
  | 0, i => i
  | n + 1, i => if kd p i = 7 then i else match hdD p (dp p i) i with
    | some k => tryP p n k
    | none => i
theorem hdD_lt {p : List Line} {d : Int} : ∀ (i k : Nat), hdD p d i = some k → k < i
  | 0, k, h => by cases h
  | i + 1, k, h => by
    simp only [hdD] at h
    split at h
    · cases h
    · split at h
      · cases h; omega
      · have := hdD_lt i k h; omega
/-! ### Flags, line by line -/
def AlignB (D : List Bool) (i : Nat) (l : List Bool) : Prop := ∀ j, j < l.length → D.getD (i + j) false = l.getD j false
theorem align_cons {D : List Bool} {i : Nat} {x : Bool} {l1 l2 : List Bool} (h : AlignB D i (x :: (l1 ++ l2))) : D.getD i false = x ∧ AlignB D (i + 1) l1 ∧ AlignB D (i + 1 + l1.length) l2 := by
  refine ⟨by simpa using h 0 (by simp), fun j hj => ?_, fun j hj => ?_⟩
  · have := h (j + 1) (by simp; omega)
    rw [List.getD_cons_succ, List.getD_eq_getElem?_getD (l := l1 ++ l2), List.getElem?_append_left hj, ← List.getD_eq_getElem?_getD] at this
    rw [show i + 1 + j = i + (j + 1) by omega]; exact this
  · have := h (l1.length + j + 1) (by simp; omega)
    rw [List.getD_cons_succ, List.getD_eq_getElem?_getD (l := l1 ++ l2), List.getElem?_append_right (by omega), Nat.add_sub_cancel_left, ← List.getD_eq_getElem?_getD] at this
    rw [show i + 1 + l1.length + j = i + (l1.length + j + 1) by omega]; exact this
/-- Of each line whether it never catches. -/
def deF (t : List Class) : Fo → List Int → List Bool
  | .nil, _ => []
  | .node k a _ kids rest, cs => deadK t k a cs :: (deF t kids [] ++ deF t rest (csN k a cs))
theorem de_len (t : List Class) : ∀ (f : Fo) (cs : List Int), (deF t f cs).length = f.size
  | .nil, _ => rfl
  | .node k a b kids rest, cs => by simp only [deF, List.length_cons, List.length_append, de_len t kids, de_len t rest, Fo.size]; omega
noncomputable def exsP (t : List Class) (p : List Line) : List Bool := deF t (forestP p) []
/-- A line whose block is never run. -/
def loop0 (p : List Line) (k : Nat) : Bool := decide (kd p k = 12) && decide ((p.getD k default).a = 0)
noncomputable def shutB (t : List Class) (p : List Line) (k : Nat) : Bool := loop0 p k || (exsP t p).getD k false
/-- Whether a block is never run, by the line around it. -/
noncomputable def upSh (t : List Class) (p : List Line) : List Nat → Bool
  | [] => false
  | up :: _ => (deadsP t p).getD up false || loop0 p up
/-- Where a line of a try stands. -/
structure InTry (p : List Line) (i : Nat) (d : Int) (f : Fo) (cs : List Int) : Prop where
  at_ : ∃ (hd : Nat) (pre : List Nat) (last : Int), chainP p hd = hd :: (pre ++ chainN f i) ∧ hd < i ∧ kd p hd = 7 ∧ dp p hd = d ∧ 7 ≤ last ∧ tryG last (headsK f) = true ∧ (last ≤ 8 → cs = pre.map fun x => (p.getD x default).a) ∧ (∀ x ∈ pre, hd < x ∧ x < i ∧ (last ≤ 8 → kd p x = 8)) ∧ (∀ x, hd < x → x < i → dp p x = d → kd p x ≠ 7) ∧
    ∃ k, hdD p d i = some k ∧ ∀ n, k < n → tryP p n k = hd
structure Cx (t : List Class) (p : List Line) (i : Nat) (d : Int) (f : Fo) : Prop where
  nums : numsF t f d = true
  flags : ∃ (lp m sh seen bh : Bool) (cs : List Int), okF f lp m = true ∧ (m = true → InTry p i d f cs) ∧ AlignB (deadsP t p) i (dlF t f sh seen cs) ∧ AlignB (exsP t p) i (deF t f cs) ∧ bjD p d i = seen ∧ (BH p d i ↔ bh = true) ∧
    (sh || seen) = (bh || (enD p d i).any (shutB t p)) ∧ sh = upSh t p (enD p d i)
theorem opens_kids {t : List Class} {k a b d : Int} {kids rest : Fo} (hn : numsF t (.node k a b kids rest) d = true) (hk : kids ≠ .nil) : opensK k = true := by
  rw [(numsF_node hn).2.2.1]
  cases kids with
  | nil => exact absurd rfl hk
  | node _ _ _ _ _ => rfl
theorem opensK_iff {k : Int} : opensK k = true ↔ 7 ≤ k ∧ k ≤ 12 := by simp only [opensK, inR, Bool.and_eq_true, decide_eq_true_eq]
theorem ok_kids {k a b : Int} {kids rest : Fo} {lp m : Bool} (h : okF (.node k a b kids rest) lp m = true) (ho : opensK k = true) : ∃ lp', okF kids lp' false = true := by
  rw [opensK_iff] at ho
  rcases okF_node h with ⟨_, _, o1, _⟩ | ⟨hf, ⟨_, _, o1, _⟩ | ⟨h7, _, o2, o3, _⟩⟩
  · exact ⟨_, o1⟩
  · exact ⟨_, o1⟩
  · have : ¬ (8 ≤ k ∧ k ≤ 10) := fun w => by rw [← followsK_iff, hf] at w; cases w
    by_cases h11 : k = 11
    · exact ⟨_, o2 h11⟩
    · exact ⟨_, o3 (by omega)⟩
theorem Cx.kids {t : List Class} {p : List Line} (i : Nat) (d k a b : Int) (ks re : Fo) (ha : At p i d (.node k a b ks re)) (h : Cx t p i d (.node k a b ks re)) (hk : ks ≠ .nil) : Cx t p (i + 1) (d + 1) ks := by
  have ho := opens_kids h.nums hk
  have ho' := opensK_iff.1 ho
  have hj : jumpsK k = false := by
    cases q : jumpsK k
    · rfl
    · rw [jumpsK_iff] at q; omega
  obtain ⟨lp, m, sh, seen, bh, cs, h1, h2, h3, h4, h5, h6, h7, h8⟩ := h.flags
  obtain ⟨lp', o⟩ := ok_kids h1 ho
  obtain ⟨_, e2, e3, _⟩ := dp_head ha
  obtain ⟨a1, a2, _⟩ := align_cons (show AlignB _ i (_ :: (_ ++ _)) from h3)
  obtain ⟨b1, b2, _⟩ := align_cons (show AlignB _ i (_ :: (_ ++ _)) from h4)
  have l0 : loop0 p i = (decide (k = 12) && decide (a = 0)) := by unfold loop0; rw [e2, e3]
  refine ⟨(numsF_node h.nums).2.2.2.1, lp', false, _, false, bh, [], o, fun q => (by cases q), a2, b2, bj_kids ha, ?_, ?_, ?_⟩
  · rw [bh_kids ha hj]; exact h6
  · rw [en_kids ha, List.any_cons, Bool.or_false]
    have : shutB t p i = (deadK t k a cs || (decide (k = 12) && decide (a = 0))) := by unfold shutB; rw [l0, b1, Bool.or_comm]
    rw [this]
    have e : (sh || (seen || deadK t k a cs)) = ((sh || seen) || deadK t k a cs) := by rw [Bool.or_assoc]
    rw [e, h7]
    cases bh <;> cases (enD p d i).any (shutB t p) <;> cases deadK t k a cs <;> cases (decide (k = 12) && decide (a = 0)) <;> rfl
  · rw [en_kids ha]
    show _ = ((deadsP t p).getD i false || loop0 p i)
    rw [a1, l0]
theorem Cx.rest {t : List Class} {p : List Line} (i : Nat) (d k a b : Int) (ks re : Fo) (ha : At p i d (.node k a b ks re)) (h : Cx t p i d (.node k a b ks re)) (_ : re ≠ .nil) : Cx t p (i + 1 + ks.size) d re := by
  obtain ⟨lp, m, sh, seen, bh, cs, h1, h2, h3, h4, h5, h6, h7, h8⟩ := h.flags
  obtain ⟨e1, e2, e3, _⟩ := dp_head ha
  obtain ⟨a1, _, a3⟩ := align_cons (show AlignB _ i (_ :: (_ ++ _)) from h3)
  obtain ⟨b1, _, b3⟩ := align_cons (show AlignB _ i (_ :: (_ ++ _)) from h4)
  rw [dl_len] at a3
  rw [de_len] at b3
  have hb := bj_rest ha
  rw [h5] at hb
  have common : ∀ (lp m : Bool), okF re lp m = true → (m = true → InTry p (i + 1 + ks.size) d re (csN k a cs)) → Cx t p (i + 1 + ks.size) d re := by
    intro lp m o ht
    refine ⟨(numsF_node h.nums).2.2.2.2, lp, m, sh, (seen || jumpsK k), (bh || jumpsK k), csN k a cs, o, ht, a3, b3, hb, ?_, ?_, ?_⟩
    · rw [bh_rest ha, h6, Bool.or_eq_true]
    · rw [en_rest ha, ← Bool.or_assoc, h7]
      cases bh <;> cases (enD p d i).any (shutB t p) <;> cases jumpsK k <;> rfl
    · rw [en_rest ha]; exact h8
  rcases okF_node h1 with ⟨hf, hm, o1, o2⟩ | ⟨hf, ⟨k7, ot, o1, o2⟩ | ⟨k7, o1, _, _, _⟩⟩
  · refine common lp true o2 fun _ => ?_
    obtain ⟨hd, pre, last, t1, t2, t3, t3', t4, t5, t6, t7, t10, kk, t8, t9⟩ := (h2 hm).at_
    simp only [chainN, headsK] at t1 t5
    rw [if_pos hf] at t1 t5
    obtain ⟨g1, g2⟩ := tryG_cons t5
    have hne : k ≠ 7 := by rw [followsK_iff] at hf; omega
    refine ⟨hd, pre ++ [i], k, by rw [t1, List.append_assoc]; rfl, by omega, t3, t3', by rw [followsK_iff] at hf; omega, g2, fun q => ?_, fun x hx => ?_, fun x x1 x2 x3 => ?_, i, hd_rest ha, fun n hn => ?_⟩
    · have k8 : k = 8 := by rw [followsK_iff] at hf; omega
      rw [t6 (by omega), csN, if_pos k8, List.map_append, List.map_singleton, e3]
    · rw [List.mem_append, List.mem_singleton] at hx
      rcases hx with hx | rfl
      · obtain ⟨x1, x2, x3⟩ := t7 x hx
        exact ⟨x1, by omega, fun q => x3 (by omega)⟩
      · exact ⟨t2, by omega, fun q => by rw [e2]; rw [followsK_iff] at hf; omega⟩
    · by_cases c1 : x < i
      · exact t10 x x1 c1 x3
      · by_cases c2 : x = i
        · subst c2; rw [e2]; exact hne
        · have := dp_kids ha x (by omega) x2; omega
    · cases n with
      | zero => omega
      | succ n =>
        simp only [tryP]
        rw [e2, if_neg hne, e1, t8]
        have := hdD_lt _ _ t8
        exact t9 n (by omega)
  · refine common lp true o2 fun _ => ?_
    have hcs : csN k a cs = [] := by subst k7; rfl
    rw [hcs]
    simp only [tryOkF, Bool.and_eq_true] at ot
    refine ⟨i, [], 7, chainP_at ha, by omega, by rw [e2, k7], e1, by omega, ot.1, fun _ => rfl, fun x hx => (by cases hx), fun x x1 x2 x3 => (by have := dp_kids ha x x1 x2; omega), i, hd_rest ha, fun n hn => ?_⟩
    cases n with
    | zero => omega
    | succ n =>
      simp only [tryP]
      rw [e2, if_pos k7]
  · exact common lp false o1 fun q => by cases q
end
section
open Go Go.Sim
set_option maxRecDepth 100000
set_option maxHeartbeats 4000000

theorem At.sub {p : List Line} {i : Nat} {d : Int} {f : Fo} (h : At p i d f) : (p.take (i + f.size)).drop i = f.flat d := by
  obtain ⟨pre, post, rfl, rfl, _⟩ := h
  have e1 : (pre ++ (f.flat d ++ post)).take (pre.length + f.size) = pre ++ f.flat d := by
    rw [← List.append_assoc, ← flat_len f d, ← List.length_append, List.take_left]
  rw [e1, List.drop_left]
end
end
section
set_option maxRecDepth 100000
attribute [local go_sem ↓] aw_skip aw_ret aw_exit aw_region aw_draw aw_seq aw_block aw_loop aw_cond frz_nil frz_cons sq_normal sq_ret sq_exit exB_normal exB_ret exB_same exB_other retQ_ret retQ_normal ret0_ret ret0_normal ao_nil go1 g_move g_assign g_pick g_build g_load g_binOp g_unOp g_convert g_fieldAddr g_field g_indexAddr g_index g_extract g_lookup g_slice g_nilCheck g_len g_makeFunc h_call h_append h_alloc h_box h_buildSlice h_makeSlice h_store gV i_box i_buildSlice i_move i_assign i_build i_load i_binOp i_unOp i_convert i_fieldAddr i_field i_indexAddr i_index i_extract i_lookup i_makeMap i_mapUpdate i_slice i_nilCheck i_makeFunc i_len i_max i_min i_alloc i_makeSlice i_store i_append i_call i_pick boxI boxA buildSliceI buildSliceA makeSliceA makeMapA allocA storeA p_move p_assign p_pick p_build p_load p_binOp p_unOp p_convert p_fieldAddr p_field p_indexAddr p_index p_extract p_lookup p_makeMap p_mapUpdate p_slice p_nilCheck p_makeFunc p_len p_max p_min p_alloc p_box p_buildSlice p_makeSlice p_store p_append p_call x_nil x_go1 x_g0 x_g1 x_g2 x_g3 x_s0 x_s1 x_s2 x_s3 u_move u_assign u_pick u_build u_load u_binOp u_unOp u_convert u_fieldAddr u_field u_indexAddr u_index u_extract u_lookup u_slice u_nilCheck u_makeFunc u_len u_buildSlice x_s4 x_g4 rq_normal rq_ret rq_exit aw_range
attribute [local go_sem] frzV_sl frzK_some set_none set_other AHeap.set_self set_del set_set cnd_t cnd_f cnd_b retA_one retA_two retA_three retA_four retA_nil gIf_b mrgV_b mrgV_wh mrgV_U gIf_U gIf_wh mrgB_f mrgB_some mrgB_if wh_true wh_false keepA_some keepA_if gD_zero gD_succ gT_some bxA_t bxA_f callA_fn ev_tmp ev_const ev_global ev_func oc_bool oc_int oc_string oc_nil oc_nilptr oc_nilfunc cl_bool cl_int cl_string cl_nil updO_some updO_none upd_same upd_other init_at pickA_b pickA_wh selA_t selA_f selA_and selA_or selA_orn selA_orm selA_bb selA_ii beqt b_add b_sub b_mul b_and b_or b_xor b_eql b_neq b_lss b_leq b_gtr b_geq b_quo b_rem b_shr b_seql b_sneq b_sadd b_beql b_bneq b_aeql b_aneq u_not u_neg isConstOp eqA eqCellV List.getD_cons_zero List.getD_cons_succ List.map_cons List.map_nil List.nil_append List.cons_append List.append_nil if_true if_false Option.map_some Option.map_none ne_eq not_false_eq_true oneA ldv ld1v ld1s wr1s ldRow stRow row_lit row_agg row_vsl row_sl row_ptr row_fn one_I one_B one_S one_vsl one_sl one_ptr one_fn extractA okA rI rS rU rClass rFault rExit rStart rLine Int.toNat_natCast List.length_cons List.length_nil List.length_map List.all_cons List.all_nil Bool.and_true Nat.zero_add List.getElem?_cons_zero List.getElem?_cons_succ List.take_succ_cons List.take_zero List.drop_succ_cons List.drop_zero and_self true_and and_true implies_true decide_eq_true_eq decide_eq_false_iff_not Bool.or_eq_true Bool.or_eq_false_iff Bool.and_eq_true Bool.not_eq_true' Bool.not_eq_false' beq_false decide_true decide_false Int.ofNat_lt Int.ofNat_le Int.natCast_nonneg Bool.or_true Bool.or_false Bool.true_or Bool.false_or beq_self_eq_true List.drop_one Bool.not_true Bool.not_false Bool.not_not Bool.false_eq_true Bool.true_eq_false false_implies true_implies Bool.true_and Bool.false_and Bool.and_false not_true_eq_false Int.natCast_eq_zero Int.natCast_pos Int.natCast_zero false_and and_false or_false false_or or_true true_or Bool.or_self none_le_iff List.replicate_zero Int.toNat_zero List.replicate_succ buildRows List.set_cons_zero List.set_cons_succ List.set_nil List.mapM_nil maxLen_eq Nat.zero_le Nat.mul_one Nat.one_mul bldA fillA spliceA List.take_nil List.drop_nil List.getElem?_nil ld1o wr1o bldSliceA le_same cv_i cvI_t quietT_fn qvd_some ld_o ldO_1 ldO_l wr_o wrO_1 set_2 set_3 set_4 putL_nil putL_cons List.zip_cons_cons List.zip_nil_left List.zip_nil_right List.toList_toArray frzV_set ti1 ti2 tk2 ti3 te3 ts3 tk3 tz3 ti4 tb4 ti5 tk5 tz5 ti9 te9 ts9 tk9 tz9 ti12 tk12 ti13 tp13 tf13_0 tf13_1 ti20 ti21 tk21 tz21 ti22 te22 tz22 ti23 te23 ti24 tp24 tf24_0 ti25 tp25 tf25_0 ti26 te26 ti28 ti29 te29 ti30 te30 ti31 tp31 tf31_0 ti32 tp32 tf32_0 ti33 tp33 tf33_0 tf33_1 tf33_2 tf33_3 ti34 tp34 tf34_0 tf34_1 tf34_2 tf34_3 ti35 ti36 ti37 ti39 ti40 tq40 tp40 tf40_0 tf40_1 tf40_2 tf40_3 ti41 tq41 tp41 tf41_0 tf41_1 tf41_2 tf41_3 ti42 ti43 tq43 tp43 tf43_0 tf43_1 tf43_2 ti44 tq44 tp44 tf44_0 tf44_1 tf44_2 ti45 te45 ti46 tq46 tp46 tf46_0 tf46_1 tf46_2 ti47 tq47 tp47 tf47_0 tf47_1 tf47_2 ti49 ti50 ti51 ti53 ti54 ti55 ti56 te56 ti57 tp57 tf57_0 ti58 tp58 tf58_0 ti59 te59 ti60 ti61 ti62 ti63 ti64 ti65 ti66 ti67 ti68 ti69 ti70 ti71 te71 ti72 tq72 tp72 tf72_0 tf72_1 tf72_2 ti73 ti74 ti75 ti76 ti77 ti78 ti79 ti80 ti81 ti82 ti83 ti84 ti85 ti86 ti87 tq87 tp87 tf87_0 tf87_1 ti88 tq88 tp88 tf88_0 tf88_1 ti89 ti90 ti91 ti92 ti93 ti94 ti95 ti96 ti97 ti98 ti99 ti100 ti101 ti102 tq102 tp102 tf102_0 tf102_1 tf102_2 tf102_3 tf102_4 ti103 tq103 tp103 tf103_0 tf103_1 tf103_2 tf103_3 tf103_4 ti104 ti105 ti106 ti107 ti108 ti109 ti110 ti111 ti112 ti113 tq113 tp113 tf113_0 tf113_1 tf113_2 tf113_3 ti114 ti115 ti116 ti117 ti118 ti119 ti120 tq120 tp120 tf120_0 tf120_1 tf120_2 ti121 ti122 ti123 ti124 ti125 ti126 tp126 tf126_0 tf126_1 ti127 tp127 tf127_0 tf127_1 ti128 tp128 tf128_0 tf128_1 tf128_2 tf128_3 tf128_4 ti129 tp129 tf129_0 tf129_1 tf129_2 tf129_3 tf129_4 ti131 ti132 ti133 ti134 ti135 ti136 ti137 tp137 tf137_0 tf137_1 tf137_2 tf137_3 ti138 tp138 tf138_0 tf138_1 tf138_2 tf138_3 ti139 tq139 tp139 tf139_0 tf139_1 ti140 tq140 tp140 tf140_0 tf140_1 ti141 ti142 ti143 tq143 tp143 tf143_0 tf143_1 ti144 tq144 tp144 tf144_0 tf144_1 ti145 ti146 ti147 ti148 ti149 te149 ti150 ti151 te151 ti152 ti153 ti154 ti155 ti156 ti157 ti158 tp158 tf158_0 tf158_1 tf158_2 ti159 tp159 tf159_0 tf159_1 tf159_2 ti160 ti161 ti162 ti163 ti164 ti165 ti166 ti167 ti168 ti169 tq169 tp169 tf169_0 tf169_1 ti170 ti171 ti172 ti173 ti174 ti175 ti176 ti177 te177 ti178 ti179 ti180 ti181 ti182 ti183 ti184 ti185 ti186 ti187 ti188 ti189 ti190 ti191 ti192 ti193 ti194 ti195 ti196 ti197 ti198 ti199 ti200 ti201 ti202 ti203 ti204 ti205 tk205 tz205 ti206 ti207 ti208 ti209 tk209 ti211 ti212 ti213 ti215 ti216 ti217 tk217 tz217 ti218 ti219 tk219 tz219 ti220 tk220 ti221 ti222 ti223 ti224 ti225 ti226 ti228 ti229 ti235 ti239 ti244 fp13_0 fv13_0 fp13_1 fv13_1 fp24_0 fv24_0 fp25_0 fv25_0 fp31_0 fv31_0 fp32_0 fv32_0 fp33_0 fv33_0 fp33_1 fv33_1 fp33_2 fv33_2 fp33_3 fv33_3 fp34_0 fv34_0 fp34_1 fv34_1 fp34_2 fv34_2 fp34_3 fv34_3 fp40_0 fv40_0 fp40_1 fv40_1 fp40_2 fv40_2 fp40_3 fv40_3 fp41_0 fv41_0 fp41_1 fv41_1 fp41_2 fv41_2 fp41_3 fv41_3 fp43_0 fv43_0 fp43_1 fv43_1 fp43_2 fv43_2 fp44_0 fv44_0 fp44_1 fv44_1 fp44_2 fv44_2 fp46_0 fv46_0 fp46_1 fv46_1 fp46_2 fv46_2 fp47_0 fv47_0 fp47_1 fv47_1 fp47_2 fv47_2 fp57_0 fv57_0 fp58_0 fv58_0 fp72_0 fv72_0 fp72_1 fv72_1 fp72_2 fv72_2 fp87_0 fv87_0 fp87_1 fv87_1 fp88_0 fv88_0 fp88_1 fv88_1 fp102_0 fv102_0 fp102_1 fv102_1 fp102_2 fv102_2 fp102_3 fv102_3 fp102_4 fv102_4 fp103_0 fv103_0 fp103_1 fv103_1 fp103_2 fv103_2 fp103_3 fv103_3 fp103_4 fv103_4 fp113_0 fv113_0 fp113_1 fv113_1 fp113_2 fv113_2 fp113_3 fv113_3 fp120_0 fv120_0 fp120_1 fv120_1 fp120_2 fv120_2 fp126_0 fv126_0 fp126_1 fv126_1 fp127_0 fv127_0 fp127_1 fv127_1 fp128_0 fv128_0 fp128_1 fv128_1 fp128_2 fv128_2 fp128_3 fv128_3 fp128_4 fv128_4 fp129_0 fv129_0 fp129_1 fv129_1 fp129_2 fv129_2 fp129_3 fv129_3 fp129_4 fv129_4 fp137_0 fv137_0 fp137_1 fv137_1 fp137_2 fv137_2 fp137_3 fv137_3 fp138_0 fv138_0 fp138_1 fv138_1 fp138_2 fv138_2 fp138_3 fv138_3 fp139_0 fv139_0 fp139_1 fv139_1 fp140_0 fv140_0 fp140_1 fv140_1 fp143_0 fv143_0 fp143_1 fv143_1 fp144_0 fv144_0 fp144_1 fv144_1 fp158_0 fv158_0 fp158_1 fv158_1 fp158_2 fv158_2 fp159_0 fv159_0 fp159_1 fv159_1 fp159_2 fv159_2 fp169_0 fv169_0 fp169_1 fv169_1 lv22 ll22 is22 ix22 sh22 so22 sb22 sm22 sp22 lv23 ll23 is23 ix23 sh23 so23 sb23 sm23 sp23 lv26 ll26 is26 ix26 sh26 so26 sb26 sm26 sp26 lv29 ll29 is29 ix29 sh29 so29 sb29 sm29 sp29 lv30 ll30 is30 ix30 sh30 so30 sb30 sm30 sp30 lv45 ll45 is45 ix45 sh45 so45 sb45 sm45 sp45 lv56 ll56 is56 sp56 lv59 ll59 is59 sp59 lv71 ll71 is71 sp71 lv149 ll149 is149 sp149 lv151 ll151 is151 sp151 lv177 ll177 is177 ix177 sh177 so177 sb177 sm177 sp177 xs9 ls9 sx9 sy9 sz9
section
open Go Go.Sim
set_option maxRecDepth 100000
set_option maxHeartbeats 4000000

/-- A function that draws lines into a block of their own. -/
def Drawn (f : FuncId) (p : Nat) (d : Int) : Prop := ∀ (F : AHeap) (br n : Nat) (K : ABlk) (t : List Class) (cl : Bool) (lp : Bool), RdK n K → F br = none → n + p < 600000000 →
  ACalls Tryz.prog f [.ptr br 2 0 0, aTree t cl, I d, B lp] (F.set br K) fun r H' => ∃ (l : List Line) (G : AHeap) (K' : ABlk), Grow rLine 4 41 F G r l ∧ G br = none ∧ H' = G.set br K' ∧ RdK (n + p) K' ∧ 1 ≤ l.length ∧ l.length ≤ p
/-- The same, told when nobody writes them any more. -/
def DrawnF (f : FuncId) (p : Nat) (d : Int) : Prop := ∀ (F : AHeap) (br n : Nat) (K : ABlk) (t : List Class) (cl : Bool) (lp : Bool), RdK n K → F br = none → n + p < 600000000 →
  ACalls Tryz.prog f [.ptr br 2 0 0, aTree t cl, I d, B lp] (F.set br K) fun r H' => ∃ (l : List Line) (cl' : Bool) (K' : ABlk), r = .vsl (l.map rLine) cl' ∧ H' = F.set br K' ∧ RdK (n + p) K' ∧ 1 ≤ l.length ∧ l.length ≤ p
theorem Drawn.frz {f : FuncId} {p : Nat} {d : Int} (h : Drawn f p d) : DrawnF f p d := by
  intro F br n K t cl lp hK hF hn
  refine acalls_fz (h F br n K t cl lp hK hF hn) ?_
  rintro x _ ⟨l, G, K', hg, hr, rfl, hK', h1, h2⟩
  have hg' := grow_in (K := K') hg hr
  obtain ⟨cl', hz⟩ := grow_fz hg'
  exact ⟨_, F.set br K', grow_le hg', hz, l, cl', K', rfl, rfl, hK', h1, h2⟩
end
section
open Go Go.Sim
set_option maxRecDepth 100000
set_option maxHeartbeats 4000000

theorem heap_small {t : List Class} {p : List Line} (hv : ValidP t p) : (resOf (runP t p)).heap.length ≤ 1000000 := by
  by_cases h2 : (runP t p).1.ed = 2
  · have := (validH_all (run_valid hv h2).valid).2.2.2; omega
  · rw [res_else h2]; exact Nat.zero_le _
end
section
open Go Go.Sim
set_option maxRecDepth 100000
set_option maxHeartbeats 4000000

theorem c_LawExactRunProgram (t : List Class) (cl : Bool) (p : List Line) (cl' : Bool) (H : AHeap) (hn : namesOk t) (hp : p.length ≤ 4398046511104) : ACalls Tryz.prog 6 [aTree t cl, aProg p cl'] H fun r H' => r = B true ∧ H' = H := by
  have hm := fun c5 c6 H => c_mRunProgram t c5 p c6 H hn hp
  have hs := fun c5 c6 H => c_sRunProgram t c5 p c6 H hn hp
  have hRl : (if validB t p = true then resOf (runP t p) else res0).log.length ≤ 1000000 ∧ (if validB t p = true then resOf (runP t p) else res0).heap.length ≤ 1000000 := by
    split
    · rename_i hv
      have := res_len2 (validB_true.1 hv)
      exact ⟨by omega, heap_small (validB_true.1 hv)⟩
    · exact ⟨by decide, by decide⟩
  generalize (if validB t p = true then resOf (runP t p) else res0) = R at hm hs hRl
  refine acalls_of1 Tryz.func6 rfl (by kernel_rfl) rfl rfl (awp_sound (fz := fun r => if r = 8 then [6] else if r = 9 then [7] else if r = 11 then [9] else if r = 31 then [13] else []) (im := fun s => s == 2) mixed _ _ _ _ (by kernel_rfl) ?_)
  simp +contextual -dsimp -implicitDefEqProofs (maxSteps := 5000000) only [go_sem, reduceIte, reduceCtorEq, Nat.reduceEqDiff, Nat.reduceBEq, Nat.reduceAdd, Nat.reduceLeDiff, Nat.reduceMul, Nat.reduceLT, Int.reduceEq, Int.reduceLT, Int.reduceLE]
  refine (c_szTree t cl 1048576 _ hn (by omega) (by omega)).mono ?_
  rintro _ H ⟨⟨v, rfl, hv, htl⟩, rfl⟩
  by_cases h1 : v < 0
  · simp +contextual -dsimp -implicitDefEqProofs (maxSteps := 5000000) only [go_sem, reduceIte, reduceCtorEq, Nat.reduceEqDiff, Nat.reduceBEq, Nat.reduceAdd, Nat.reduceLeDiff, Nat.reduceMul, Nat.reduceLT, Int.reduceEq, Int.reduceLT, Int.reduceLE, h1]
    refine retR_less (l := [B true]) (H' := H) ?_ (AHeap.le_refl _) ⟨rfl, rfl⟩
    simp only [resA, go_sem, reduceIte, reduceCtorEq, Nat.reduceEqDiff, Nat.reduceBEq, Nat.reduceAdd, Nat.reduceLeDiff, Nat.reduceMul, Nat.reduceLT, Int.reduceEq, Int.reduceLT, Int.reduceLE]
  simp +contextual -dsimp -implicitDefEqProofs (maxSteps := 5000000) only [go_sem, reduceIte, reduceCtorEq, Nat.reduceEqDiff, Nat.reduceBEq, Nat.reduceAdd, Nat.reduceLeDiff, Nat.reduceMul, Nat.reduceLT, Int.reduceEq, Int.reduceLT, Int.reduceLE, h1]
  refine (c_szLineS p cl' v _ (by omega) (by omega)).mono ?_
  rintro _ H ⟨⟨u, rfl, hu, hpl⟩, rfl⟩
  by_cases h2 : u < 0
  · simp +contextual -dsimp -implicitDefEqProofs (maxSteps := 5000000) only [go_sem, reduceIte, reduceCtorEq, Nat.reduceEqDiff, Nat.reduceBEq, Nat.reduceAdd, Nat.reduceLeDiff, Nat.reduceMul, Nat.reduceLT, Int.reduceEq, Int.reduceLT, Int.reduceLE, h2]
    refine retR_less (l := [B true]) (H' := H) ?_ (AHeap.le_refl _) ⟨rfl, rfl⟩
    simp only [resA, go_sem, reduceIte, reduceCtorEq, Nat.reduceEqDiff, Nat.reduceBEq, Nat.reduceAdd, Nat.reduceLeDiff, Nat.reduceMul, Nat.reduceLT, Int.reduceEq, Int.reduceLT, Int.reduceLE]
  simp +contextual -dsimp -implicitDefEqProofs (maxSteps := 5000000) only [go_sem, reduceIte, reduceCtorEq, Nat.reduceEqDiff, Nat.reduceBEq, Nat.reduceAdd, Nat.reduceLeDiff, Nat.reduceMul, Nat.reduceLT, Int.reduceEq, Int.reduceLT, Int.reduceLE, h2]
  refine acalls_frzA (c_toTree0 t cl _ (htl (by omega))) fun c1 => ?_
  simp +contextual -dsimp -implicitDefEqProofs (maxSteps := 5000000) only [go_sem, reduceIte, reduceCtorEq, Nat.reduceEqDiff, Nat.reduceBEq, Nat.reduceAdd, Nat.reduceLeDiff, Nat.reduceMul, Nat.reduceLT, Int.reduceEq, Int.reduceLT, Int.reduceLE]
  refine acalls_frz (c_toLineS p cl' _ (hpl (by omega))) fun c2 => ?_
  simp +contextual -dsimp -implicitDefEqProofs (maxSteps := 5000000) only [go_sem, reduceIte, reduceCtorEq, Nat.reduceEqDiff, Nat.reduceBEq, Nat.reduceAdd, Nat.reduceLeDiff, Nat.reduceMul, Nat.reduceLT, Int.reduceEq, Int.reduceLT, Int.reduceLE]
  refine (hs c1 c2 _).mono ?_
  rintro _ H ⟨⟨c3, c4, rfl⟩, rfl⟩
  simp +contextual -dsimp -implicitDefEqProofs (maxSteps := 5000000) only [go_sem, reduceIte, reduceCtorEq, Nat.reduceEqDiff, Nat.reduceBEq, Nat.reduceAdd, Nat.reduceLeDiff, Nat.reduceMul, Nat.reduceLT, Int.reduceEq, Int.reduceLT, Int.reduceLE]
  intro b6 hb6
  refine (c_toTree0 t cl _ (htl (by omega))).mono ?_
  rintro _ H1 ⟨x0, rfl, g0⟩
  obtain ⟨o1, o2⟩ := one_grow g0
  simp +contextual -dsimp -implicitDefEqProofs (maxSteps := 5000000) only [go_sem, reduceIte, reduceCtorEq, Nat.reduceEqDiff, Nat.reduceBEq, Nat.reduceAdd, Nat.reduceLeDiff, Nat.reduceMul, Nat.reduceLT, Int.reduceEq, Int.reduceLT, Int.reduceLE, o1, o2]
  intro b7 hb7
  refine (c_toLineS p cl' _ (hpl (by omega))).mono ?_
  rintro x1 H2 g1
  obtain ⟨o3, o4⟩ := one_grow g1
  simp +contextual -dsimp -implicitDefEqProofs (maxSteps := 5000000) only [go_sem, reduceIte, reduceCtorEq, Nat.reduceEqDiff, Nat.reduceBEq, Nat.reduceAdd, Nat.reduceLeDiff, Nat.reduceMul, Nat.reduceLT, Int.reduceEq, Int.reduceLT, Int.reduceLE, o1, o2, o3, o4]
  obtain ⟨c5, z0⟩ := grow_froz g0
  obtain ⟨c6, z1⟩ := grow_froz g1
  refine lend_res [aTree t c5, aProg p c6] (.cons (agg1_froz (froz_le z0 (grow_le g1))) (.cons z1 .nil)) (hm c5 c6 _) ?_
  intro r H3 g2
  obtain ⟨xl, xh, hr, o5, o6⟩ := own_row g2
  subst hr
  simp +contextual -dsimp -implicitDefEqProofs (maxSteps := 5000000) only [go_sem, reduceIte, reduceCtorEq, Nat.reduceEqDiff, Nat.reduceBEq, Nat.reduceAdd, Nat.reduceLeDiff, Nat.reduceMul, Nat.reduceLT, Int.reduceEq, Int.reduceLT, Int.reduceLE, o1, o2, o3, o4, o5, o6]
  intro b9 hb9
  obtain ⟨c7, c8, z2⟩ := own_froz g2
  refine acalls_borrow [aRes R c7 c8, aRes R c3 c4] (.cons z2 (.cons (.same _) .nil)) (c_eqResult R c7 c8 c3 c4 _) rfl ?_
  simp +contextual -dsimp -implicitDefEqProofs (maxSteps := 5000000) only [go_sem, reduceIte, reduceCtorEq, Nat.reduceEqDiff, Nat.reduceBEq, Nat.reduceAdd, Nat.reduceLeDiff, Nat.reduceMul, Nat.reduceLT, Int.reduceEq, Int.reduceLT, Int.reduceLE, o1, o2, o3, o4, o5, o6]
  refine draw_intro [1, 0, 3, 2, 0] _ (by kernel_rfl) (AHeap.le_refl _) ?_
  simp +contextual -dsimp -implicitDefEqProofs (maxSteps := 5000000) only [go_sem, reduceIte, reduceCtorEq, Nat.reduceEqDiff, Nat.reduceBEq, Nat.reduceAdd, Nat.reduceLeDiff, Nat.reduceMul, Nat.reduceLT, Int.reduceEq, Int.reduceLT, Int.reduceLE, o1, o2, o3, o4, o5, o6]
  refine acalls_frzA (c_toTree0 t cl _ (htl (by omega))) fun c9 => ?_
  simp +contextual -dsimp -implicitDefEqProofs (maxSteps := 5000000) only [go_sem, reduceIte, reduceCtorEq, Nat.reduceEqDiff, Nat.reduceBEq, Nat.reduceAdd, Nat.reduceLeDiff, Nat.reduceMul, Nat.reduceLT, Int.reduceEq, Int.reduceLT, Int.reduceLE, o1, o2, o3, o4, o5, o6]
  refine acalls_borrow [aTree t c5, aTree t c9] (.cons (agg1_froz (froz_le z0 (AHeap.le_trans (grow_le g1) (own_le g2)))) (.cons (.same _) .nil)) (c_eqTree t c5 c9 _) rfl ?_
  simp +contextual -dsimp -implicitDefEqProofs (maxSteps := 5000000) only [go_sem, reduceIte, reduceCtorEq, Nat.reduceEqDiff, Nat.reduceBEq, Nat.reduceAdd, Nat.reduceLeDiff, Nat.reduceMul, Nat.reduceLT, Int.reduceEq, Int.reduceLT, Int.reduceLE, o1, o2, o3, o4, o5, o6]
  refine acalls_frz (c_toLineS p cl' _ (hpl (by omega))) fun c10 => ?_
  simp +contextual -dsimp -implicitDefEqProofs (maxSteps := 5000000) only [go_sem, reduceIte, reduceCtorEq, Nat.reduceEqDiff, Nat.reduceBEq, Nat.reduceAdd, Nat.reduceLeDiff, Nat.reduceMul, Nat.reduceLT, Int.reduceEq, Int.reduceLT, Int.reduceLE, o1, o2, o3, o4, o5, o6]
  refine acalls_borrow [aProg p c6, aProg p c10] (.cons (froz_le z1 (own_le g2)) (.cons (.same _) .nil)) (c_eqLineS p c6 c10 _) rfl ?_
  simp +contextual -dsimp -implicitDefEqProofs (maxSteps := 5000000) only [go_sem, reduceIte, reduceCtorEq, Nat.reduceEqDiff, Nat.reduceBEq, Nat.reduceAdd, Nat.reduceLeDiff, Nat.reduceMul, Nat.reduceLT, Int.reduceEq, Int.reduceLT, Int.reduceLE, o1, o2, o3, o4, o5, o6]
  obtain ⟨A1, r1, g1'⟩ := res_down g1 g2
  obtain ⟨A2, r0, g0'⟩ := res_down g0 r1
  obtain ⟨A3, k1, k0⟩ := grow_swap g0' g1'
  have tl2 := htl (by omega)
  have pl2 := hpl (by omega)
  refine (c_markTree A3 H3 x0 t 1 k0 (by omega) (by omega) (by omega)).mono ?_
  rintro _ H4 ⟨rfl, t', k0'⟩
  obtain ⟨A4, m0, m1⟩ := grow_swap k1 k0'
  simp +contextual -dsimp -implicitDefEqProofs (maxSteps := 5000000) only [go_sem, reduceIte, reduceCtorEq, Nat.reduceEqDiff, Nat.reduceBEq, Nat.reduceAdd, Nat.reduceLeDiff, Nat.reduceMul, Nat.reduceLT, Int.reduceEq, Int.reduceLT, Int.reduceLE, o1, o2, o3, o4, o5, o6]
  refine (c_markLineS A4 H4 x1 p _ m1 (by omega) (by omega) (by omega)).mono ?_
  rintro _ H5 ⟨rfl, p', m1'⟩
  obtain ⟨B1, n0, q1⟩ := res_up r0 m0
  obtain ⟨B2, n1, q2⟩ := res_up q1 m1'
  have hk : ¬ (1 + 2 * (t.length : Nat) + 4 * (p.length : Nat) : Int) < 0 := by omega
  simp +contextual -dsimp -implicitDefEqProofs (maxSteps := 5000000) only [go_sem, reduceIte, reduceCtorEq, Nat.reduceEqDiff, Nat.reduceBEq, Nat.reduceAdd, Nat.reduceLeDiff, Nat.reduceMul, Nat.reduceLT, Int.reduceEq, Int.reduceLT, Int.reduceLE, o1, o2, o3, o4, o5, o6, hk]
  obtain ⟨c11, c12, z3⟩ := own_froz q2
  refine acalls_borrow [aRes R c11 c12, aRes R c3 c4] (.cons z3 (.cons (.same _) .nil)) (c_eqResult R c11 c12 c3 c4 _) rfl ?_
  simp +contextual -dsimp -implicitDefEqProofs (maxSteps := 5000000) only [go_sem, reduceIte, reduceCtorEq, Nat.reduceEqDiff, Nat.reduceBEq, Nat.reduceAdd, Nat.reduceLeDiff, Nat.reduceMul, Nat.reduceLT, Int.reduceEq, Int.reduceLT, Int.reduceLE, o1, o2, o3, o4, o5, o6, hk]
  refine (c_markResult B2 H5 _ R 1 q2 (by omega) (by omega) (by omega) (by omega)).mono ?_
  rintro _ H6 ⟨rfl, q3⟩
  obtain ⟨c13, c14, z4⟩ := own_froz q3
  have hheld := fun HH => c_heldResult R c13 c14 1 HH (by omega) (by omega) (by omega) (by omega)
  have hk2 : ¬ (1 + (R.log.length : Nat) + 5 * (R.heap.length : Nat) : Int) < 0 := by omega
  simp +contextual -dsimp -implicitDefEqProofs (maxSteps := 5000000) only [go_sem, reduceIte, reduceCtorEq, Nat.reduceEqDiff, Nat.reduceBEq, Nat.reduceAdd, Nat.reduceLeDiff, Nat.reduceMul, Nat.reduceLT, Int.reduceEq, Int.reduceLT, Int.reduceLE, o1, o2, o3, o4, o5, o6, hk2]
  refine acalls_borrow [aRes (markR R 1) c13 c14, I 1] (.cons z4 (.cons (.same _) .nil)) (hheld _) rfl ?_
  simp +contextual -dsimp -implicitDefEqProofs (maxSteps := 5000000) only [go_sem, reduceIte, reduceCtorEq, Nat.reduceEqDiff, Nat.reduceBEq, Nat.reduceAdd, Nat.reduceLeDiff, Nat.reduceMul, Nat.reduceLT, Int.reduceEq, Int.reduceLT, Int.reduceLE, o1, o2, o3, o4, o5, o6, hk2]
  refine acalls_frzA (c_toTree0 t cl _ tl2) fun c15 => ?_
  simp +contextual -dsimp -implicitDefEqProofs (maxSteps := 5000000) only [go_sem, reduceIte, reduceCtorEq, Nat.reduceEqDiff, Nat.reduceBEq, Nat.reduceAdd, Nat.reduceLeDiff, Nat.reduceMul, Nat.reduceLT, Int.reduceEq, Int.reduceLT, Int.reduceLE, o1, o2, o3, o4, o5, o6, hk2]
  refine acalls_frz (c_toLineS p cl' _ pl2) fun c16 => ?_
  simp +contextual -dsimp -implicitDefEqProofs (maxSteps := 5000000) only [go_sem, reduceIte, reduceCtorEq, Nat.reduceEqDiff, Nat.reduceBEq, Nat.reduceAdd, Nat.reduceLeDiff, Nat.reduceMul, Nat.reduceLT, Int.reduceEq, Int.reduceLT, Int.reduceLE, o1, o2, o3, o4, o5, o6, hk2]
  have hm2 := fun HH => own_frz (hm c15 c16 HH)
  refine (hm2 _).mono ?_
  rintro _ H6 ⟨⟨c17, c18, rfl⟩, rfl⟩
  simp +contextual -dsimp -implicitDefEqProofs (maxSteps := 5000000) only [go_sem, reduceIte, reduceCtorEq, Nat.reduceEqDiff, Nat.reduceBEq, Nat.reduceAdd, Nat.reduceLeDiff, Nat.reduceMul, Nat.reduceLT, Int.reduceEq, Int.reduceLT, Int.reduceLE, o1, o2, o3, o4, o5, o6, hk2]
  intro b13 hb13
  refine (c_eqResult R c17 c18 c3 c4 _).det ?_
  simp +contextual -dsimp -implicitDefEqProofs (maxSteps := 5000000) only [go_sem, reduceIte, reduceCtorEq, Nat.reduceEqDiff, Nat.reduceBEq, Nat.reduceAdd, Nat.reduceLeDiff, Nat.reduceMul, Nat.reduceLT, Int.reduceEq, Int.reduceLT, Int.reduceLE, o1, o2, o3, o4, o5, o6, hk2]
  refine acalls_borrow [aRes (markR R 1) c13 c14, I 1] (.cons z4 (.cons (.same _) .nil)) (hheld _) rfl ?_
  simp +contextual -dsimp -implicitDefEqProofs (maxSteps := 5000000) only [go_sem, reduceIte, reduceCtorEq, Nat.reduceEqDiff, Nat.reduceBEq, Nat.reduceAdd, Nat.reduceLeDiff, Nat.reduceMul, Nat.reduceLT, Int.reduceEq, Int.reduceLT, Int.reduceLE, o1, o2, o3, o4, o5, o6, hk2]
  refine retR_less (l := [B true]) (H' := H) ?_ (AHeap.le_trans (grow_le n0) (AHeap.le_trans (grow_le n1) (own_le q3))) ⟨rfl, rfl⟩
  simp only [resA, go_sem, reduceIte, reduceCtorEq, Nat.reduceEqDiff, Nat.reduceBEq, Nat.reduceAdd, Nat.reduceLeDiff, Nat.reduceMul, Nat.reduceLT, Int.reduceEq, Int.reduceLT, Int.reduceLE]
end
section
open Go Go.Sim
set_option maxRecDepth 100000
set_option maxHeartbeats 4000000

theorem c_srunF (t : List Class) (cl : Bool) (p : List Line) (cl' : Bool) (H : AHeap) (hp : p.length ≤ 4398046511104) (hv : ValidP t p) : ACalls Tryz.prog 52 [aTree t cl, aProg p cl'] H fun r H' => (∃ c1 c2, r = aRes (resOf (runP t p)) c1 c2) ∧ H' = H := by
  refine acalls_fz (c_srun t cl p cl' H hp hv) ?_
  rintro _ H' ⟨xl, c2, rfl, hg⟩
  obtain ⟨c1, hz⟩ := grow_fz hg
  rw [top_same hv] at hz ⊢
  exact ⟨_, H, grow_le hg, fz_agg (.cons hz (.refl _)), ⟨c1, c2, rfl⟩, rfl⟩
noncomputable def logOf (t : List Class) (p : List Line) : List Int := if validB t p = true then (resOf (runP t p)).log else []
theorem c_sRunLog (t : List Class) (cl : Bool) (p : List Line) (c1 : Bool) (H : AHeap) (hn : namesOk t) (hp : p.length ≤ 4398046511104) : ACalls Tryz.prog 25 [aTree t cl, aProg p c1] H fun r H' => (∃ c, r = .vsl ((logOf t p).map rI) c) ∧ H' = H := by
  refine acalls_of0 Tryz.func25 rfl (by kernel_rfl) rfl rfl (awp_sound (fz := fun _ => []) (im := fun s => s == 2) mixed _ _ _ _ (by kernel_rfl) ?_)
  simp +contextual -dsimp -implicitDefEqProofs (maxSteps := 5000000) only [go_sem, reduceIte, reduceCtorEq, Nat.reduceEqDiff, Nat.reduceBEq, Nat.reduceAdd, Nat.reduceLeDiff, Nat.reduceMul, Nat.reduceLT, Int.reduceEq, Int.reduceLT, Int.reduceLE]
  refine (c_svalidProgram t cl p c1 _ hn hp).det ?_
  unfold logOf
  cases hv : validB t p
  · simp +contextual -dsimp -implicitDefEqProofs (maxSteps := 5000000) only [go_sem, reduceIte, reduceCtorEq, Nat.reduceEqDiff, Nat.reduceBEq, Nat.reduceAdd, Nat.reduceLeDiff, Nat.reduceMul, Nat.reduceLT, Int.reduceEq, Int.reduceLT, Int.reduceLE]
    exact ⟨true, rfl⟩
  · simp +contextual -dsimp -implicitDefEqProofs (maxSteps := 5000000) only [go_sem, reduceIte, reduceCtorEq, Nat.reduceEqDiff, Nat.reduceBEq, Nat.reduceAdd, Nat.reduceLeDiff, Nat.reduceMul, Nat.reduceLT, Int.reduceEq, Int.reduceLT, Int.reduceLE]
    refine (c_srunF t cl p c1 _ hp (validB_true.1 hv)).mono ?_
    rintro _ H ⟨⟨c2, c3, rfl⟩, rfl⟩
    simp +contextual -dsimp -implicitDefEqProofs (maxSteps := 5000000) only [go_sem, reduceIte, reduceCtorEq, Nat.reduceEqDiff, Nat.reduceBEq, Nat.reduceAdd, Nat.reduceLeDiff, Nat.reduceMul, Nat.reduceLT, Int.reduceEq, Int.reduceLT, Int.reduceLE, fieldA, tf34_0, ti29]
    exact ⟨c2, rfl⟩
end
section
open Go Go.Sim
set_option maxRecDepth 100000
set_option maxHeartbeats 4000000

theorem c_mRunLogO (t : List Class) (cl : Bool) (p : List Line) (c1 : Bool) (H : AHeap) (hn : namesOk t) (hp : p.length ≤ 4398046511104) : ACalls Tryz.prog 21 [aTree t cl, aProg p c1] H fun r H' => Grow rI 1 3 H H' r (logOf t p) := by
  have e : (if validB t p = true then resOf (runP t p) else res0).log = logOf t p := by unfold logOf; split <;> rfl
  have k1 := fun H => c_mRunProgram t cl p c1 H hn hp
  rw [← e]
  generalize (if validB t p = true then resOf (runP t p) else res0) = R at k1
  refine acalls_of1 Tryz.func21 rfl (by kernel_rfl) rfl rfl (awp_sound (fz := fun _ => []) (im := fun s => s == 2) mixed _ _ _ _ (by kernel_rfl) ?_)
  simp +contextual -dsimp -implicitDefEqProofs (maxSteps := 5000000) only [go_sem, reduceIte, reduceCtorEq, Nat.reduceEqDiff, Nat.reduceBEq, Nat.reduceAdd, Nat.reduceLeDiff, Nat.reduceMul, Nat.reduceLT, Int.reduceEq, Int.reduceLT, Int.reduceLE]
  refine (k1 _).mono ?_
  rintro _ H1 ⟨xl, xh, G1, rfl, h2, h3⟩
  obtain ⟨o1, o2⟩ := one_grow h2
  obtain ⟨o3, o4⟩ := one_grow h3
  simp +contextual -dsimp -implicitDefEqProofs (maxSteps := 5000000) only [go_sem, reduceIte, reduceCtorEq, Nat.reduceEqDiff, Nat.reduceBEq, Nat.reduceAdd, Nat.reduceLeDiff, Nat.reduceMul, Nat.reduceLT, Int.reduceEq, Int.reduceLT, Int.reduceLE, fieldA, tf34_0, ti29, o1, o2, o3, o4]
  refine retR_less (l := [xl]) (H' := G1) ?_ (grow_le h3) h2
  simp only [resA, go_sem, reduceIte, reduceCtorEq, Nat.reduceEqDiff, Nat.reduceBEq, Nat.reduceAdd, Nat.reduceLeDiff, Nat.reduceMul, Nat.reduceLT, Int.reduceEq, Int.reduceLT, Int.reduceLE, o1, o2]
theorem c_LawExactRunLog (t : List Class) (cl : Bool) (p : List Line) (cl' : Bool) (H : AHeap) (hn : namesOk t) (hp : p.length ≤ 4398046511104) : ACalls Tryz.prog 5 [aTree t cl, aProg p cl'] H fun r H' => r = B true ∧ H' = H := by
  have hm := fun c5 c6 H => c_mRunLogO t c5 p c6 H hn hp
  have hs := fun c5 c6 H => c_sRunLog t c5 p c6 H hn hp
  have hRl : (logOf t p).length ≤ 1000000 := by
    unfold logOf
    split
    · rename_i hv
      have := res_len2 (validB_true.1 hv)
      omega
    · exact Nat.zero_le _
  generalize logOf t p = R at hm hs hRl
  refine acalls_of1 Tryz.func5 rfl (by kernel_rfl) rfl rfl (awp_sound (fz := fun r => if r = 9 then [7] else []) (im := fun s => s == 2) mixed _ _ _ _ (by kernel_rfl) ?_)
  simp +contextual -dsimp -implicitDefEqProofs (maxSteps := 5000000) only [go_sem, reduceIte, reduceCtorEq, Nat.reduceEqDiff, Nat.reduceBEq, Nat.reduceAdd, Nat.reduceLeDiff, Nat.reduceMul, Nat.reduceLT, Int.reduceEq, Int.reduceLT, Int.reduceLE]
  refine (c_szTree t cl 1048576 _ hn (by omega) (by omega)).mono ?_
  rintro _ H ⟨⟨v, rfl, hv, htl⟩, rfl⟩
  by_cases h1 : v < 0
  · simp +contextual -dsimp -implicitDefEqProofs (maxSteps := 5000000) only [go_sem, reduceIte, reduceCtorEq, Nat.reduceEqDiff, Nat.reduceBEq, Nat.reduceAdd, Nat.reduceLeDiff, Nat.reduceMul, Nat.reduceLT, Int.reduceEq, Int.reduceLT, Int.reduceLE, h1]
    refine retR_less (l := [B true]) (H' := H) ?_ (AHeap.le_refl _) ⟨rfl, rfl⟩
    simp only [resA, go_sem, reduceIte, reduceCtorEq, Nat.reduceEqDiff, Nat.reduceBEq, Nat.reduceAdd, Nat.reduceLeDiff, Nat.reduceMul, Nat.reduceLT, Int.reduceEq, Int.reduceLT, Int.reduceLE]
  simp +contextual -dsimp -implicitDefEqProofs (maxSteps := 5000000) only [go_sem, reduceIte, reduceCtorEq, Nat.reduceEqDiff, Nat.reduceBEq, Nat.reduceAdd, Nat.reduceLeDiff, Nat.reduceMul, Nat.reduceLT, Int.reduceEq, Int.reduceLT, Int.reduceLE, h1]
  refine (c_szLineS p cl' v _ (by omega) (by omega)).mono ?_
  rintro _ H ⟨⟨u, rfl, hu, hpl⟩, rfl⟩
  by_cases h2 : u < 0
  · simp +contextual -dsimp -implicitDefEqProofs (maxSteps := 5000000) only [go_sem, reduceIte, reduceCtorEq, Nat.reduceEqDiff, Nat.reduceBEq, Nat.reduceAdd, Nat.reduceLeDiff, Nat.reduceMul, Nat.reduceLT, Int.reduceEq, Int.reduceLT, Int.reduceLE, h2]
    refine retR_less (l := [B true]) (H' := H) ?_ (AHeap.le_refl _) ⟨rfl, rfl⟩
    simp only [resA, go_sem, reduceIte, reduceCtorEq, Nat.reduceEqDiff, Nat.reduceBEq, Nat.reduceAdd, Nat.reduceLeDiff, Nat.reduceMul, Nat.reduceLT, Int.reduceEq, Int.reduceLT, Int.reduceLE]
  simp +contextual -dsimp -implicitDefEqProofs (maxSteps := 5000000) only [go_sem, reduceIte, reduceCtorEq, Nat.reduceEqDiff, Nat.reduceBEq, Nat.reduceAdd, Nat.reduceLeDiff, Nat.reduceMul, Nat.reduceLT, Int.reduceEq, Int.reduceLT, Int.reduceLE, h2]
  refine acalls_frzA (c_toTree0 t cl _ (htl (by omega))) fun c1 => ?_
  simp +contextual -dsimp -implicitDefEqProofs (maxSteps := 5000000) only [go_sem, reduceIte, reduceCtorEq, Nat.reduceEqDiff, Nat.reduceBEq, Nat.reduceAdd, Nat.reduceLeDiff, Nat.reduceMul, Nat.reduceLT, Int.reduceEq, Int.reduceLT, Int.reduceLE]
  refine acalls_frz (c_toLineS p cl' _ (hpl (by omega))) fun c2 => ?_
  simp +contextual -dsimp -implicitDefEqProofs (maxSteps := 5000000) only [go_sem, reduceIte, reduceCtorEq, Nat.reduceEqDiff, Nat.reduceBEq, Nat.reduceAdd, Nat.reduceLeDiff, Nat.reduceMul, Nat.reduceLT, Int.reduceEq, Int.reduceLT, Int.reduceLE]
  refine (hs c1 c2 _).mono ?_
  rintro _ H ⟨⟨c3, rfl⟩, rfl⟩
  simp +contextual -dsimp -implicitDefEqProofs (maxSteps := 5000000) only [go_sem, reduceIte, reduceCtorEq, Nat.reduceEqDiff, Nat.reduceBEq, Nat.reduceAdd, Nat.reduceLeDiff, Nat.reduceMul, Nat.reduceLT, Int.reduceEq, Int.reduceLT, Int.reduceLE]
  refine (c_toTree0 t cl _ (htl (by omega))).mono ?_
  rintro _ H1 ⟨x0, rfl, g0⟩
  obtain ⟨o1, o2⟩ := one_grow g0
  simp +contextual -dsimp -implicitDefEqProofs (maxSteps := 5000000) only [go_sem, reduceIte, reduceCtorEq, Nat.reduceEqDiff, Nat.reduceBEq, Nat.reduceAdd, Nat.reduceLeDiff, Nat.reduceMul, Nat.reduceLT, Int.reduceEq, Int.reduceLT, Int.reduceLE, o1, o2]
  intro b7 hb7
  refine (c_toLineS p cl' _ (hpl (by omega))).mono ?_
  rintro x1 H2 g1
  obtain ⟨o3, o4⟩ := one_grow g1
  simp +contextual -dsimp -implicitDefEqProofs (maxSteps := 5000000) only [go_sem, reduceIte, reduceCtorEq, Nat.reduceEqDiff, Nat.reduceBEq, Nat.reduceAdd, Nat.reduceLeDiff, Nat.reduceMul, Nat.reduceLT, Int.reduceEq, Int.reduceLT, Int.reduceLE, o1, o2, o3, o4]
  obtain ⟨c5, z0⟩ := grow_froz g0
  obtain ⟨c6, z1⟩ := grow_froz g1
  refine lend_grow [aTree t c5, aProg p c6] (.cons (agg1_froz (froz_le z0 (grow_le g1))) (.cons z1 .nil)) (hm c5 c6 _) nov_int ?_
  intro r H3 g2
  obtain ⟨o5, o6⟩ := one_grow g2
  simp +contextual -dsimp -implicitDefEqProofs (maxSteps := 5000000) only [go_sem, reduceIte, reduceCtorEq, Nat.reduceEqDiff, Nat.reduceBEq, Nat.reduceAdd, Nat.reduceLeDiff, Nat.reduceMul, Nat.reduceLT, Int.reduceEq, Int.reduceLT, Int.reduceLE, o1, o2, o3, o4, o5, o6]
  obtain ⟨c7, z2⟩ := grow_froz g2
  refine acalls_borrow [.vsl (R.map rI) c7, .vsl (R.map rI) c3] (.cons z2 (.cons (.same _) .nil)) (c_eqIntS R c7 c3 _) rfl ?_
  simp +contextual -dsimp -implicitDefEqProofs (maxSteps := 5000000) only [go_sem, reduceIte, reduceCtorEq, Nat.reduceEqDiff, Nat.reduceBEq, Nat.reduceAdd, Nat.reduceLeDiff, Nat.reduceMul, Nat.reduceLT, Int.reduceEq, Int.reduceLT, Int.reduceLE, o1, o2, o3, o4, o5, o6]
  refine draw_intro [1, 0, 3, 2, 0] _ (by kernel_rfl) (AHeap.le_refl _) ?_
  simp +contextual -dsimp -implicitDefEqProofs (maxSteps := 5000000) only [go_sem, reduceIte, reduceCtorEq, Nat.reduceEqDiff, Nat.reduceBEq, Nat.reduceAdd, Nat.reduceLeDiff, Nat.reduceMul, Nat.reduceLT, Int.reduceEq, Int.reduceLT, Int.reduceLE, o1, o2, o3, o4, o5, o6]
  refine acalls_frzA (c_toTree0 t cl _ (htl (by omega))) fun c9 => ?_
  simp +contextual -dsimp -implicitDefEqProofs (maxSteps := 5000000) only [go_sem, reduceIte, reduceCtorEq, Nat.reduceEqDiff, Nat.reduceBEq, Nat.reduceAdd, Nat.reduceLeDiff, Nat.reduceMul, Nat.reduceLT, Int.reduceEq, Int.reduceLT, Int.reduceLE, o1, o2, o3, o4, o5, o6]
  refine acalls_borrow [aTree t c5, aTree t c9] (.cons (agg1_froz (froz_le z0 (AHeap.le_trans (grow_le g1) (grow_le g2)))) (.cons (.same _) .nil)) (c_eqTree t c5 c9 _) rfl ?_
  simp +contextual -dsimp -implicitDefEqProofs (maxSteps := 5000000) only [go_sem, reduceIte, reduceCtorEq, Nat.reduceEqDiff, Nat.reduceBEq, Nat.reduceAdd, Nat.reduceLeDiff, Nat.reduceMul, Nat.reduceLT, Int.reduceEq, Int.reduceLT, Int.reduceLE, o1, o2, o3, o4, o5, o6]
  refine acalls_frz (c_toLineS p cl' _ (hpl (by omega))) fun c10 => ?_
  simp +contextual -dsimp -implicitDefEqProofs (maxSteps := 5000000) only [go_sem, reduceIte, reduceCtorEq, Nat.reduceEqDiff, Nat.reduceBEq, Nat.reduceAdd, Nat.reduceLeDiff, Nat.reduceMul, Nat.reduceLT, Int.reduceEq, Int.reduceLT, Int.reduceLE, o1, o2, o3, o4, o5, o6]
  refine acalls_borrow [aProg p c6, aProg p c10] (.cons (froz_le z1 (grow_le g2)) (.cons (.same _) .nil)) (c_eqLineS p c6 c10 _) rfl ?_
  simp +contextual -dsimp -implicitDefEqProofs (maxSteps := 5000000) only [go_sem, reduceIte, reduceCtorEq, Nat.reduceEqDiff, Nat.reduceBEq, Nat.reduceAdd, Nat.reduceLeDiff, Nat.reduceMul, Nat.reduceLT, Int.reduceEq, Int.reduceLT, Int.reduceLE, o1, o2, o3, o4, o5, o6]
  obtain ⟨A1, r1, g1'⟩ := grow_swap g1 g2
  obtain ⟨A2, r0, g0'⟩ := grow_swap g0 r1
  obtain ⟨A3, k1, k0⟩ := grow_swap g0' g1'
  have tl2 := htl (by omega)
  have pl2 := hpl (by omega)
  refine (c_markTree A3 H3 x0 t 1 k0 (by omega) (by omega) (by omega)).mono ?_
  rintro _ H4 ⟨rfl, t', k0'⟩
  obtain ⟨A4, m0, m1⟩ := grow_swap k1 k0'
  simp +contextual -dsimp -implicitDefEqProofs (maxSteps := 5000000) only [go_sem, reduceIte, reduceCtorEq, Nat.reduceEqDiff, Nat.reduceBEq, Nat.reduceAdd, Nat.reduceLeDiff, Nat.reduceMul, Nat.reduceLT, Int.reduceEq, Int.reduceLT, Int.reduceLE, o1, o2, o3, o4, o5, o6]
  refine (c_markLineS A4 H4 x1 p _ m1 (by omega) (by omega) (by omega)).mono ?_
  rintro _ H5 ⟨rfl, p', m1'⟩
  obtain ⟨B1, n0, q1⟩ := grow_swap r0 m0
  obtain ⟨B2, n1, q2⟩ := grow_swap q1 m1'
  have hk : ¬ (1 + 2 * (t.length : Nat) + 4 * (p.length : Nat) : Int) < 0 := by omega
  simp +contextual -dsimp -implicitDefEqProofs (maxSteps := 5000000) only [go_sem, reduceIte, reduceCtorEq, Nat.reduceEqDiff, Nat.reduceBEq, Nat.reduceAdd, Nat.reduceLeDiff, Nat.reduceMul, Nat.reduceLT, Int.reduceEq, Int.reduceLT, Int.reduceLE, o1, o2, o3, o4, o5, o6, hk]
  obtain ⟨c11, z3⟩ := grow_froz q2
  refine acalls_borrow [.vsl (R.map rI) c11, .vsl (R.map rI) c3] (.cons z3 (.cons (.same _) .nil)) (c_eqIntS R c11 c3 _) rfl ?_
  simp +contextual -dsimp -implicitDefEqProofs (maxSteps := 5000000) only [go_sem, reduceIte, reduceCtorEq, Nat.reduceEqDiff, Nat.reduceBEq, Nat.reduceAdd, Nat.reduceLeDiff, Nat.reduceMul, Nat.reduceLT, Int.reduceEq, Int.reduceLT, Int.reduceLE, o1, o2, o3, o4, o5, o6, hk]
  refine (c_markIntS B2 H5 _ R 1 q2 (by omega) (by omega) (by omega)).mono ?_
  rintro _ H6 ⟨rfl, q3⟩
  obtain ⟨c13, z4⟩ := grow_froz q3
  have hheld := fun HH => c_heldIntS R.length c13 1 HH (by omega) (by omega) (by omega)
  have hk2 : ¬ (1 + (R.length : Nat) : Int) < 0 := by omega
  simp +contextual -dsimp -implicitDefEqProofs (maxSteps := 5000000) only [go_sem, reduceIte, reduceCtorEq, Nat.reduceEqDiff, Nat.reduceBEq, Nat.reduceAdd, Nat.reduceLeDiff, Nat.reduceMul, Nat.reduceLT, Int.reduceEq, Int.reduceLT, Int.reduceLE, o1, o2, o3, o4, o5, o6, hk2]
  refine acalls_borrow [.vsl (((List.range R.length).map (markI 1)).map rI) c13, I 1] (.cons z4 (.cons (.same _) .nil)) (hheld _) rfl ?_
  simp +contextual -dsimp -implicitDefEqProofs (maxSteps := 5000000) only [go_sem, reduceIte, reduceCtorEq, Nat.reduceEqDiff, Nat.reduceBEq, Nat.reduceAdd, Nat.reduceLeDiff, Nat.reduceMul, Nat.reduceLT, Int.reduceEq, Int.reduceLT, Int.reduceLE, o1, o2, o3, o4, o5, o6, hk2]
  refine acalls_frzA (c_toTree0 t cl _ tl2) fun c15 => ?_
  simp +contextual -dsimp -implicitDefEqProofs (maxSteps := 5000000) only [go_sem, reduceIte, reduceCtorEq, Nat.reduceEqDiff, Nat.reduceBEq, Nat.reduceAdd, Nat.reduceLeDiff, Nat.reduceMul, Nat.reduceLT, Int.reduceEq, Int.reduceLT, Int.reduceLE, o1, o2, o3, o4, o5, o6, hk2]
  refine acalls_frz (c_toLineS p cl' _ pl2) fun c16 => ?_
  simp +contextual -dsimp -implicitDefEqProofs (maxSteps := 5000000) only [go_sem, reduceIte, reduceCtorEq, Nat.reduceEqDiff, Nat.reduceBEq, Nat.reduceAdd, Nat.reduceLeDiff, Nat.reduceMul, Nat.reduceLT, Int.reduceEq, Int.reduceLT, Int.reduceLE, o1, o2, o3, o4, o5, o6, hk2]
  refine acalls_frz (hm c15 c16 _) fun c17 => ?_
  simp +contextual -dsimp -implicitDefEqProofs (maxSteps := 5000000) only [go_sem, reduceIte, reduceCtorEq, Nat.reduceEqDiff, Nat.reduceBEq, Nat.reduceAdd, Nat.reduceLeDiff, Nat.reduceMul, Nat.reduceLT, Int.reduceEq, Int.reduceLT, Int.reduceLE, o1, o2, o3, o4, o5, o6, hk2]
  refine (c_eqIntS R c17 c3 _).det ?_
  simp +contextual -dsimp -implicitDefEqProofs (maxSteps := 5000000) only [go_sem, reduceIte, reduceCtorEq, Nat.reduceEqDiff, Nat.reduceBEq, Nat.reduceAdd, Nat.reduceLeDiff, Nat.reduceMul, Nat.reduceLT, Int.reduceEq, Int.reduceLT, Int.reduceLE, o1, o2, o3, o4, o5, o6, hk2]
  refine acalls_borrow [.vsl (((List.range R.length).map (markI 1)).map rI) c13, I 1] (.cons z4 (.cons (.same _) .nil)) (hheld _) rfl ?_
  simp +contextual -dsimp -implicitDefEqProofs (maxSteps := 5000000) only [go_sem, reduceIte, reduceCtorEq, Nat.reduceEqDiff, Nat.reduceBEq, Nat.reduceAdd, Nat.reduceLeDiff, Nat.reduceMul, Nat.reduceLT, Int.reduceEq, Int.reduceLT, Int.reduceLE, o1, o2, o3, o4, o5, o6, hk2]
  refine retR_less (l := [B true]) (H' := H) ?_ (AHeap.le_trans (grow_le n0) (AHeap.le_trans (grow_le n1) (grow_le q3))) ⟨rfl, rfl⟩
  simp only [resA, go_sem, reduceIte, reduceCtorEq, Nat.reduceEqDiff, Nat.reduceBEq, Nat.reduceAdd, Nat.reduceLeDiff, Nat.reduceMul, Nat.reduceLT, Int.reduceEq, Int.reduceLT, Int.reduceLE]
end
end
end Go.Proofs.YtjpfgafdjlkblaaGreat
