/- The law LowerWith answers true at every input: what is opened can be closed by a try. No condition. -/
import Derived.Test.YtbjgilehnlpmaaaJ4
section
set_option linter.unusedVariables false
set_option linter.unusedSimpArgs false
namespace Go.Proofs.Ytbjgilehnlpmaaa
open Go Go.Sim
set_option maxRecDepth 100000
attribute [local go_sem ↓] aw_skip aw_ret aw_exit aw_region aw_draw aw_seq aw_block aw_loop aw_cond frz_nil frz_cons sq_normal sq_ret sq_exit exB_normal exB_ret exB_same exB_other retQ_ret retQ_normal ret0_ret ret0_normal ao_nil go1 g_move g_assign g_pick g_build g_load g_binOp g_unOp g_convert g_fieldAddr g_field g_indexAddr g_index g_extract g_slice g_nilCheck g_len g_makeFunc h_call h_append h_alloc h_box h_buildSlice h_makeSlice h_store gV i_box i_buildSlice i_move i_assign i_build i_load i_binOp i_unOp i_convert i_fieldAddr i_field i_indexAddr i_index i_extract i_slice i_nilCheck i_makeFunc i_len i_max i_min i_alloc i_makeSlice i_store i_append i_call i_pick boxI boxA buildSliceI buildSliceA makeSliceA allocA storeA p_move p_assign p_pick p_build p_load p_binOp p_unOp p_convert p_fieldAddr p_field p_indexAddr p_index p_extract p_slice p_nilCheck p_makeFunc p_len p_max p_min p_alloc p_box p_buildSlice p_makeSlice p_store p_append p_call x_nil x_go1 x_g0 x_g1 x_g2 x_g3 x_s0 x_s1 x_s2 x_s3 u_move u_assign u_pick u_build u_load u_binOp u_unOp u_convert u_fieldAddr u_field u_indexAddr u_index u_extract u_slice u_nilCheck u_makeFunc u_len u_buildSlice x_s4 x_g4 rq_normal rq_ret rq_exit aw_range
attribute [local go_sem] frzV_sl frzK_some set_none set_other AHeap.set_self set_del set_set cnd_t cnd_f cnd_b retA_one retA_two retA_three retA_four retA_nil gIf_b mrgV_b mrgV_wh mrgV_U gIf_U gIf_wh mrgB_f mrgB_some mrgB_if wh_true wh_false keepA_some keepA_if gD_zero gD_succ gT_some bxA_t bxA_f callA_fn ev_tmp ev_const ev_global ev_func oc_bool oc_int oc_string oc_nil oc_nilptr oc_nilfunc cl_bool cl_int cl_string cl_nil updO_some updO_none upd_same upd_other init_at pickA_b pickA_wh selA_t selA_f selA_and selA_or selA_orn selA_orm selA_bb selA_ii beqt b_add b_sub b_mul b_and b_or b_xor b_eql b_neq b_lss b_leq b_gtr b_geq b_quo b_rem b_shr b_seql b_sneq b_sadd b_beql b_bneq b_aeql b_aneq u_not u_neg isConstOp eqA eqCellV List.getD_cons_zero List.getD_cons_succ List.map_cons List.map_nil List.nil_append List.cons_append List.append_nil if_true if_false Option.map_some Option.map_none ne_eq not_false_eq_true oneA ldv ld1v ld1s wr1s ldRow stRow row_lit row_agg row_vsl row_sl row_ptr row_fn one_I one_B one_S one_vsl one_sl one_ptr one_fn extractA okA rI rS rU rClass rFault rExit rStart rLine Int.toNat_natCast List.length_cons List.length_nil List.length_map List.all_cons List.all_nil Bool.and_true Nat.zero_add List.getElem?_cons_zero List.getElem?_cons_succ List.take_succ_cons List.take_zero List.drop_succ_cons List.drop_zero and_self true_and and_true implies_true decide_eq_true_eq decide_eq_false_iff_not Bool.or_eq_true Bool.or_eq_false_iff Bool.and_eq_true Bool.not_eq_true' Bool.not_eq_false' beq_false decide_true decide_false Int.ofNat_lt Int.ofNat_le Int.natCast_nonneg Bool.or_true Bool.or_false Bool.true_or Bool.false_or beq_self_eq_true List.drop_one Bool.not_true Bool.not_false Bool.not_not Bool.false_eq_true Bool.true_eq_false false_implies true_implies Bool.true_and Bool.false_and Bool.and_false not_true_eq_false Int.natCast_eq_zero Int.natCast_pos Int.natCast_zero false_and and_false or_false false_or or_true true_or Bool.or_self none_le_iff List.replicate_zero Int.toNat_zero List.replicate_succ buildRows List.set_cons_zero List.set_cons_succ List.set_nil List.mapM_nil maxLen_eq Nat.zero_le Nat.mul_one Nat.one_mul bldA fillA spliceA List.take_nil List.drop_nil List.getElem?_nil ld1o wr1o bldSliceA le_same cv_i cvI_t quietT_fn qvd_some ld_o ldO_1 ldO_l wr_o wrO_1 set_2 set_3 set_4 putL_nil putL_cons List.zip_cons_cons List.zip_nil_left List.zip_nil_right List.toList_toArray frzV_set ti1 ti2 tk2 ti3 te3 ts3 tk3 tz3 ti4 tb4 ti5 tk5 tz5 ti9 te9 ts9 tk9 tz9 ti12 tk12 ti13 tp13 tf13_0 tf13_1 ti20 ti21 tk21 tz21 ti22 te22 ti23 tp23 tf23_0 ti24 tp24 tf24_0 ti25 te25 ti27 ti28 ti29 te29 ti30 te30 ti31 tp31 tf31_0 ti32 tp32 tf32_0 ti33 tp33 tf33_0 tf33_1 tf33_2 tf33_3 ti34 tp34 tf34_0 tf34_1 tf34_2 tf34_3 ti35 ti36 tq36 tp36 tf36_0 tf36_1 tf36_2 tf36_3 ti37 tq37 tp37 tf37_0 tf37_1 tf37_2 tf37_3 ti38 ti39 ti40 ti41 ti42 ti43 ti44 te44 tz44 ti46 ti47 ti48 ti49 ti50 ti51 ti52 tq52 tp52 tf52_0 tf52_1 ti53 tq53 tp53 tf53_0 tf53_1 ti54 ti55 tq55 tp55 tf55_0 tf55_1 tf55_2 tf55_3 tf55_4 ti56 tq56 tp56 tf56_0 tf56_1 tf56_2 tf56_3 tf56_4 ti57 ti58 ti59 ti60 ti61 ti62 ti63 ti64 ti65 ti66 ti67 ti68 ti69 ti70 tp70 tf70_0 tf70_1 tf70_2 tf70_3 tf70_4 ti71 tp71 tf71_0 tf71_1 tf71_2 tf71_3 tf71_4 ti73 ti74 ti75 ti76 ti77 ti78 ti79 ti80 tq80 tp80 tf80_0 tf80_1 ti81 tq81 tp81 tf81_0 tf81_1 ti82 ti83 ti84 ti85 ti86 ti87 ti88 ti89 ti90 tp90 tf90_0 tf90_1 ti91 tp91 tf91_0 tf91_1 ti92 ti93 ti94 ti95 ti96 ti97 ti98 ti99 ti100 ti101 ti102 ti103 te103 ti104 ti105 ti106 ti107 ti108 ti109 ti110 ti111 ti112 tk112 tz112 ti113 ti114 ti115 tk115 ti117 ti118 ti119 ti121 ti122 ti123 tk123 tz123 ti124 ti125 tk125 tz125 ti126 ti127 tk127 ti128 ti129 ti130 ti131 ti132 ti133 ti135 ti136 ti142 ti146 fp13_0 fv13_0 fp13_1 fv13_1 fp23_0 fv23_0 fp24_0 fv24_0 fp31_0 fv31_0 fp32_0 fv32_0 fp33_0 fv33_0 fp33_1 fv33_1 fp33_2 fv33_2 fp33_3 fv33_3 fp34_0 fv34_0 fp34_1 fv34_1 fp34_2 fv34_2 fp34_3 fv34_3 fp36_0 fv36_0 fp36_1 fv36_1 fp36_2 fv36_2 fp36_3 fv36_3 fp37_0 fv37_0 fp37_1 fv37_1 fp37_2 fv37_2 fp37_3 fv37_3 fp52_0 fv52_0 fp52_1 fv52_1 fp53_0 fv53_0 fp53_1 fv53_1 fp55_0 fv55_0 fp55_1 fv55_1 fp55_2 fv55_2 fp55_3 fv55_3 fp55_4 fv55_4 fp56_0 fv56_0 fp56_1 fv56_1 fp56_2 fv56_2 fp56_3 fv56_3 fp56_4 fv56_4 fp70_0 fv70_0 fp70_1 fv70_1 fp70_2 fv70_2 fp70_3 fv70_3 fp70_4 fv70_4 fp71_0 fv71_0 fp71_1 fv71_1 fp71_2 fv71_2 fp71_3 fv71_3 fp71_4 fv71_4 fp80_0 fv80_0 fp80_1 fv80_1 fp81_0 fv81_0 fp81_1 fv81_1 fp90_0 fv90_0 fp90_1 fv90_1 fp91_0 fv91_0 fp91_1 fv91_1 lv22 ll22 is22 ix22 sh22 so22 sb22 sm22 sp22 lv25 ll25 is25 ix25 sh25 so25 sb25 sm25 sp25 lv29 ll29 is29 ix29 sh29 so29 sb29 sm29 sp29 lv30 ll30 is30 ix30 sh30 so30 sb30 sm30 sp30 lv44 ll44 is44 ix44 sh44 so44 sb44 sm44 sp44 lv103 ll103 is103 ix103 sh103 so103 sb103 sm103 sp103 xs9 ls9 sx9 sy9 sz9
set_option maxHeartbeats 4000000

theorem c_line {t : List Class} {cl : Bool} {P : List Line} {clp : Bool} {n : Nat} (ht : validT t = true) (ih : LinesOk t cl P clp n) {i : Nat} {d k a b h : Int} {kids rest : Fo} {s : RS} {F H : AHeap} {bm : Nat}
    (hn : kids.size < n) (hat : At P i d (.node k a b kids rest)) (hno : numOk t k a b = true) (hk : numsF t kids (d + 1) = true) (hs : FsOk t s.fs) (hh : h < s.fs.length) (hl : s.log.length + (2 + (if k = 12 then a.toNat * cost kids else cost kids)) ≤ 900000) (hf : s.fs.length + (2 + (if k = 12 then a.toNat * cost kids else cost kids)) ≤ 900000) (hM : MachS F H bm t cl P clp s) (hp : P.length ≤ 4398046511104) :
    ACalls Try.prog 46 [.ptr bm 5 0 0, I i, I h] H fun r H' => r = .agg (rEn (lineR k a b i h (fun s => runF t kids (i + 1) none h s) s).1) ∧ MachS F H' bm t cl P clp (lineR k a b i h (fun s => runF t kids (i + 1) none h s) s).2 := by
  have hi := hat.head.1
  have hx := hat.head.2
  obtain ⟨xl, xf, H1, H2, hF, hg1, hg2, hb, rfl⟩ := id hM
  refine acalls_of1 Try.func46 rfl (by kernel_rfl) rfl rfl (awp_sound (fz := fun r => if r = 1 then [7] else if r = 21 then [8] else if r = 29 then [9] else []) (im := fun _ => false) mixed _ _ _ _ (by kernel_rfl) ?_)
  simp +contextual -dsimp -implicitDefEqProofs (maxSteps := 5000000) only [go_sem, reduceIte, reduceCtorEq, Nat.reduceEqDiff, Nat.reduceBEq, Nat.reduceAdd, Nat.reduceLeDiff, Nat.reduceMul, Nat.reduceLT, Int.reduceEq, Int.reduceLT, Int.reduceLE, hi, hx]
  rintro b6 ⟨n1, n2, hn2⟩
  rintro b7 hb7
  refine (c_lineJumps ⟨d, k, a, b⟩ _).det ?_
  have nb6 : ∀ K, (H2.set bm K) b6 = none := fun K => by rw [set_other n1]; exact hn2
  have hF6 : F b6 = none := grow_none hg1 (grow_none hg2 hn2)
  have jump1 : s.first < 0 → jumpsK k = true → s.jump k i = ⟨s.log, s.fs, (i : Int)⟩ := fun q1 q2 => by unfold RS.jump; rw [if_pos ⟨q2, q1⟩]
  have jump0 : ¬ s.first < 0 → s.jump k i = ⟨s.log, s.fs, s.first⟩ := fun q1 => by unfold RS.jump; rw [if_neg (fun q => q1 q.2)]
  have jumpn : jumpsK k = false → s.jump k i = ⟨s.log, s.fs, s.first⟩ := fun q1 => by unfold RS.jump; rw [if_neg (fun q => by rw [q1] at q; cases q.1)]
  have hMi : ∀ v : Int, Mach F (H2.set bm ⟨5, 71, [[.vsl (t.map rClass) cl, aProg P clp, xl, xf, I v]]⟩) bm (.vsl (t.map rClass) cl) (aProg P clp) s.log s.fs v := fun v => ⟨xl, xf, H1, H2, hF, hg1, hg2, hb, rfl⟩
  have hfl : s.fs.length < 999999 := by omega
  by_cases k2 : k = 2
  · have hj : jumpsK k = true := by rw [k2]; rfl
    by_cases hf0 : s.first < 0
    · have e : lineR k a b i h (fun s => runF t kids (i + 1) none h s) s = (⟨2, s.fs.length⟩, ⟨s.log, raiseF s.fs a b h, (i : Int)⟩) := by
        unfold lineR lineS; rw [jump1 hf0 hj, if_neg (by omega), if_neg (by omega), if_neg (by omega), if_pos k2]; rfl
      rw [e]
      simp +contextual -dsimp -implicitDefEqProofs (maxSteps := 5000000) only [go_sem, reduceIte, reduceCtorEq, Nat.reduceEqDiff, Nat.reduceBEq, Nat.reduceAdd, Nat.reduceLeDiff, Nat.reduceMul, Nat.reduceLT, Int.reduceEq, Int.reduceLT, Int.reduceLE, hi, hx, n1, n2, k2, hf0, hj, show jumpsK 2 = true from rfl]
      refine (c_raise _ _ bm _ _ s.log s.fs (i : Int) a b h (mach_in (K := ⟨2, 53, [[I 0, I 0]]⟩) (hMi (i : Int)) (nb6 _)) hfl hs.ho (by omega)).mono ?_
      rintro _ H9 ⟨rfl, hM9⟩
      obtain ⟨H10, rfl, hM10, hn10⟩ := mach_out hM9 hF6
      simp +contextual -dsimp -implicitDefEqProofs (maxSteps := 5000000) only [go_sem, reduceIte, reduceCtorEq, Nat.reduceEqDiff, Nat.reduceBEq, Nat.reduceAdd, Nat.reduceLeDiff, Nat.reduceMul, Nat.reduceLT, Int.reduceEq, Int.reduceLT, Int.reduceLE, hi, hx, n1, n2, k2, hf0, hj, show jumpsK 2 = true from rfl]
      refine retR_less (l := [.agg (rEn ⟨2, s.fs.length⟩)]) (H' := H10) ?_ (le_set hn10) ⟨rfl, hM10⟩
      simp only [resA, go_sem, reduceIte, reduceCtorEq, Nat.reduceEqDiff, Nat.reduceBEq, Nat.reduceAdd, Nat.reduceLeDiff, Nat.reduceMul, Nat.reduceLT, Int.reduceEq, Int.reduceLT, Int.reduceLE, rEn]
    · have e : lineR k a b i h (fun s => runF t kids (i + 1) none h s) s = (⟨2, s.fs.length⟩, ⟨s.log, raiseF s.fs a b h, s.first⟩) := by
        unfold lineR lineS; rw [jump0 hf0, if_neg (by omega), if_neg (by omega), if_neg (by omega), if_pos k2]; rfl
      rw [e]
      simp +contextual -dsimp -implicitDefEqProofs (maxSteps := 5000000) only [go_sem, reduceIte, reduceCtorEq, Nat.reduceEqDiff, Nat.reduceBEq, Nat.reduceAdd, Nat.reduceLeDiff, Nat.reduceMul, Nat.reduceLT, Int.reduceEq, Int.reduceLT, Int.reduceLE, hi, hx, n1, n2, k2, hf0, hj, show jumpsK 2 = true from rfl]
      refine (c_raise _ _ bm _ _ s.log s.fs s.first a b h (mach_in (K := ⟨2, 53, [[I 0, I 0]]⟩) (hMi s.first) (nb6 _)) hfl hs.ho (by omega)).mono ?_
      rintro _ H9 ⟨rfl, hM9⟩
      obtain ⟨H10, rfl, hM10, hn10⟩ := mach_out hM9 hF6
      simp +contextual -dsimp -implicitDefEqProofs (maxSteps := 5000000) only [go_sem, reduceIte, reduceCtorEq, Nat.reduceEqDiff, Nat.reduceBEq, Nat.reduceAdd, Nat.reduceLeDiff, Nat.reduceMul, Nat.reduceLT, Int.reduceEq, Int.reduceLT, Int.reduceLE, hi, hx, n1, n2, k2, hf0, hj, show jumpsK 2 = true from rfl]
      refine retR_less (l := [.agg (rEn ⟨2, s.fs.length⟩)]) (H' := H10) ?_ (le_set hn10) ⟨rfl, hM10⟩
      simp only [resA, go_sem, reduceIte, reduceCtorEq, Nat.reduceEqDiff, Nat.reduceBEq, Nat.reduceAdd, Nat.reduceLeDiff, Nat.reduceMul, Nat.reduceLT, Int.reduceEq, Int.reduceLT, Int.reduceLE, rEn]
  by_cases k3 : k = 3
  · have hj : jumpsK k = true := by rw [k3]; rfl
    by_cases hf0 : s.first < 0
    · by_cases hh0 : h < 0
      · have e : lineR k a b i h (fun s => runF t kids (i + 1) none h s) s = (⟨2, s.fs.length⟩, ⟨s.log, raiseF s.fs 0 0 (-1), (i : Int)⟩) := by
          unfold lineR lineS; rw [jump1 hf0 hj, if_neg (by omega), if_neg (by omega), if_neg (by omega), if_neg (by omega), if_pos k3, if_pos hh0]; rfl
        rw [e]
        simp +contextual -dsimp -implicitDefEqProofs (maxSteps := 5000000) only [go_sem, reduceIte, reduceCtorEq, Nat.reduceEqDiff, Nat.reduceBEq, Nat.reduceAdd, Nat.reduceLeDiff, Nat.reduceMul, Nat.reduceLT, Int.reduceEq, Int.reduceLT, Int.reduceLE, hi, hx, n1, n2, k3, hf0, hj, show jumpsK 3 = true from rfl, hh0]
        refine (c_raise _ _ bm _ _ s.log s.fs (i : Int) 0 0 (-1) (mach_in (K := ⟨2, 53, [[I 0, I 0]]⟩) (hMi (i : Int)) (nb6 _)) hfl hs.ho (by omega)).mono ?_
        rintro _ H9 ⟨rfl, hM9⟩
        obtain ⟨H10, rfl, hM10, hn10⟩ := mach_out hM9 hF6
        simp +contextual -dsimp -implicitDefEqProofs (maxSteps := 5000000) only [go_sem, reduceIte, reduceCtorEq, Nat.reduceEqDiff, Nat.reduceBEq, Nat.reduceAdd, Nat.reduceLeDiff, Nat.reduceMul, Nat.reduceLT, Int.reduceEq, Int.reduceLT, Int.reduceLE, hi, hx, n1, n2, k3, hf0, hj, show jumpsK 3 = true from rfl, hh0]
        refine retR_less (l := [.agg (rEn ⟨2, s.fs.length⟩)]) (H' := H10) ?_ (le_set hn10) ⟨rfl, hM10⟩
        simp only [resA, go_sem, reduceIte, reduceCtorEq, Nat.reduceEqDiff, Nat.reduceBEq, Nat.reduceAdd, Nat.reduceLeDiff, Nat.reduceMul, Nat.reduceLT, Int.reduceEq, Int.reduceLT, Int.reduceLE, rEn]
      · have e : lineR k a b i h (fun s => runF t kids (i + 1) none h s) s = (⟨2, h⟩, ⟨s.log, s.fs, (i : Int)⟩) := by
          unfold lineR lineS; rw [jump1 hf0 hj, if_neg (by omega), if_neg (by omega), if_neg (by omega), if_neg (by omega), if_pos k3, if_neg hh0]
        rw [e]
        simp +contextual -dsimp -implicitDefEqProofs (maxSteps := 5000000) only [go_sem, reduceIte, reduceCtorEq, Nat.reduceEqDiff, Nat.reduceBEq, Nat.reduceAdd, Nat.reduceLeDiff, Nat.reduceMul, Nat.reduceLT, Int.reduceEq, Int.reduceLT, Int.reduceLE, hi, hx, n1, n2, k3, hf0, hj, show jumpsK 3 = true from rfl, hh0]
        refine retR_less (l := [.agg (rEn ⟨2, h⟩)]) (H' := H2.set bm _) ?_ (le_set (nb6 _)) ⟨rfl, hMi (i : Int)⟩
        simp only [resA, go_sem, reduceIte, reduceCtorEq, Nat.reduceEqDiff, Nat.reduceBEq, Nat.reduceAdd, Nat.reduceLeDiff, Nat.reduceMul, Nat.reduceLT, Int.reduceEq, Int.reduceLT, Int.reduceLE, rEn]
    · by_cases hh0 : h < 0
      · have e : lineR k a b i h (fun s => runF t kids (i + 1) none h s) s = (⟨2, s.fs.length⟩, ⟨s.log, raiseF s.fs 0 0 (-1), s.first⟩) := by
          unfold lineR lineS; rw [jump0 hf0, if_neg (by omega), if_neg (by omega), if_neg (by omega), if_neg (by omega), if_pos k3, if_pos hh0]; rfl
        rw [e]
        simp +contextual -dsimp -implicitDefEqProofs (maxSteps := 5000000) only [go_sem, reduceIte, reduceCtorEq, Nat.reduceEqDiff, Nat.reduceBEq, Nat.reduceAdd, Nat.reduceLeDiff, Nat.reduceMul, Nat.reduceLT, Int.reduceEq, Int.reduceLT, Int.reduceLE, hi, hx, n1, n2, k3, hf0, hj, show jumpsK 3 = true from rfl, hh0]
        refine (c_raise _ _ bm _ _ s.log s.fs s.first 0 0 (-1) (mach_in (K := ⟨2, 53, [[I 0, I 0]]⟩) (hMi s.first) (nb6 _)) hfl hs.ho (by omega)).mono ?_
        rintro _ H9 ⟨rfl, hM9⟩
        obtain ⟨H10, rfl, hM10, hn10⟩ := mach_out hM9 hF6
        simp +contextual -dsimp -implicitDefEqProofs (maxSteps := 5000000) only [go_sem, reduceIte, reduceCtorEq, Nat.reduceEqDiff, Nat.reduceBEq, Nat.reduceAdd, Nat.reduceLeDiff, Nat.reduceMul, Nat.reduceLT, Int.reduceEq, Int.reduceLT, Int.reduceLE, hi, hx, n1, n2, k3, hf0, hj, show jumpsK 3 = true from rfl, hh0]
        refine retR_less (l := [.agg (rEn ⟨2, s.fs.length⟩)]) (H' := H10) ?_ (le_set hn10) ⟨rfl, hM10⟩
        simp only [resA, go_sem, reduceIte, reduceCtorEq, Nat.reduceEqDiff, Nat.reduceBEq, Nat.reduceAdd, Nat.reduceLeDiff, Nat.reduceMul, Nat.reduceLT, Int.reduceEq, Int.reduceLT, Int.reduceLE, rEn]
      · have e : lineR k a b i h (fun s => runF t kids (i + 1) none h s) s = (⟨2, h⟩, ⟨s.log, s.fs, s.first⟩) := by
          unfold lineR lineS; rw [jump0 hf0, if_neg (by omega), if_neg (by omega), if_neg (by omega), if_neg (by omega), if_pos k3, if_neg hh0]
        rw [e]
        simp +contextual -dsimp -implicitDefEqProofs (maxSteps := 5000000) only [go_sem, reduceIte, reduceCtorEq, Nat.reduceEqDiff, Nat.reduceBEq, Nat.reduceAdd, Nat.reduceLeDiff, Nat.reduceMul, Nat.reduceLT, Int.reduceEq, Int.reduceLT, Int.reduceLE, hi, hx, n1, n2, k3, hf0, hj, show jumpsK 3 = true from rfl, hh0]
        refine retR_less (l := [.agg (rEn ⟨2, h⟩)]) (H' := H2.set bm _) ?_ (le_set (nb6 _)) ⟨rfl, hMi s.first⟩
        simp only [resA, go_sem, reduceIte, reduceCtorEq, Nat.reduceEqDiff, Nat.reduceBEq, Nat.reduceAdd, Nat.reduceLeDiff, Nat.reduceMul, Nat.reduceLT, Int.reduceEq, Int.reduceLT, Int.reduceLE, rEn]
  by_cases k4 : k = 4
  · have hj : jumpsK k = true := by rw [k4]; rfl
    by_cases hf0 : s.first < 0
    · have e : lineR k a b i h (fun s => runF t kids (i + 1) none h s) s = (⟨1, a⟩, ⟨s.log, s.fs, (i : Int)⟩) := by
        unfold lineR lineS; rw [jump1 hf0 hj, if_neg (by omega), if_neg (by omega), if_neg (by omega), if_neg (by omega), if_neg (by omega), if_pos k4]
      rw [e]
      simp +contextual -dsimp -implicitDefEqProofs (maxSteps := 5000000) only [go_sem, reduceIte, reduceCtorEq, Nat.reduceEqDiff, Nat.reduceBEq, Nat.reduceAdd, Nat.reduceLeDiff, Nat.reduceMul, Nat.reduceLT, Int.reduceEq, Int.reduceLT, Int.reduceLE, hi, hx, n1, n2, k4, hf0, hj, show jumpsK 4 = true from rfl]
      refine retR_less (l := [.agg (rEn ⟨1, a⟩)]) (H' := H2.set bm _) ?_ (le_set (nb6 _)) ⟨rfl, hMi (i : Int)⟩
      simp only [resA, go_sem, reduceIte, reduceCtorEq, Nat.reduceEqDiff, Nat.reduceBEq, Nat.reduceAdd, Nat.reduceLeDiff, Nat.reduceMul, Nat.reduceLT, Int.reduceEq, Int.reduceLT, Int.reduceLE, rEn]
    · have e : lineR k a b i h (fun s => runF t kids (i + 1) none h s) s = (⟨1, a⟩, ⟨s.log, s.fs, s.first⟩) := by
        unfold lineR lineS; rw [jump0 hf0, if_neg (by omega), if_neg (by omega), if_neg (by omega), if_neg (by omega), if_neg (by omega), if_pos k4]
      rw [e]
      simp +contextual -dsimp -implicitDefEqProofs (maxSteps := 5000000) only [go_sem, reduceIte, reduceCtorEq, Nat.reduceEqDiff, Nat.reduceBEq, Nat.reduceAdd, Nat.reduceLeDiff, Nat.reduceMul, Nat.reduceLT, Int.reduceEq, Int.reduceLT, Int.reduceLE, hi, hx, n1, n2, k4, hf0, hj, show jumpsK 4 = true from rfl]
      refine retR_less (l := [.agg (rEn ⟨1, a⟩)]) (H' := H2.set bm _) ?_ (le_set (nb6 _)) ⟨rfl, hMi s.first⟩
      simp only [resA, go_sem, reduceIte, reduceCtorEq, Nat.reduceEqDiff, Nat.reduceBEq, Nat.reduceAdd, Nat.reduceLeDiff, Nat.reduceMul, Nat.reduceLT, Int.reduceEq, Int.reduceLT, Int.reduceLE, rEn]
  by_cases k5 : k = 5
  · have hj : jumpsK k = true := by rw [k5]; rfl
    by_cases hf0 : s.first < 0
    · have e : lineR k a b i h (fun s => runF t kids (i + 1) none h s) s = (⟨3, 0⟩, ⟨s.log, s.fs, (i : Int)⟩) := by
        unfold lineR lineS; rw [jump1 hf0 hj, if_neg (by omega), if_neg (by omega), if_neg (by omega), if_neg (by omega), if_neg (by omega), if_neg (by omega), if_pos k5]
      rw [e]
      simp +contextual -dsimp -implicitDefEqProofs (maxSteps := 5000000) only [go_sem, reduceIte, reduceCtorEq, Nat.reduceEqDiff, Nat.reduceBEq, Nat.reduceAdd, Nat.reduceLeDiff, Nat.reduceMul, Nat.reduceLT, Int.reduceEq, Int.reduceLT, Int.reduceLE, hi, hx, n1, n2, k5, hf0, hj, show jumpsK 5 = true from rfl]
      refine retR_less (l := [.agg (rEn ⟨3, 0⟩)]) (H' := H2.set bm _) ?_ (le_set (nb6 _)) ⟨rfl, hMi (i : Int)⟩
      simp only [resA, go_sem, reduceIte, reduceCtorEq, Nat.reduceEqDiff, Nat.reduceBEq, Nat.reduceAdd, Nat.reduceLeDiff, Nat.reduceMul, Nat.reduceLT, Int.reduceEq, Int.reduceLT, Int.reduceLE, rEn]
    · have e : lineR k a b i h (fun s => runF t kids (i + 1) none h s) s = (⟨3, 0⟩, ⟨s.log, s.fs, s.first⟩) := by
        unfold lineR lineS; rw [jump0 hf0, if_neg (by omega), if_neg (by omega), if_neg (by omega), if_neg (by omega), if_neg (by omega), if_neg (by omega), if_pos k5]
      rw [e]
      simp +contextual -dsimp -implicitDefEqProofs (maxSteps := 5000000) only [go_sem, reduceIte, reduceCtorEq, Nat.reduceEqDiff, Nat.reduceBEq, Nat.reduceAdd, Nat.reduceLeDiff, Nat.reduceMul, Nat.reduceLT, Int.reduceEq, Int.reduceLT, Int.reduceLE, hi, hx, n1, n2, k5, hf0, hj, show jumpsK 5 = true from rfl]
      refine retR_less (l := [.agg (rEn ⟨3, 0⟩)]) (H' := H2.set bm _) ?_ (le_set (nb6 _)) ⟨rfl, hMi s.first⟩
      simp only [resA, go_sem, reduceIte, reduceCtorEq, Nat.reduceEqDiff, Nat.reduceBEq, Nat.reduceAdd, Nat.reduceLeDiff, Nat.reduceMul, Nat.reduceLT, Int.reduceEq, Int.reduceLT, Int.reduceLE, rEn]
  by_cases k6 : k = 6
  · have hj : jumpsK k = true := by rw [k6]; rfl
    by_cases hf0 : s.first < 0
    · have e : lineR k a b i h (fun s => runF t kids (i + 1) none h s) s = (⟨4, 0⟩, ⟨s.log, s.fs, (i : Int)⟩) := by
        unfold lineR lineS; rw [jump1 hf0 hj, if_neg (by omega), if_neg (by omega), if_neg (by omega), if_neg (by omega), if_neg (by omega), if_neg (by omega), if_neg (by omega), if_pos k6]
      rw [e]
      simp +contextual -dsimp -implicitDefEqProofs (maxSteps := 5000000) only [go_sem, reduceIte, reduceCtorEq, Nat.reduceEqDiff, Nat.reduceBEq, Nat.reduceAdd, Nat.reduceLeDiff, Nat.reduceMul, Nat.reduceLT, Int.reduceEq, Int.reduceLT, Int.reduceLE, hi, hx, n1, n2, k6, hf0, hj, show jumpsK 6 = true from rfl]
      refine retR_less (l := [.agg (rEn ⟨4, 0⟩)]) (H' := H2.set bm _) ?_ (le_set (nb6 _)) ⟨rfl, hMi (i : Int)⟩
      simp only [resA, go_sem, reduceIte, reduceCtorEq, Nat.reduceEqDiff, Nat.reduceBEq, Nat.reduceAdd, Nat.reduceLeDiff, Nat.reduceMul, Nat.reduceLT, Int.reduceEq, Int.reduceLT, Int.reduceLE, rEn]
    · have e : lineR k a b i h (fun s => runF t kids (i + 1) none h s) s = (⟨4, 0⟩, ⟨s.log, s.fs, s.first⟩) := by
        unfold lineR lineS; rw [jump0 hf0, if_neg (by omega), if_neg (by omega), if_neg (by omega), if_neg (by omega), if_neg (by omega), if_neg (by omega), if_neg (by omega), if_pos k6]
      rw [e]
      simp +contextual -dsimp -implicitDefEqProofs (maxSteps := 5000000) only [go_sem, reduceIte, reduceCtorEq, Nat.reduceEqDiff, Nat.reduceBEq, Nat.reduceAdd, Nat.reduceLeDiff, Nat.reduceMul, Nat.reduceLT, Int.reduceEq, Int.reduceLT, Int.reduceLE, hi, hx, n1, n2, k6, hf0, hj, show jumpsK 6 = true from rfl]
      refine retR_less (l := [.agg (rEn ⟨4, 0⟩)]) (H' := H2.set bm _) ?_ (le_set (nb6 _)) ⟨rfl, hMi s.first⟩
      simp only [resA, go_sem, reduceIte, reduceCtorEq, Nat.reduceEqDiff, Nat.reduceBEq, Nat.reduceAdd, Nat.reduceLeDiff, Nat.reduceMul, Nat.reduceLT, Int.reduceEq, Int.reduceLT, Int.reduceLE, rEn]
  have hj : jumpsK k = false := by
    simp only [jumpsK, inR, Bool.and_eq_false_iff, decide_eq_false_iff_not]; omega
  by_cases k1 : k = 1
  · have e : lineR k a b i h (fun s => runF t kids (i + 1) none h s) s = (.next, ⟨s.log ++ [a], s.fs, s.first⟩) := by
      unfold lineR lineS; rw [jumpn hj, if_neg (by omega), if_neg (by omega), if_pos k1]; rfl
    rw [e]
    simp +contextual -dsimp -implicitDefEqProofs (maxSteps := 5000000) only [go_sem, reduceIte, reduceCtorEq, Nat.reduceEqDiff, Nat.reduceBEq, Nat.reduceAdd, Nat.reduceLeDiff, Nat.reduceMul, Nat.reduceLT, Int.reduceEq, Int.reduceLT, Int.reduceLE, hi, hx, n1, n2, k1, show jumpsK 1 = false from rfl]
    refine draw_intro [0, 0, 0, 0, 0, 0, 0, 0, 2, 0, 0, 2] AHeap.none (by kernel_rfl) none_le ?_
    simp +contextual -dsimp -implicitDefEqProofs (maxSteps := 5000000) only [go_sem, reduceIte, reduceCtorEq, Nat.reduceEqDiff, Nat.reduceBEq, Nat.reduceAdd, Nat.reduceLeDiff, Nat.reduceMul, Nat.reduceLT, Int.reduceEq, Int.reduceLT, Int.reduceLE, hi, hx, n1, n2, k1]
    refine mach_app1 hg1 hg2 hb n1 hn2 (by omega) fun x2 G G1 y1 y2 y3 y4 y5 => ?_
    obtain ⟨r1, r2⟩ := y5
    simp +contextual -dsimp -implicitDefEqProofs (maxSteps := 5000000) only [go_sem, reduceIte, reduceCtorEq, Nat.reduceEqDiff, Nat.reduceBEq, Nat.reduceAdd, Nat.reduceLeDiff, Nat.reduceMul, Nat.reduceLT, Int.reduceEq, Int.reduceLT, Int.reduceLE, n1, n2, r1, r2]
    refine retR_less (l := [.agg (rEn .next)]) (H' := G.set bm _) ?_ (le_set (by rw [set_other n1]; exact y4)) ⟨rfl, ⟨x2, xf, G1, G, hF, y1, y2, y3, rfl⟩⟩
    simp only [resA, go_sem, reduceIte, reduceCtorEq, Nat.reduceEqDiff, Nat.reduceBEq, Nat.reduceAdd, Nat.reduceLeDiff, Nat.reduceMul, Nat.reduceLT, Int.reduceEq, Int.reduceLT, Int.reduceLE, rEn, En.next]
  by_cases k11 : k = 11
  · simp +contextual -dsimp -implicitDefEqProofs (maxSteps := 5000000) only [go_sem, reduceIte, reduceCtorEq, Nat.reduceEqDiff, Nat.reduceBEq, Nat.reduceAdd, Nat.reduceLeDiff, Nat.reduceMul, Nat.reduceLT, Int.reduceEq, Int.reduceLT, Int.reduceLE, hi, hx, n1, n2, k11, show jumpsK 11 = false from rfl]
    refine draw_intro [0, 0, 0, 0, 0, 0, 0, 0, 0, 2, 0, 0, 2] AHeap.none (by kernel_rfl) none_le ?_
    have ha := hno
    unfold numOk at ha
    rw [if_neg (by omega), if_neg (by omega), if_neg (by omega), if_pos k11, Bool.and_eq_true] at ha
    simp only [inR, Bool.and_eq_true, decide_eq_true_eq] at ha
    rw [if_neg (by omega)] at hl hf
    have hw1 : IntKind.i64.wrap (100 + a) = 100 + a := w64 (by omega) (by omega)
    have hw2 : IntKind.i64.wrap (200 + a) = 200 + a := w64 (by omega) (by omega)
    simp +contextual -dsimp -implicitDefEqProofs (maxSteps := 5000000) only [go_sem, reduceIte, reduceCtorEq, Nat.reduceEqDiff, Nat.reduceBEq, Nat.reduceAdd, Nat.reduceLeDiff, Nat.reduceMul, Nat.reduceLT, Int.reduceEq, Int.reduceLT, Int.reduceLE, hi, hx, n1, n2, k11, hw1]
    refine mach_app1 hg1 hg2 hb n1 hn2 (by omega) fun x2 G G1 y1 y2 y3 y4 y5 => ?_
    obtain ⟨r1, r2⟩ := y5
    simp +contextual -dsimp -implicitDefEqProofs (maxSteps := 5000000) only [go_sem, reduceIte, reduceCtorEq, Nat.reduceEqDiff, Nat.reduceBEq, Nat.reduceAdd, Nat.reduceLeDiff, Nat.reduceMul, Nat.reduceLT, Int.reduceEq, Int.reduceLT, Int.reduceLE, n1, n2, r1, r2]
    have hMt : MachS F (G.set bm ⟨5, 71, [[.vsl (t.map rClass) cl, aProg P clp, x2, xf, I s.first]]⟩) bm t cl P clp (s.tell (100 + a)) := ⟨x2, xf, G1, G, hF, y1, y2, y3, rfl⟩
    have hGb6 : (G.set bm ⟨5, 71, [[.vsl (t.map rClass) cl, aProg P clp, x2, xf, I s.first]]⟩) b6 = none := by rw [set_other n1]; exact y4
    have tl : (s.tell (100 + a)).log.length = s.log.length + 1 := by simp [RS.tell]
    have hgo := goes_run ht kids (i + 1) none (d + 1) h (s.tell (100 + a)) hk hs hh trivial
    have hgl := hgo.len
    refine (c_block ih hn hat hk (s := s.tell (100 + a)) hs hh (by rw [tl]; omega) (by show s.fs.length + _ ≤ _; omega) (mach_in (K := ⟨2, 53, [[I 0, I 0]]⟩) hMt hGb6) hp).mono ?_
    rintro _ H3 ⟨rfl, hM3⟩
    have e : lineR k a b i h (fun s => runF t kids (i + 1) none h s) s = withS a b (runF t kids (i + 1) none h (s.tell (100 + a))) := by
      unfold lineR; rw [if_pos k11]
    rw [e]
    generalize runF t kids (i + 1) none h (s.tell (100 + a)) = r at hM3 hgo hgl ⊢
    obtain ⟨H4, rfl, hM4, hn4⟩ := mach_out hM3 hF6
    obtain ⟨xl', xf', G2, G3, hF', hg1', hg2', hb', rfl⟩ := id hM4
    have hn5 := hn4
    rw [set_none] at hn5
    have hn6 := hn5.2.2
    simp +contextual -dsimp -implicitDefEqProofs (maxSteps := 5000000) only [go_sem, reduceIte, reduceCtorEq, Nat.reduceEqDiff, Nat.reduceBEq, Nat.reduceAdd, Nat.reduceLeDiff, Nat.reduceMul, Nat.reduceLT, Int.reduceEq, Int.reduceLT, Int.reduceLE, rEn, n1, n2, hi, hx]
    rintro b8 hb8
    refine draw_intro [0, 0, 0, 0, 0, 0, 0, 0, 0, 2, 0, 0, 2] AHeap.none (by kernel_rfl) none_le ?_
    simp +contextual -dsimp -implicitDefEqProofs (maxSteps := 5000000) only [go_sem, reduceIte, reduceCtorEq, Nat.reduceEqDiff, Nat.reduceBEq, Nat.reduceAdd, Nat.reduceLeDiff, Nat.reduceMul, Nat.reduceLT, Int.reduceEq, Int.reduceLT, Int.reduceLE, rEn, n1, n2, hi, hx, hw2]
    refine mach_app1 hg1' hg2' hb' n1 hn6 (by omega) fun x3 G4 G5 z1 z2 z3 z4 z5 => ?_
    obtain ⟨q1, q2⟩ := z5
    simp +contextual -dsimp -implicitDefEqProofs (maxSteps := 5000000) only [go_sem, reduceIte, reduceCtorEq, Nat.reduceEqDiff, Nat.reduceBEq, Nat.reduceAdd, Nat.reduceLeDiff, Nat.reduceMul, Nat.reduceLT, Int.reduceEq, Int.reduceLT, Int.reduceLE, n1, n2, q1, q2]
    have hMf : MachS F (G4.set bm ⟨5, 71, [[.vsl (t.map rClass) cl, aProg P clp, x3, xf', I r.2.first]]⟩) bm t cl P clp (r.2.tell (200 + a)) := ⟨x3, xf', G5, G4, hF', z1, z2, z3, rfl⟩
    unfold withS
    have hGf : (G4.set bm ⟨5, 71, [[.vsl (t.map rClass) cl, aProg P clp, x3, xf', I r.2.first]]⟩) b6 = none := by rw [set_other n1]; exact z4
    by_cases hc : r.1.ed = 2 ∧ b = 1
    · rw [if_pos hc]
      simp +contextual -dsimp -implicitDefEqProofs (maxSteps := 5000000) only [go_sem, reduceIte, reduceCtorEq, Nat.reduceEqDiff, Nat.reduceBEq, Nat.reduceAdd, Nat.reduceLeDiff, Nat.reduceMul, Nat.reduceLT, Int.reduceEq, Int.reduceLT, Int.reduceLE, n1, n2, q1, q2, hc.1, hc.2]
      refine retR_less (l := [.agg (rEn .next)]) (H' := G4.set bm _) ?_ (le_set hGf) ⟨rfl, hMf⟩
      simp only [resA, go_sem, reduceIte, reduceCtorEq, Nat.reduceEqDiff, Nat.reduceBEq, Nat.reduceAdd, Nat.reduceLeDiff, Nat.reduceMul, Nat.reduceLT, Int.reduceEq, Int.reduceLT, Int.reduceLE, rEn, En.next]
    · rw [if_neg hc]
      by_cases hc1 : r.1.ed = 2
      · have hc2 : ¬ b = 1 := fun q => hc ⟨hc1, q⟩
        simp +contextual -dsimp -implicitDefEqProofs (maxSteps := 5000000) only [go_sem, reduceIte, reduceCtorEq, Nat.reduceEqDiff, Nat.reduceBEq, Nat.reduceAdd, Nat.reduceLeDiff, Nat.reduceMul, Nat.reduceLT, Int.reduceEq, Int.reduceLT, Int.reduceLE, n1, n2, q1, q2, hc1, hc2]
        refine retR_less (l := [.agg (rEn r.1)]) (H' := G4.set bm _) ?_ (le_set hGf) ⟨rfl, hMf⟩
        simp only [resA, go_sem, reduceIte, reduceCtorEq, Nat.reduceEqDiff, Nat.reduceBEq, Nat.reduceAdd, Nat.reduceLeDiff, Nat.reduceMul, Nat.reduceLT, Int.reduceEq, Int.reduceLT, Int.reduceLE, rEn, hc1]
      · simp +contextual -dsimp -implicitDefEqProofs (maxSteps := 5000000) only [go_sem, reduceIte, reduceCtorEq, Nat.reduceEqDiff, Nat.reduceBEq, Nat.reduceAdd, Nat.reduceLeDiff, Nat.reduceMul, Nat.reduceLT, Int.reduceEq, Int.reduceLT, Int.reduceLE, n1, n2, q1, q2, hc1]
        refine retR_less (l := [.agg (rEn r.1)]) (H' := G4.set bm _) ?_ (le_set hGf) ⟨rfl, hMf⟩
        simp only [resA, go_sem, reduceIte, reduceCtorEq, Nat.reduceEqDiff, Nat.reduceBEq, Nat.reduceAdd, Nat.reduceLeDiff, Nat.reduceMul, Nat.reduceLT, Int.reduceEq, Int.reduceLT, Int.reduceLE, rEn]
  by_cases k12 : k = 12
  · have ha := hno
    unfold numOk at ha
    rw [if_neg (by omega), if_neg (by omega), if_neg (by omega), if_neg (by omega), if_pos k12, Bool.and_eq_true] at ha
    simp only [inR, Bool.and_eq_true, decide_eq_true_eq] at ha
    rw [if_pos k12] at hl hf
    have e : lineR k a b i h (fun s => runF t kids (i + 1) none h s) s = loopS (fun s => runF t kids (i + 1) none h s) a.toNat s := by
      unfold lineR; rw [if_neg (by omega), if_pos k12]
    rw [e]
    simp +contextual -dsimp -implicitDefEqProofs (maxSteps := 5000000) only [go_sem, reduceIte, reduceCtorEq, Nat.reduceEqDiff, Nat.reduceBEq, Nat.reduceAdd, Nat.reduceLeDiff, Nat.reduceMul, Nat.reduceLT, Int.reduceEq, Int.reduceLT, Int.reduceLE, hi, hx, n1, n2, k12, show jumpsK 12 = false from rfl]
    refine aloop mixed (fz := fun r => if r = 1 then [7] else if r = 21 then [8] else if r = 29 then [9] else []) (im := fun _ => false) (by kernel_rfl) (fun m tm H' => ∃ (s' : RS) (H'' : AHeap), m ≤ a.toNat ∧ H' = H''.set b6 ⟨2, 53, [[I 0, I 0]]⟩ ∧ H'' b6 = none ∧ MachS F H'' bm t cl P clp s' ∧ FsOk t s'.fs ∧ s.fs.length ≤ s'.fs.length ∧ s'.fs.length ≤ s.fs.length + (a.toNat - m) * cost kids ∧ s'.log.length ≤ s.log.length + (a.toNat - m) * cost kids ∧ loopS (fun s => runF t kids (i + 1) none h s) a.toNat s = loopS (fun s => runF t kids (i + 1) none h s) m s' ∧ tm 0 = .ptr bm 5 0 0 ∧ tm 1 = I i ∧ tm 2 = I h ∧ tm 6 = .ptr b6 2 0 0 ∧ tm 117 = I a ∧ tm 118 = I (a.toNat - m : Nat)) a.toNat ⟨s, H2.set bm _, Nat.le_refl _, rfl, nb6 _, hM, hs, Nat.le_refl _, by omega, by omega, rfl, ?_⟩ ?_
    · simp +contextual -dsimp -implicitDefEqProofs (maxSteps := 5000000) only [go_sem, reduceIte, reduceCtorEq, Nat.reduceEqDiff, Nat.reduceBEq, Nat.reduceAdd, Nat.reduceLeDiff, Nat.reduceMul, Nat.reduceLT, Int.reduceEq, Int.reduceLT, Int.reduceLE, n1, n2]
      rw [Nat.sub_self]; rfl
    · rintro m tm _ ⟨s', H'', hm, rfl, hb6, hM', hs', g1, g2, g3, he, t0, t1, t2, t6, t117, t118⟩
      cases m with
      | zero =>
        have z : ¬ ((a.toNat - 0 : Nat) : Int) < a := by omega
        simp +contextual -dsimp -implicitDefEqProofs (maxSteps := 5000000) only [go_sem, reduceIte, reduceCtorEq, Nat.reduceEqDiff, Nat.reduceBEq, Nat.reduceAdd, Nat.reduceLeDiff, Nat.reduceMul, Nat.reduceLT, Int.reduceEq, Int.reduceLT, Int.reduceLE, n1, n2, t0, t1, t2, t6, t117, t118, z]
        rw [he]
        refine retR_less (l := [.agg (rEn .next)]) (H' := H'') ?_ (le_set hb6) ⟨rfl, hM'⟩
        simp only [resA, go_sem, reduceIte, reduceCtorEq, Nat.reduceEqDiff, Nat.reduceBEq, Nat.reduceAdd, Nat.reduceLeDiff, Nat.reduceMul, Nat.reduceLT, Int.reduceEq, Int.reduceLT, Int.reduceLE, rEn, En.next, t6]
      | succ m =>
        have z : ((a.toNat - (m + 1) : Nat) : Int) < a := by omega
        have w1 : (a.toNat - (m + 1)) * cost kids + cost kids ≤ a.toNat * cost kids := by
          rw [← Nat.succ_mul]; exact Nat.mul_le_mul_right _ (by omega)
        have w2 : (a.toNat - m) * cost kids = (a.toNat - (m + 1)) * cost kids + cost kids := by
          rw [← Nat.succ_mul]; congr 1; omega
        simp +contextual -dsimp -implicitDefEqProofs (maxSteps := 5000000) only [go_sem, reduceIte, reduceCtorEq, Nat.reduceEqDiff, Nat.reduceBEq, Nat.reduceAdd, Nat.reduceLeDiff, Nat.reduceMul, Nat.reduceLT, Int.reduceEq, Int.reduceLT, Int.reduceLE, n1, n2, t0, t1, t2, t6, t117, t118, z]
        have hgo := goes_run ht kids (i + 1) none (d + 1) h s' hk hs' (by omega) trivial
        have hgl := hgo.len
        refine (c_block ih hn hat hk (s := s') hs' (by omega) (by omega) (by omega) (mach_in (K := ⟨2, 53, [[I 0, I 0]]⟩) hM' hb6) hp).mono ?_
        rintro _ H3 ⟨rfl, hM3⟩
        simp only [loopS] at he
        generalize runF t kids (i + 1) none h s' = r at hM3 hgo hgl he ⊢
        obtain ⟨H4, rfl, hM4, hn4⟩ := mach_out hM3 hF6
        by_cases c1 : r.1.ed = 1
        · rw [if_pos (.inl c1)] at he
          simp +contextual -dsimp -implicitDefEqProofs (maxSteps := 5000000) only [go_sem, reduceIte, reduceCtorEq, Nat.reduceEqDiff, Nat.reduceBEq, Nat.reduceAdd, Nat.reduceLeDiff, Nat.reduceMul, Nat.reduceLT, Int.reduceEq, Int.reduceLT, Int.reduceLE, rEn, n1, n2, t0, t1, t2, t6, t117, t118, c1]
          rintro b9 hb9
          rw [he]
          refine retR_less (l := [.agg (rEn r.1)]) (H' := H4) ?_ (le_set hn4) ⟨rfl, hM4⟩
          simp only [resA, go_sem, reduceIte, reduceCtorEq, Nat.reduceEqDiff, Nat.reduceBEq, Nat.reduceAdd, Nat.reduceLeDiff, Nat.reduceMul, Nat.reduceLT, Int.reduceEq, Int.reduceLT, Int.reduceLE, rEn, c1, t6]
        by_cases c2 : r.1.ed = 2
        · rw [if_pos (.inr c2)] at he
          simp +contextual -dsimp -implicitDefEqProofs (maxSteps := 5000000) only [go_sem, reduceIte, reduceCtorEq, Nat.reduceEqDiff, Nat.reduceBEq, Nat.reduceAdd, Nat.reduceLeDiff, Nat.reduceMul, Nat.reduceLT, Int.reduceEq, Int.reduceLT, Int.reduceLE, rEn, n1, n2, t0, t1, t2, t6, t117, t118, c2]
          rintro b9 hb9
          rw [he]
          refine retR_less (l := [.agg (rEn r.1)]) (H' := H4) ?_ (le_set hn4) ⟨rfl, hM4⟩
          simp only [resA, go_sem, reduceIte, reduceCtorEq, Nat.reduceEqDiff, Nat.reduceBEq, Nat.reduceAdd, Nat.reduceLeDiff, Nat.reduceMul, Nat.reduceLT, Int.reduceEq, Int.reduceLT, Int.reduceLE, rEn, c2, t6]
        rw [if_neg (fun q => q.elim c1 c2)] at he
        by_cases c3 : r.1.ed = 3
        · rw [if_pos c3] at he
          simp +contextual -dsimp -implicitDefEqProofs (maxSteps := 5000000) only [go_sem, reduceIte, reduceCtorEq, Nat.reduceEqDiff, Nat.reduceBEq, Nat.reduceAdd, Nat.reduceLeDiff, Nat.reduceMul, Nat.reduceLT, Int.reduceEq, Int.reduceLT, Int.reduceLE, rEn, n1, n2, t0, t1, t2, t6, t117, t118, c3]
          rintro b9 hb9
          rw [he]
          refine retR_less (l := [.agg (rEn .next)]) (H' := H4) ?_ (le_set hn4) ⟨rfl, hM4⟩
          simp only [resA, go_sem, reduceIte, reduceCtorEq, Nat.reduceEqDiff, Nat.reduceBEq, Nat.reduceAdd, Nat.reduceLeDiff, Nat.reduceMul, Nat.reduceLT, Int.reduceEq, Int.reduceLT, Int.reduceLE, rEn, En.next, t6]
        · rw [if_neg c3] at he
          simp +contextual -dsimp -implicitDefEqProofs (maxSteps := 5000000) only [go_sem, reduceIte, reduceCtorEq, Nat.reduceEqDiff, Nat.reduceBEq, Nat.reduceAdd, Nat.reduceLeDiff, Nat.reduceMul, Nat.reduceLT, Int.reduceEq, Int.reduceLT, Int.reduceLE, rEn, n1, n2, t0, t1, t2, t6, t117, t118, c1, c2, c3]
          rintro b9 hb9
          exact ⟨m, by omega, r.2, H4, by omega, rfl, hn4, hM4, hgo.ok, by omega, by omega, by omega, he, I_wrap (by omega) (by omega) (by omega)⟩
  · have e : lineR k a b i h (fun s => runF t kids (i + 1) none h s) s = (.next, ⟨s.log, s.fs, s.first⟩) := by
      unfold lineR lineS; rw [jumpn hj, if_neg k11, if_neg k12, if_neg k1, if_neg k2, if_neg k3, if_neg k4, if_neg k5, if_neg k6]
    rw [e]
    simp +contextual -dsimp -implicitDefEqProofs (maxSteps := 5000000) only [go_sem, reduceIte, reduceCtorEq, Nat.reduceEqDiff, Nat.reduceBEq, Nat.reduceAdd, Nat.reduceLeDiff, Nat.reduceMul, Nat.reduceLT, Int.reduceEq, Int.reduceLT, Int.reduceLE, hi, hx, n1, n2, k1, k2, k3, k4, k5, k6, k11, k12, hj]
    refine retR_less (l := [.agg (rEn .next)]) (H' := H2.set bm _) ?_ (le_set (nb6 _)) ⟨rfl, hMi s.first⟩
    simp only [resA, go_sem, reduceIte, reduceCtorEq, Nat.reduceEqDiff, Nat.reduceBEq, Nat.reduceAdd, Nat.reduceLeDiff, Nat.reduceMul, Nat.reduceLT, Int.reduceEq, Int.reduceLT, Int.reduceLE, rEn, En.next]
end Go.Proofs.Ytbjgilehnlpmaaa
end
section
set_option linter.unusedVariables false
set_option linter.unusedSimpArgs false
namespace Go.Proofs.Ytbjgilehnlpmaaa
open Go Go.Sim
set_option maxRecDepth 100000
attribute [local go_sem ↓] aw_skip aw_ret aw_exit aw_region aw_draw aw_seq aw_block aw_loop aw_cond frz_nil frz_cons sq_normal sq_ret sq_exit exB_normal exB_ret exB_same exB_other retQ_ret retQ_normal ret0_ret ret0_normal ao_nil go1 g_move g_assign g_pick g_build g_load g_binOp g_unOp g_convert g_fieldAddr g_field g_indexAddr g_index g_extract g_slice g_nilCheck g_len g_makeFunc h_call h_append h_alloc h_box h_buildSlice h_makeSlice h_store gV i_box i_buildSlice i_move i_assign i_build i_load i_binOp i_unOp i_convert i_fieldAddr i_field i_indexAddr i_index i_extract i_slice i_nilCheck i_makeFunc i_len i_max i_min i_alloc i_makeSlice i_store i_append i_call i_pick boxI boxA buildSliceI buildSliceA makeSliceA allocA storeA p_move p_assign p_pick p_build p_load p_binOp p_unOp p_convert p_fieldAddr p_field p_indexAddr p_index p_extract p_slice p_nilCheck p_makeFunc p_len p_max p_min p_alloc p_box p_buildSlice p_makeSlice p_store p_append p_call x_nil x_go1 x_g0 x_g1 x_g2 x_g3 x_s0 x_s1 x_s2 x_s3 u_move u_assign u_pick u_build u_load u_binOp u_unOp u_convert u_fieldAddr u_field u_indexAddr u_index u_extract u_slice u_nilCheck u_makeFunc u_len u_buildSlice x_s4 x_g4 rq_normal rq_ret rq_exit aw_range
attribute [local go_sem] frzV_sl frzK_some set_none set_other AHeap.set_self set_del set_set cnd_t cnd_f cnd_b retA_one retA_two retA_three retA_four retA_nil gIf_b mrgV_b mrgV_wh mrgV_U gIf_U gIf_wh mrgB_f mrgB_some mrgB_if wh_true wh_false keepA_some keepA_if gD_zero gD_succ gT_some bxA_t bxA_f callA_fn ev_tmp ev_const ev_global ev_func oc_bool oc_int oc_string oc_nil oc_nilptr oc_nilfunc cl_bool cl_int cl_string cl_nil updO_some updO_none upd_same upd_other init_at pickA_b pickA_wh selA_t selA_f selA_and selA_or selA_orn selA_orm selA_bb selA_ii beqt b_add b_sub b_mul b_and b_or b_xor b_eql b_neq b_lss b_leq b_gtr b_geq b_quo b_rem b_shr b_seql b_sneq b_sadd b_beql b_bneq b_aeql b_aneq u_not u_neg isConstOp eqA eqCellV List.getD_cons_zero List.getD_cons_succ List.map_cons List.map_nil List.nil_append List.cons_append List.append_nil if_true if_false Option.map_some Option.map_none ne_eq not_false_eq_true oneA ldv ld1v ld1s wr1s ldRow stRow row_lit row_agg row_vsl row_sl row_ptr row_fn one_I one_B one_S one_vsl one_sl one_ptr one_fn extractA okA rI rS rU rClass rFault rExit rStart rLine Int.toNat_natCast List.length_cons List.length_nil List.length_map List.all_cons List.all_nil Bool.and_true Nat.zero_add List.getElem?_cons_zero List.getElem?_cons_succ List.take_succ_cons List.take_zero List.drop_succ_cons List.drop_zero and_self true_and and_true implies_true decide_eq_true_eq decide_eq_false_iff_not Bool.or_eq_true Bool.or_eq_false_iff Bool.and_eq_true Bool.not_eq_true' Bool.not_eq_false' beq_false decide_true decide_false Int.ofNat_lt Int.ofNat_le Int.natCast_nonneg Bool.or_true Bool.or_false Bool.true_or Bool.false_or beq_self_eq_true List.drop_one Bool.not_true Bool.not_false Bool.not_not Bool.false_eq_true Bool.true_eq_false false_implies true_implies Bool.true_and Bool.false_and Bool.and_false not_true_eq_false Int.natCast_eq_zero Int.natCast_pos Int.natCast_zero false_and and_false or_false false_or or_true true_or Bool.or_self none_le_iff List.replicate_zero Int.toNat_zero List.replicate_succ buildRows List.set_cons_zero List.set_cons_succ List.set_nil List.mapM_nil maxLen_eq Nat.zero_le Nat.mul_one Nat.one_mul bldA fillA spliceA List.take_nil List.drop_nil List.getElem?_nil ld1o wr1o bldSliceA le_same cv_i cvI_t quietT_fn qvd_some ld_o ldO_1 ldO_l wr_o wrO_1 set_2 set_3 set_4 putL_nil putL_cons List.zip_cons_cons List.zip_nil_left List.zip_nil_right List.toList_toArray frzV_set ti1 ti2 tk2 ti3 te3 ts3 tk3 tz3 ti4 tb4 ti5 tk5 tz5 ti9 te9 ts9 tk9 tz9 ti12 tk12 ti13 tp13 tf13_0 tf13_1 ti20 ti21 tk21 tz21 ti22 te22 ti23 tp23 tf23_0 ti24 tp24 tf24_0 ti25 te25 ti27 ti28 ti29 te29 ti30 te30 ti31 tp31 tf31_0 ti32 tp32 tf32_0 ti33 tp33 tf33_0 tf33_1 tf33_2 tf33_3 ti34 tp34 tf34_0 tf34_1 tf34_2 tf34_3 ti35 ti36 tq36 tp36 tf36_0 tf36_1 tf36_2 tf36_3 ti37 tq37 tp37 tf37_0 tf37_1 tf37_2 tf37_3 ti38 ti39 ti40 ti41 ti42 ti43 ti44 te44 tz44 ti46 ti47 ti48 ti49 ti50 ti51 ti52 tq52 tp52 tf52_0 tf52_1 ti53 tq53 tp53 tf53_0 tf53_1 ti54 ti55 tq55 tp55 tf55_0 tf55_1 tf55_2 tf55_3 tf55_4 ti56 tq56 tp56 tf56_0 tf56_1 tf56_2 tf56_3 tf56_4 ti57 ti58 ti59 ti60 ti61 ti62 ti63 ti64 ti65 ti66 ti67 ti68 ti69 ti70 tp70 tf70_0 tf70_1 tf70_2 tf70_3 tf70_4 ti71 tp71 tf71_0 tf71_1 tf71_2 tf71_3 tf71_4 ti73 ti74 ti75 ti76 ti77 ti78 ti79 ti80 tq80 tp80 tf80_0 tf80_1 ti81 tq81 tp81 tf81_0 tf81_1 ti82 ti83 ti84 ti85 ti86 ti87 ti88 ti89 ti90 tp90 tf90_0 tf90_1 ti91 tp91 tf91_0 tf91_1 ti92 ti93 ti94 ti95 ti96 ti97 ti98 ti99 ti100 ti101 ti102 ti103 te103 ti104 ti105 ti106 ti107 ti108 ti109 ti110 ti111 ti112 tk112 tz112 ti113 ti114 ti115 tk115 ti117 ti118 ti119 ti121 ti122 ti123 tk123 tz123 ti124 ti125 tk125 tz125 ti126 ti127 tk127 ti128 ti129 ti130 ti131 ti132 ti133 ti135 ti136 ti142 ti146 fp13_0 fv13_0 fp13_1 fv13_1 fp23_0 fv23_0 fp24_0 fv24_0 fp31_0 fv31_0 fp32_0 fv32_0 fp33_0 fv33_0 fp33_1 fv33_1 fp33_2 fv33_2 fp33_3 fv33_3 fp34_0 fv34_0 fp34_1 fv34_1 fp34_2 fv34_2 fp34_3 fv34_3 fp36_0 fv36_0 fp36_1 fv36_1 fp36_2 fv36_2 fp36_3 fv36_3 fp37_0 fv37_0 fp37_1 fv37_1 fp37_2 fv37_2 fp37_3 fv37_3 fp52_0 fv52_0 fp52_1 fv52_1 fp53_0 fv53_0 fp53_1 fv53_1 fp55_0 fv55_0 fp55_1 fv55_1 fp55_2 fv55_2 fp55_3 fv55_3 fp55_4 fv55_4 fp56_0 fv56_0 fp56_1 fv56_1 fp56_2 fv56_2 fp56_3 fv56_3 fp56_4 fv56_4 fp70_0 fv70_0 fp70_1 fv70_1 fp70_2 fv70_2 fp70_3 fv70_3 fp70_4 fv70_4 fp71_0 fv71_0 fp71_1 fv71_1 fp71_2 fv71_2 fp71_3 fv71_3 fp71_4 fv71_4 fp80_0 fv80_0 fp80_1 fv80_1 fp81_0 fv81_0 fp81_1 fv81_1 fp90_0 fv90_0 fp90_1 fv90_1 fp91_0 fv91_0 fp91_1 fv91_1 lv22 ll22 is22 ix22 sh22 so22 sb22 sm22 sp22 lv25 ll25 is25 ix25 sh25 so25 sb25 sm25 sp25 lv29 ll29 is29 ix29 sh29 so29 sb29 sm29 sp29 lv30 ll30 is30 ix30 sh30 so30 sb30 sm30 sp30 lv44 ll44 is44 ix44 sh44 so44 sb44 sm44 sp44 lv103 ll103 is103 ix103 sh103 so103 sb103 sm103 sp103 xs9 ls9 sx9 sy9 sz9
set_option maxHeartbeats 4000000

section
variable {F H : AHeap} {bm c6 c7 c8 : Nat} {t p : AV} {log : List Int} {fs : List Fault} {first : Int} {K6 K7 K8 : ABlk}
theorem mach_in3 (hM : Mach F H bm t p log fs first) (h6 : H c6 = none) (h7 : H c7 = none) (h8 : H c8 = none) (d67 : ¬ c7 = c6) (d68 : ¬ c8 = c6) (d78 : ¬ c8 = c7) :
    Mach (((F.set c6 K6).set c7 K7).set c8 K8) (((H.set c6 K6).set c7 K7).set c8 K8) bm t p log fs first :=
  mach_in (mach_in (mach_in hM h6) (by rw [set_other d67]; exact h7)) (by rw [set_other d78, set_other d68]; exact h8)
theorem mach_out3 (hM : Mach (((F.set c6 K6).set c7 K7).set c8 K8) H bm t p log fs first) (h6 : F c6 = none) (h7 : F c7 = none) (h8 : F c8 = none) (d67 : ¬ c7 = c6) (d68 : ¬ c8 = c6) (d78 : ¬ c8 = c7) :
    ∃ H', H = ((H'.set c6 K6).set c7 K7).set c8 K8 ∧ Mach F H' bm t p log fs first ∧ H' c6 = none ∧ H' c7 = none ∧ H' c8 = none := by
  obtain ⟨H1, rfl, m1, n1⟩ := mach_out hM (by rw [set_other d78, set_other d68]; exact h8)
  obtain ⟨H2, rfl, m2, n2⟩ := mach_out m1 (by rw [set_other d67]; exact h7)
  obtain ⟨H3, rfl, m3, n3⟩ := mach_out m2 h6
  rw [set_other d78, set_other d68] at n1
  rw [set_other d67] at n2
  exact ⟨H3, rfl, m3, n3, n2, n1⟩
end
theorem c_try {t : List Class} {cl : Bool} {P : List Line} {clp : Bool} {n : Nat} (ht : validT t = true) (ih : LinesOk t cl P clp n) {i : Nat} {d k a b h : Int} {kids rest : Fo} {s : RS} {F H : AHeap} {bm : Nat} (cl2 : Bool)
    (hn : kids.size + rest.size < n) (hat : At P i d (.node k a b kids rest)) (hk : numsF t kids (d + 1) = true) (hr : numsF t rest d = true) (hs : FsOk t s.fs) (hh : h < s.fs.length) (hl : s.log.length + (cost kids + cost rest) ≤ 900000) (hf : s.fs.length + (cost kids + cost rest) ≤ 900000) (hM : MachS F H bm t cl P clp s) (hp : P.length ≤ 4398046511104) :
    ACalls Try.prog 45 [.ptr bm 5 0 0, .vsl ((toI (i :: chainN rest (i + 1 + kids.size))).map rI) cl2, I h] H fun r H' =>
      r = .agg (rEn (chainR t rest (i + 1 + kids.size) (runF t kids (i + 1) none h s).1 (runF t kids (i + 1) none h s).1 h (runF t kids (i + 1) none h s).2).1) ∧
      MachS F H' bm t cl P clp (chainR t rest (i + 1 + kids.size) (runF t kids (i + 1) none h s).1 (runF t kids (i + 1) none h s).1 h (runF t kids (i + 1) none h s).2).2 := by
  have ed : ∀ k : Nat, (toI (i :: chainN rest (i + 1 + kids.size))).drop k = toI ((i :: chainN rest (i + 1 + kids.size)).drop k) := fun k => toI_drop _ _
  have e0 : (i :: chainN rest (i + 1 + kids.size)).getD 0 default = i := rfl
  refine acalls_of1 Try.func45 rfl (by kernel_rfl) rfl rfl (awp_sound (fz := fun r => if r = 6 then [11] else if r = 19 then [13] else []) (im := fun _ => false) mixed _ _ _ _ (by kernel_rfl) ?_)
  simp +contextual -dsimp -implicitDefEqProofs (maxSteps := 5000000) only [go_sem, reduceIte, reduceCtorEq, Nat.reduceEqDiff, Nat.reduceBEq, Nat.reduceAdd, Nat.reduceLeDiff, Nat.reduceMul, Nat.reduceLT, Int.reduceEq, Int.reduceLT, Int.reduceLE, toI_len, toI_at, List.length_cons, e0]
  intro b6 hb6
  have hF6 := mach_none hM hb6
  have hgo := goes_run ht kids (i + 1) none (d + 1) h s hk hs hh trivial
  have hgl := hgo.len
  refine ⟨by omega, by omega, ?_⟩
  refine (c_block ih (by omega) hat hk hs hh (by omega) (by omega) (mach_in (K := ⟨2, 53, [[I 0, I 0]]⟩) hM hb6) hp).mono ?_
  rintro _ H3 ⟨rfl, hM3⟩
  generalize runF t kids (i + 1) none h s = r at hM3 hgo hgl ⊢
  obtain ⟨H4, rfl, hM4, hn4⟩ := mach_out hM3 hF6
  simp +contextual -dsimp -implicitDefEqProofs (maxSteps := 5000000) only [go_sem, reduceIte, reduceCtorEq, Nat.reduceEqDiff, Nat.reduceBEq, Nat.reduceAdd, Nat.reduceLeDiff, Nat.reduceMul, Nat.reduceLT, Int.reduceEq, Int.reduceLT, Int.reduceLE, rEn]
  rintro b7 ⟨d76, d67, n7⟩ b8 ⟨d87, d78, d86, d68, n8⟩
  rw [show (1 : Int).toNat = 1 from rfl, ed, List.drop_succ_cons, List.drop_zero, toI_len]
  refine ⟨by rw [List.length_cons]; omega, ?_⟩
  have hrat := hat.rest
  have hF7 : F b7 = none := mach_none hM4 n7
  have hF8 : F b8 = none := mach_none hM4 n8
  generalize i + 1 + kids.size = j at hrat ⊢
  have hch := chain_len rest j
  have hrl := hrat.len
  refine aloop mixed (fz := fun r => if r = 6 then [11] else if r = 19 then [13] else []) (im := fun _ => false) (by kernel_rfl) (fun m tm H' => ∃ (g : Fo) (q x : Nat) (st e : En) (s' : RS) (H'' : AHeap), m = g.size ∧ At P q d g ∧ numsF t g d = true ∧ g.size ≤ rest.size ∧ (chainN rest j).drop x = chainN g q ∧ x ≤ (chainN rest j).length ∧ FsOk t s'.fs ∧ s.fs.length ≤ s'.fs.length ∧ PdOk s' (some (st, e)) ∧ s'.log.length + cost g ≤ 900000 ∧ s'.fs.length + cost g ≤ 900000 ∧ chainR t rest j r.1 r.1 h r.2 = chainR t g q st e h s' ∧
      H' = ((H''.set b6 ⟨2, 53, [[I 0, I 0]]⟩).set b7 ⟨2, 53, [rEn e]⟩).set b8 ⟨2, 53, [rEn st]⟩ ∧ H'' b6 = none ∧ H'' b7 = none ∧ H'' b8 = none ∧ MachS F H'' bm t cl P clp s' ∧
      tm 0 = .ptr bm 5 0 0 ∧ tm 2 = I h ∧ tm 6 = .ptr b6 2 0 0 ∧ tm 7 = .ptr b7 2 0 0 ∧ tm 8 = .ptr b8 2 0 0 ∧ tm 22 = .vsl ((toI (chainN rest j)).map rI) cl2 ∧ tm 23 = I (chainN rest j).length ∧ tm 24 = I x) rest.size ⟨rest, j, 0, r.1, r.1, r.2, H4, rfl, hrat, hr, Nat.le_refl _, rfl, Nat.zero_le _, hgo.ok, hgl.1, ⟨hgo.val, hgo.val⟩, by omega, by omega, rfl, rfl, hn4, n7, n8, hM4, ?_⟩ ?_
  · simp +contextual -dsimp -implicitDefEqProofs (maxSteps := 5000000) only [go_sem, reduceIte, reduceCtorEq, Nat.reduceEqDiff, Nat.reduceBEq, Nat.reduceAdd, Nat.reduceLeDiff, Nat.reduceMul, Nat.reduceLT, Int.reduceEq, Int.reduceLT, Int.reduceLE, rEn]
    rw [toI_len]
  · rintro m tm _ ⟨g, q, x, st, e, s', H'', rfl, hgat, hgn, hgs, hdx, hxl, hs', hsl, hpd, bl, bf, he, rfl, h6, h7, h8, hM', t0, t2, t6, t7, t8, t22, t23, t24⟩
    have hexit : chainN g q = [] → chainR t g q st e h s' = (e, s') := by
      intro hq
      cases g with
      | nil => rfl
      | node k2 a2 b2 ks re =>
        simp only [chainN] at hq
        split at hq
        · cases hq
        · rename_i hk2
          simp only [chainR]; rw [if_neg hk2]
    cases hcq : chainN g q with
    | nil =>
      rw [hcq] at hdx
      have hx := drop_nil hdx
      rw [he, hexit hcq]
      simp +contextual -dsimp -implicitDefEqProofs (maxSteps := 5000000) only [go_sem, reduceIte, reduceCtorEq, Nat.reduceEqDiff, Nat.reduceBEq, Nat.reduceAdd, Nat.reduceLeDiff, Nat.reduceMul, Nat.reduceLT, Int.reduceEq, Int.reduceLT, Int.reduceLE, rEn, d76, d67, d87, d78, d86, d68, t0, t2, t6, t7, t8, t22, t23, t24, hx]
      refine retR_less (l := [.agg (rEn e)]) (H' := H'') ?_ (le_s1 (le_s1 (le_s1 (AHeap.le_refl _) h6) h7) h8) ⟨rfl, hM'⟩
      simp only [resA, go_sem, reduceIte, reduceCtorEq, Nat.reduceEqDiff, Nat.reduceBEq, Nat.reduceAdd, Nat.reduceLeDiff, Nat.reduceMul, Nat.reduceLT, Int.reduceEq, Int.reduceLT, Int.reduceLE, rEn, d76, d67, d87, d78, d86, d68, t6]
    | cons q' tl =>
      cases g with
      | nil => simp [chainN] at hcq
      | node k2 a2 b2 ks re =>
        have hk2 : followsK k2 = true := by
          simp only [chainN] at hcq
          split at hcq
          · assumption
          · cases hcq
        have hdx' : (chainN rest j).drop x = q :: chainN re (q + 1 + ks.size) := by
          rw [hdx]; simp only [chainN]; rw [if_pos hk2]
        obtain ⟨hx1, hx2, hx3⟩ := drop_cons hdx'
        have hf' := hk2
        simp only [followsK, inR, Bool.and_eq_true, decide_eq_true_eq] at hf'
        obtain ⟨n1, n2, n3, n4, n5⟩ := numsF_node hgn
        have hc := cost_node_le (k := k2) (a := a2) (b := b2) (kids := ks) (rest := re) (by omega)
        have hh2 := hgat.head
        have hsz : (Fo.node k2 a2 b2 ks re).size = 1 + ks.size + re.size := rfl
        have hch2 : chainR t (.node k2 a2 b2 ks re) q st e h s' = chainR t (.node k2 a2 b2 ks re) q st e h s' := rfl
        conv at hch2 => rhs; simp only [chainR]; rw [if_pos hk2]
        obtain ⟨xl, xf, H1, H2, hFm, hg1, hg2, hb, rfl⟩ := id hM'
        have h6' := h6
        have h7' := h7
        have h8' := h8
        rw [set_none] at h6' h7' h8'
        obtain ⟨m1, m2, m3⟩ := h6'
        obtain ⟨m4, m5, m6⟩ := h7'
        obtain ⟨m7, m8, m9⟩ := h8'
        have hgol : h < s'.fs.length := by omega
        have adv : ∀ (SZ : Nat) (st' e' : En) (s'' : RS) (H3 : AHeap), re.size < SZ → chainR t (.node k2 a2 b2 ks re) q st e h s' = chainR t re (q + 1 + ks.size) st' e' h s'' → FsOk t s''.fs → s.fs.length ≤ s''.fs.length → PdOk s'' (some (st', e')) → s''.log.length + cost re ≤ 900000 → s''.fs.length + cost re ≤ 900000 → H3 b6 = none → H3 b7 = none → H3 b8 = none → MachS F H3 bm t cl P clp s'' →
            ∃ m', m' < SZ ∧ ∃ (g : Fo) (q x_1 : Nat) (st_1 e_1 : En) (s'_1 : RS) (H'' : AHeap), m' = g.size ∧ At P q d g ∧ numsF t g d = true ∧ g.size ≤ rest.size ∧ (chainN rest j).drop x_1 = chainN g q ∧ x_1 ≤ (chainN rest j).length ∧ FsOk t s'_1.fs ∧ s.fs.length ≤ s'_1.fs.length ∧ PdOk s'_1 (some (st_1, e_1)) ∧ s'_1.log.length + cost g ≤ 900000 ∧ s'_1.fs.length + cost g ≤ 900000 ∧ chainR t rest j r.1 r.1 h r.2 = chainR t g q st_1 e_1 h s'_1 ∧
              ((H3.set b6 ⟨2, 53, [[I 0, I 0]]⟩).set b7 ⟨2, 53, [[I e'.ed, I e'.val]]⟩).set b8 ⟨2, 53, [[I st'.ed, I st'.val]]⟩ = ((H''.set b6 ⟨2, 53, [[I 0, I 0]]⟩).set b7 ⟨2, 53, [[I e_1.ed, I e_1.val]]⟩).set b8 ⟨2, 53, [[I st_1.ed, I st_1.val]]⟩ ∧ H'' b6 = none ∧ H'' b7 = none ∧ H'' b8 = none ∧ MachS F H'' bm t cl P clp s'_1 ∧ AV.lit (.int .i64 (IntKind.i64.wrap ((x : Int) + 1))) = I x_1 :=
          fun SZ st' e' s'' H3 q1 q2 q3 q4 q5 q6 q7 q8 q9 q10 q11 => ⟨re.size, q1, re, q + 1 + ks.size, x + 1, st', e', s'', H3, rfl, hgat.rest, n5, by omega, hx3, hx1, q3, q4, q5, q6, q7, by rw [he]; exact q2, rfl, q8, q9, q10, q11, I_wrap (by omega) (by omega) (by omega)⟩
        have szl : ∀ k : Int, re.size < (Fo.node k a2 b2 ks re).size := fun k => by simp only [Fo.size]; omega
        by_cases k9 : k2 = 9
        · rw [if_neg (by omega), if_pos k9] at hch2
          by_cases c0 : st.ed = 0
          · rw [if_pos c0] at hch2
            simp +contextual -dsimp -implicitDefEqProofs (maxSteps := 5000000) only [go_sem, reduceIte, reduceCtorEq, Nat.reduceEqDiff, Nat.reduceBEq, Nat.reduceAdd, Nat.reduceLeDiff, Nat.reduceMul, Nat.reduceLT, Int.reduceEq, Int.reduceLT, Int.reduceLE, rEn, d76, d67, d87, d78, d86, d68, m1, m2, m4, m5, m7, m8, t0, t2, t6, t7, t8, t22, t23, t24, toI_len, toI_at, hx1, hx2, hh2.1, hh2.2, k9, c0]
            rintro b11 hb11
            have hgo2 := goes_run ht ks (q + 1) none (d + 1) h s' n4 hs' hgol trivial
            have hgl2 := hgo2.len
            refine (c_block ih (by omega) hgat n4 hs' hgol (by omega) (by omega) (mach_in3 (K6 := ⟨2, 53, [[I 0, I 0]]⟩) (K7 := ⟨2, 53, [rEn e]⟩) (K8 := ⟨2, 53, [[I 0, I st.val]]⟩) hM' h6 h7 h8 d76 d86 d87) hp).mono ?_
            rintro _ H3 ⟨rfl, hM3⟩
            generalize runF t ks (q + 1) none h s' = r2 at hM3 hgo2 hgl2 hch2
            obtain ⟨H5, rfl, hM5, w6, w7, w8⟩ := mach_out3 hM3 hF6 hF7 hF8 d76 d86 d87
            simp +contextual -dsimp -implicitDefEqProofs (maxSteps := 5000000) only [go_sem, reduceIte, reduceCtorEq, Nat.reduceEqDiff, Nat.reduceBEq, Nat.reduceAdd, Nat.reduceLeDiff, Nat.reduceMul, Nat.reduceLT, Int.reduceEq, Int.reduceLT, Int.reduceLE, rEn, d76, d67, d87, d78, d86, d68, m1, m2, m4, m5, m7, m8, t0, t2, t6, t7, t8, t22, t23, t24, toI_len, toI_at, hx1, hx2, hh2.1, hh2.2, k9, c0]
            have fin := adv _ st r2.1 r2.2 H5 (szl 9) hch2 hgo2.ok (by omega) ⟨fun z => absurd (show st.ed = 2 from z) (by omega), hgo2.val⟩ (by omega) (by omega) w6 w7 w8 hM5
            rw [c0] at fin
            exact fin
          · rw [if_neg c0] at hch2
            simp +contextual -dsimp -implicitDefEqProofs (maxSteps := 5000000) only [go_sem, reduceIte, reduceCtorEq, Nat.reduceEqDiff, Nat.reduceBEq, Nat.reduceAdd, Nat.reduceLeDiff, Nat.reduceMul, Nat.reduceLT, Int.reduceEq, Int.reduceLT, Int.reduceLE, rEn, d76, d67, d87, d78, d86, d68, m1, m2, m4, m5, m7, m8, t0, t2, t6, t7, t8, t22, t23, t24, toI_len, toI_at, hx1, hx2, hh2.1, hh2.2, k9, c0]
            rintro b11 hb11
            exact adv _ st e s' _ (szl 9) hch2 hs' hsl hpd (by omega) (by omega) h6 h7 h8 hM'
        · by_cases k8 : k2 = 8
          · rw [if_pos k8] at hch2
            by_cases c2 : st.ed = 2
            · have hsv := hpd.1 c2
              simp only at hsv
              have sv0 := hsv.1
              have sv1 := hsv.2
              have sv2 : st.val.toNat < s'.fs.length := by omega
              have hcl := (hs'.cls st.val.toNat sv2).1
              have hcl2 := hasF_spec hcl
              simp +contextual -dsimp -implicitDefEqProofs (maxSteps := 5000000) only [go_sem, reduceIte, reduceCtorEq, Nat.reduceEqDiff, Nat.reduceBEq, Nat.reduceAdd, Nat.reduceLeDiff, Nat.reduceMul, Nat.reduceLT, Int.reduceEq, Int.reduceLT, Int.reduceLE, rEn, d76, d67, d87, d78, d86, d68, m1, m2, m4, m5, m7, m8, t0, t2, t6, t7, t8, t22, t23, t24, toI_len, toI_at, hx1, hx2, hh2.1, hh2.2, k8, c2]
              rintro b11 hb11
              refine draw_intro [0, 0, 0, 0, 0, 0, 0, 0, 0, 0, 0, 0, 0, 0, 0, 0, 0, 0, 0, 0, 2, 0] AHeap.none (by kernel_rfl) none_le ?_
              rcases hg2 with ⟨ee, _, _⟩ | ⟨bf, clf, hbf, rfl, rfl⟩
              · rw [ee] at sv1; simp at sv1; omega
              have ub := hb
              have u6 := m3
              have u7 := m6
              have u8 := m9
              rw [set_none] at ub u6 u7 u8
              obtain ⟨v1, v2, _⟩ := ub
              obtain ⟨v3, v4, _⟩ := u6
              obtain ⟨v5, v6, _⟩ := u7
              obtain ⟨v7, v8, _⟩ := u8
              simp +contextual -dsimp -implicitDefEqProofs (maxSteps := 5000000) only [go_sem, reduceIte, reduceCtorEq, Nat.reduceEqDiff, Nat.reduceBEq, Nat.reduceAdd, Nat.reduceLeDiff, Nat.reduceMul, Nat.reduceLT, Int.reduceEq, Int.reduceLT, Int.reduceLE, rEn, d76, d67, d87, d78, d86, d68, m1, m2, m4, m5, m7, m8, t0, t2, t6, t7, t8, t22, t23, t24, toI_len, toI_at, hx1, hx2, hh2.1, hh2.2, k8, c2, v1, v2, v3, v4, v5, v6, v7, v8, sv0, sv1, sv2]
              refine (c_is t cl _ a2 _ ht hcl2.2).det ?_
              simp +contextual -dsimp -implicitDefEqProofs (maxSteps := 5000000) only [go_sem, reduceIte, reduceCtorEq, Nat.reduceEqDiff, Nat.reduceBEq, Nat.reduceAdd, Nat.reduceLeDiff, Nat.reduceMul, Nat.reduceLT, Int.reduceEq, Int.reduceLT, Int.reduceLE, rEn, d76, d67, d87, d78, d86, d68, m1, m2, m4, m5, m7, m8, t0, t2, t6, t7, t8, t22, t23, t24, toI_len, toI_at, hx1, hx2, hh2.1, hh2.2, k8, c2, v1, v2, v3, v4, v5, v6, v7, v8, sv0, sv1, sv2]
              refine ⟨fun hq => ?_, fun hq => ?_⟩
              · rw [if_pos ⟨c2, hq⟩] at hch2
                have hgo2 := goes_run ht ks (q + 1) none (d + 1) st.val s' n4 hs' sv1 trivial
                have hgl2 := hgo2.len
                refine (c_block ih (by omega) hgat n4 hs' sv1 (by omega) (by omega) (mach_in3 (K6 := ⟨2, 53, [[I 0, I 0]]⟩) (K7 := ⟨2, 53, [rEn e]⟩) (K8 := ⟨2, 53, [[I 2, I st.val]]⟩) hM' h6 h7 h8 d76 d86 d87) hp).mono ?_
                rintro _ H3 ⟨rfl, hM3⟩
                generalize runF t ks (q + 1) none st.val s' = r2 at hM3 hgo2 hgl2 hch2
                obtain ⟨H5, rfl, hM5, w6, w7, w8⟩ := mach_out3 hM3 hF6 hF7 hF8 d76 d86 d87
                simp +contextual -dsimp -implicitDefEqProofs (maxSteps := 5000000) only [go_sem, reduceIte, reduceCtorEq, Nat.reduceEqDiff, Nat.reduceBEq, Nat.reduceAdd, Nat.reduceLeDiff, Nat.reduceMul, Nat.reduceLT, Int.reduceEq, Int.reduceLT, Int.reduceLE, rEn, d76, d67, d87, d78, d86, d68, m1, m2, m4, m5, m7, m8, t0, t2, t6, t7, t8, t22, t23, t24, toI_len, toI_at, hx1, hx2, hh2.1, hh2.2, k8, c2]
                exact adv _ ⟨-1, 0⟩ r2.1 r2.2 H5 (szl 8) hch2 hgo2.ok (by omega) ⟨(fun z => by cases z), hgo2.val⟩ (by omega) (by omega) w6 w7 w8 hM5
              · rw [if_neg (fun z => by have := z.2; unfold isF clsOf at this; rw [hq] at this; cases this)] at hch2
                have fin := adv _ st e s' _ (szl 8) hch2 hs' hsl hpd (by omega) (by omega) h6 h7 h8 hM'
                rw [c2] at fin
                exact fin
            · rw [if_neg (fun z => c2 z.1)] at hch2
              simp +contextual -dsimp -implicitDefEqProofs (maxSteps := 5000000) only [go_sem, reduceIte, reduceCtorEq, Nat.reduceEqDiff, Nat.reduceBEq, Nat.reduceAdd, Nat.reduceLeDiff, Nat.reduceMul, Nat.reduceLT, Int.reduceEq, Int.reduceLT, Int.reduceLE, rEn, d76, d67, d87, d78, d86, d68, m1, m2, m4, m5, m7, m8, t0, t2, t6, t7, t8, t22, t23, t24, toI_len, toI_at, hx1, hx2, hh2.1, hh2.2, k8, c2]
              rintro b11 hb11
              refine draw_intro [0, 0, 0, 0, 0, 0, 0, 0, 0, 0, 0, 0, 0, 0, 0, 0, 0, 0, 0, 0, 2, 0] AHeap.none (by kernel_rfl) none_le ?_
              simp +contextual -dsimp -implicitDefEqProofs (maxSteps := 5000000) only [go_sem, reduceIte, reduceCtorEq, Nat.reduceEqDiff, Nat.reduceBEq, Nat.reduceAdd, Nat.reduceLeDiff, Nat.reduceMul, Nat.reduceLT, Int.reduceEq, Int.reduceLT, Int.reduceLE, rEn, d76, d67, d87, d78, d86, d68, m1, m2, m4, m5, m7, m8, t0, t2, t6, t7, t8, t22, t23, t24, toI_len, toI_at, hx1, hx2, hh2.1, hh2.2, k8, c2]
              exact adv _ st e s' _ (szl 8) hch2 hs' hsl hpd (by omega) (by omega) h6 h7 h8 hM'
          · have k10 : k2 = 10 := by omega
            rw [if_neg k8, if_neg k9] at hch2
            by_cases c2 : e.ed = 2
            · have hev := hpd.2 c2
              simp only at hev
              rw [if_pos c2] at hch2
              simp +contextual -dsimp -implicitDefEqProofs (maxSteps := 5000000) only [go_sem, reduceIte, reduceCtorEq, Nat.reduceEqDiff, Nat.reduceBEq, Nat.reduceAdd, Nat.reduceLeDiff, Nat.reduceMul, Nat.reduceLT, Int.reduceEq, Int.reduceLT, Int.reduceLE, rEn, d76, d67, d87, d78, d86, d68, m1, m2, m4, m5, m7, m8, t0, t2, t6, t7, t8, t22, t23, t24, toI_len, toI_at, hx1, hx2, hh2.1, hh2.2, k10, c2]
              rintro b11 hb11
              have hgo2 := goes_run ht ks (q + 1) none (d + 1) e.val s' n4 hs' hev.2 trivial
              have hgl2 := hgo2.len
              refine (c_block ih (by omega) hgat n4 hs' hev.2 (by omega) (by omega) (mach_in3 (K6 := ⟨2, 53, [[I 0, I 0]]⟩) (K7 := ⟨2, 53, [[I 2, I e.val]]⟩) (K8 := ⟨2, 53, [rEn st]⟩) hM' h6 h7 h8 d76 d86 d87) hp).mono ?_
              rintro _ H3 ⟨rfl, hM3⟩
              generalize runF t ks (q + 1) none e.val s' = r2 at hM3 hgo2 hgl2 hch2
              obtain ⟨H5, rfl, hM5, w6, w7, w8⟩ := mach_out3 hM3 hF6 hF7 hF8 d76 d86 d87
              by_cases c0 : r2.1.ed = 0
              · rw [if_pos c0] at hch2
                simp +contextual -dsimp -implicitDefEqProofs (maxSteps := 5000000) only [go_sem, reduceIte, reduceCtorEq, Nat.reduceEqDiff, Nat.reduceBEq, Nat.reduceAdd, Nat.reduceLeDiff, Nat.reduceMul, Nat.reduceLT, Int.reduceEq, Int.reduceLT, Int.reduceLE, rEn, d76, d67, d87, d78, d86, d68, m1, m2, m4, m5, m7, m8, t0, t2, t6, t7, t8, t22, t23, t24, toI_len, toI_at, hx1, hx2, hh2.1, hh2.2, k10, c2, c0]
                rintro b13 hb13
                have fin := adv _ st e r2.2 H5 (szl 10) hch2 hgo2.ok (by omega) ⟨fun z => by have := hpd.1 z; simp only at this; show 0 ≤ st.val ∧ st.val < (r2.2.fs.length : Int); omega, fun z => by have := hpd.2 z; simp only at this; show 0 ≤ e.val ∧ e.val < (r2.2.fs.length : Int); omega⟩ (by omega) (by omega) w6 w7 w8 hM5
                rw [c2] at fin
                exact fin
              · rw [if_neg c0] at hch2
                simp +contextual -dsimp -implicitDefEqProofs (maxSteps := 5000000) only [go_sem, reduceIte, reduceCtorEq, Nat.reduceEqDiff, Nat.reduceBEq, Nat.reduceAdd, Nat.reduceLeDiff, Nat.reduceMul, Nat.reduceLT, Int.reduceEq, Int.reduceLT, Int.reduceLE, rEn, d76, d67, d87, d78, d86, d68, m1, m2, m4, m5, m7, m8, t0, t2, t6, t7, t8, t22, t23, t24, toI_len, toI_at, hx1, hx2, hh2.1, hh2.2, k10, c2, c0]
                rintro b13 hb13
                exact adv _ st r2.1 r2.2 H5 (szl 10) hch2 hgo2.ok (by omega) ⟨fun z => by have := hpd.1 z; simp only at this; show 0 ≤ st.val ∧ st.val < (r2.2.fs.length : Int); omega, hgo2.val⟩ (by omega) (by omega) w6 w7 w8 hM5
            · rw [if_neg c2] at hch2
              simp +contextual -dsimp -implicitDefEqProofs (maxSteps := 5000000) only [go_sem, reduceIte, reduceCtorEq, Nat.reduceEqDiff, Nat.reduceBEq, Nat.reduceAdd, Nat.reduceLeDiff, Nat.reduceMul, Nat.reduceLT, Int.reduceEq, Int.reduceLT, Int.reduceLE, rEn, d76, d67, d87, d78, d86, d68, m1, m2, m4, m5, m7, m8, t0, t2, t6, t7, t8, t22, t23, t24, toI_len, toI_at, hx1, hx2, hh2.1, hh2.2, k10, c2]
              rintro b11 hb11
              have hgo2 := goes_run ht ks (q + 1) none (d + 1) h s' n4 hs' hgol trivial
              have hgl2 := hgo2.len
              refine (c_block ih (by omega) hgat n4 hs' hgol (by omega) (by omega) (mach_in3 (K6 := ⟨2, 53, [[I 0, I 0]]⟩) (K7 := ⟨2, 53, [rEn e]⟩) (K8 := ⟨2, 53, [rEn st]⟩) hM' h6 h7 h8 d76 d86 d87) hp).mono ?_
              rintro _ H3 ⟨rfl, hM3⟩
              generalize runF t ks (q + 1) none h s' = r2 at hM3 hgo2 hgl2 hch2
              obtain ⟨H5, rfl, hM5, w6, w7, w8⟩ := mach_out3 hM3 hF6 hF7 hF8 d76 d86 d87
              by_cases c0 : r2.1.ed = 0
              · rw [if_pos c0] at hch2
                simp +contextual -dsimp -implicitDefEqProofs (maxSteps := 5000000) only [go_sem, reduceIte, reduceCtorEq, Nat.reduceEqDiff, Nat.reduceBEq, Nat.reduceAdd, Nat.reduceLeDiff, Nat.reduceMul, Nat.reduceLT, Int.reduceEq, Int.reduceLT, Int.reduceLE, rEn, d76, d67, d87, d78, d86, d68, m1, m2, m4, m5, m7, m8, t0, t2, t6, t7, t8, t22, t23, t24, toI_len, toI_at, hx1, hx2, hh2.1, hh2.2, k10, c2, c0]
                rintro b13 hb13
                exact adv _ st e r2.2 H5 (szl 10) hch2 hgo2.ok (by omega) ⟨fun z => by have := hpd.1 z; simp only at this; show 0 ≤ st.val ∧ st.val < (r2.2.fs.length : Int); omega, fun z => absurd z c2⟩ (by omega) (by omega) w6 w7 w8 hM5
              · rw [if_neg c0] at hch2
                simp +contextual -dsimp -implicitDefEqProofs (maxSteps := 5000000) only [go_sem, reduceIte, reduceCtorEq, Nat.reduceEqDiff, Nat.reduceBEq, Nat.reduceAdd, Nat.reduceLeDiff, Nat.reduceMul, Nat.reduceLT, Int.reduceEq, Int.reduceLT, Int.reduceLE, rEn, d76, d67, d87, d78, d86, d68, m1, m2, m4, m5, m7, m8, t0, t2, t6, t7, t8, t22, t23, t24, toI_len, toI_at, hx1, hx2, hh2.1, hh2.2, k10, c2, c0]
                rintro b13 hb13
                exact adv _ st r2.1 r2.2 H5 (szl 10) hch2 hgo2.ok (by omega) ⟨fun z => by have := hpd.1 z; simp only at this; show 0 ≤ st.val ∧ st.val < (r2.2.fs.length : Int); omega, hgo2.val⟩ (by omega) (by omega) w6 w7 w8 hM5
end Go.Proofs.Ytbjgilehnlpmaaa
end
section
set_option linter.unusedVariables false
set_option linter.unusedSimpArgs false
namespace Go.Proofs.Ytbjgilehnlpmaaa
open Go Go.Sim
set_option maxRecDepth 100000
attribute [local go_sem ↓] aw_skip aw_ret aw_exit aw_region aw_draw aw_seq aw_block aw_loop aw_cond frz_nil frz_cons sq_normal sq_ret sq_exit exB_normal exB_ret exB_same exB_other retQ_ret retQ_normal ret0_ret ret0_normal ao_nil go1 g_move g_assign g_pick g_build g_load g_binOp g_unOp g_convert g_fieldAddr g_field g_indexAddr g_index g_extract g_slice g_nilCheck g_len g_makeFunc h_call h_append h_alloc h_box h_buildSlice h_makeSlice h_store gV i_box i_buildSlice i_move i_assign i_build i_load i_binOp i_unOp i_convert i_fieldAddr i_field i_indexAddr i_index i_extract i_slice i_nilCheck i_makeFunc i_len i_max i_min i_alloc i_makeSlice i_store i_append i_call i_pick boxI boxA buildSliceI buildSliceA makeSliceA allocA storeA p_move p_assign p_pick p_build p_load p_binOp p_unOp p_convert p_fieldAddr p_field p_indexAddr p_index p_extract p_slice p_nilCheck p_makeFunc p_len p_max p_min p_alloc p_box p_buildSlice p_makeSlice p_store p_append p_call x_nil x_go1 x_g0 x_g1 x_g2 x_g3 x_s0 x_s1 x_s2 x_s3 u_move u_assign u_pick u_build u_load u_binOp u_unOp u_convert u_fieldAddr u_field u_indexAddr u_index u_extract u_slice u_nilCheck u_makeFunc u_len u_buildSlice x_s4 x_g4 rq_normal rq_ret rq_exit aw_range
attribute [local go_sem] frzV_sl frzK_some set_none set_other AHeap.set_self set_del set_set cnd_t cnd_f cnd_b retA_one retA_two retA_three retA_four retA_nil gIf_b mrgV_b mrgV_wh mrgV_U gIf_U gIf_wh mrgB_f mrgB_some mrgB_if wh_true wh_false keepA_some keepA_if gD_zero gD_succ gT_some bxA_t bxA_f callA_fn ev_tmp ev_const ev_global ev_func oc_bool oc_int oc_string oc_nil oc_nilptr oc_nilfunc cl_bool cl_int cl_string cl_nil updO_some updO_none upd_same upd_other init_at pickA_b pickA_wh selA_t selA_f selA_and selA_or selA_orn selA_orm selA_bb selA_ii beqt b_add b_sub b_mul b_and b_or b_xor b_eql b_neq b_lss b_leq b_gtr b_geq b_quo b_rem b_shr b_seql b_sneq b_sadd b_beql b_bneq b_aeql b_aneq u_not u_neg isConstOp eqA eqCellV List.getD_cons_zero List.getD_cons_succ List.map_cons List.map_nil List.nil_append List.cons_append List.append_nil if_true if_false Option.map_some Option.map_none ne_eq not_false_eq_true oneA ldv ld1v ld1s wr1s ldRow stRow row_lit row_agg row_vsl row_sl row_ptr row_fn one_I one_B one_S one_vsl one_sl one_ptr one_fn extractA okA rI rS rU rClass rFault rExit rStart rLine Int.toNat_natCast List.length_cons List.length_nil List.length_map List.all_cons List.all_nil Bool.and_true Nat.zero_add List.getElem?_cons_zero List.getElem?_cons_succ List.take_succ_cons List.take_zero List.drop_succ_cons List.drop_zero and_self true_and and_true implies_true decide_eq_true_eq decide_eq_false_iff_not Bool.or_eq_true Bool.or_eq_false_iff Bool.and_eq_true Bool.not_eq_true' Bool.not_eq_false' beq_false decide_true decide_false Int.ofNat_lt Int.ofNat_le Int.natCast_nonneg Bool.or_true Bool.or_false Bool.true_or Bool.false_or beq_self_eq_true List.drop_one Bool.not_true Bool.not_false Bool.not_not Bool.false_eq_true Bool.true_eq_false false_implies true_implies Bool.true_and Bool.false_and Bool.and_false not_true_eq_false Int.natCast_eq_zero Int.natCast_pos Int.natCast_zero false_and and_false or_false false_or or_true true_or Bool.or_self none_le_iff List.replicate_zero Int.toNat_zero List.replicate_succ buildRows List.set_cons_zero List.set_cons_succ List.set_nil List.mapM_nil maxLen_eq Nat.zero_le Nat.mul_one Nat.one_mul bldA fillA spliceA List.take_nil List.drop_nil List.getElem?_nil ld1o wr1o bldSliceA le_same cv_i cvI_t quietT_fn qvd_some ld_o ldO_1 ldO_l wr_o wrO_1 set_2 set_3 set_4 putL_nil putL_cons List.zip_cons_cons List.zip_nil_left List.zip_nil_right List.toList_toArray frzV_set ti1 ti2 tk2 ti3 te3 ts3 tk3 tz3 ti4 tb4 ti5 tk5 tz5 ti9 te9 ts9 tk9 tz9 ti12 tk12 ti13 tp13 tf13_0 tf13_1 ti20 ti21 tk21 tz21 ti22 te22 ti23 tp23 tf23_0 ti24 tp24 tf24_0 ti25 te25 ti27 ti28 ti29 te29 ti30 te30 ti31 tp31 tf31_0 ti32 tp32 tf32_0 ti33 tp33 tf33_0 tf33_1 tf33_2 tf33_3 ti34 tp34 tf34_0 tf34_1 tf34_2 tf34_3 ti35 ti36 tq36 tp36 tf36_0 tf36_1 tf36_2 tf36_3 ti37 tq37 tp37 tf37_0 tf37_1 tf37_2 tf37_3 ti38 ti39 ti40 ti41 ti42 ti43 ti44 te44 tz44 ti46 ti47 ti48 ti49 ti50 ti51 ti52 tq52 tp52 tf52_0 tf52_1 ti53 tq53 tp53 tf53_0 tf53_1 ti54 ti55 tq55 tp55 tf55_0 tf55_1 tf55_2 tf55_3 tf55_4 ti56 tq56 tp56 tf56_0 tf56_1 tf56_2 tf56_3 tf56_4 ti57 ti58 ti59 ti60 ti61 ti62 ti63 ti64 ti65 ti66 ti67 ti68 ti69 ti70 tp70 tf70_0 tf70_1 tf70_2 tf70_3 tf70_4 ti71 tp71 tf71_0 tf71_1 tf71_2 tf71_3 tf71_4 ti73 ti74 ti75 ti76 ti77 ti78 ti79 ti80 tq80 tp80 tf80_0 tf80_1 ti81 tq81 tp81 tf81_0 tf81_1 ti82 ti83 ti84 ti85 ti86 ti87 ti88 ti89 ti90 tp90 tf90_0 tf90_1 ti91 tp91 tf91_0 tf91_1 ti92 ti93 ti94 ti95 ti96 ti97 ti98 ti99 ti100 ti101 ti102 ti103 te103 ti104 ti105 ti106 ti107 ti108 ti109 ti110 ti111 ti112 tk112 tz112 ti113 ti114 ti115 tk115 ti117 ti118 ti119 ti121 ti122 ti123 tk123 tz123 ti124 ti125 tk125 tz125 ti126 ti127 tk127 ti128 ti129 ti130 ti131 ti132 ti133 ti135 ti136 ti142 ti146 fp13_0 fv13_0 fp13_1 fv13_1 fp23_0 fv23_0 fp24_0 fv24_0 fp31_0 fv31_0 fp32_0 fv32_0 fp33_0 fv33_0 fp33_1 fv33_1 fp33_2 fv33_2 fp33_3 fv33_3 fp34_0 fv34_0 fp34_1 fv34_1 fp34_2 fv34_2 fp34_3 fv34_3 fp36_0 fv36_0 fp36_1 fv36_1 fp36_2 fv36_2 fp36_3 fv36_3 fp37_0 fv37_0 fp37_1 fv37_1 fp37_2 fv37_2 fp37_3 fv37_3 fp52_0 fv52_0 fp52_1 fv52_1 fp53_0 fv53_0 fp53_1 fv53_1 fp55_0 fv55_0 fp55_1 fv55_1 fp55_2 fv55_2 fp55_3 fv55_3 fp55_4 fv55_4 fp56_0 fv56_0 fp56_1 fv56_1 fp56_2 fv56_2 fp56_3 fv56_3 fp56_4 fv56_4 fp70_0 fv70_0 fp70_1 fv70_1 fp70_2 fv70_2 fp70_3 fv70_3 fp70_4 fv70_4 fp71_0 fv71_0 fp71_1 fv71_1 fp71_2 fv71_2 fp71_3 fv71_3 fp71_4 fv71_4 fp80_0 fv80_0 fp80_1 fv80_1 fp81_0 fv81_0 fp81_1 fv81_1 fp90_0 fv90_0 fp90_1 fv90_1 fp91_0 fv91_0 fp91_1 fv91_1 lv22 ll22 is22 ix22 sh22 so22 sb22 sm22 sp22 lv25 ll25 is25 ix25 sh25 so25 sb25 sm25 sp25 lv29 ll29 is29 ix29 sh29 so29 sb29 sm29 sp29 lv30 ll30 is30 ix30 sh30 so30 sb30 sm30 sp30 lv44 ll44 is44 ix44 sh44 so44 sb44 sm44 sp44 lv103 ll103 is103 ix103 sh103 so103 sb103 sm103 sp103 xs9 ls9 sx9 sy9 sz9
set_option maxHeartbeats 4000000

theorem goes_chain {t : List Class} (ht : validT t = true) : ∀ (f : Fo) (i : Nat) (st e : En) (d h : Int) (s : RS), numsF t f d = true → FsOk t s.fs → h < s.fs.length → PdOk s (some (st, e)) →
    ∃ c, c + cost (skipF f) ≤ cost f ∧ Goes t c s (chainR t f i st e h s).1 (chainR t f i st e h s).2
  | .nil, i, st, e, d, h, s, _, hs, _, hp => ⟨0, Nat.le_refl _, goes_self hs hp.2⟩
  | .node k a b kids rest, i, st, e, d, h, s, hn, hs, hh, hp => by
    obtain ⟨n1, n2, n3, n4, n5⟩ := numsF_node hn
    simp only [chainR, skipF]
    by_cases hk : followsK k = true
    · simp only [hk, if_true]
      have hk' := hk
      simp only [followsK, inR, Bool.and_eq_true, decide_eq_true_eq] at hk'
      have hc := cost_node_le (k := k) (a := a) (b := b) (kids := kids) (rest := rest) (by omega)
      have pass : ∀ (q : En × En), PdOk s (some q) → ∃ c, c + cost (skipF rest) ≤ cost (.node k a b kids rest) ∧ Goes t c s (chainR t rest (i + 1 + kids.size) q.1 q.2 h s).1 (chainR t rest (i + 1 + kids.size) q.1 q.2 h s).2 := by
        intro q hq
        obtain ⟨c, h1, h2⟩ := goes_chain ht rest (i + 1 + kids.size) q.1 q.2 d h s n5 hs hh hq
        exact ⟨c, by omega, h2⟩
      have go : ∀ (g : Int) (st : En) (e : En × RS → En), g < s.fs.length → (st.ed = 2 → 0 ≤ st.val ∧ st.val < s.fs.length) → (∀ r : En × RS, (r.1.ed = 2 → 0 ≤ r.1.val ∧ r.1.val < r.2.fs.length) → s.fs.length ≤ r.2.fs.length → (e r).ed = 2 → 0 ≤ (e r).val ∧ (e r).val < r.2.fs.length) →
          ∃ c, c + cost (skipF rest) ≤ cost (.node k a b kids rest) ∧ Goes t c s ((fun r : En × RS => chainR t rest (i + 1 + kids.size) st (e r) h r.2) (runF t kids (i + 1) none g s)).1 ((fun r : En × RS => chainR t rest (i + 1 + kids.size) st (e r) h r.2) (runF t kids (i + 1) none g s)).2 := by
        intro g st e hg hst he
        have h1 := goes_run ht kids (i + 1) none (d + 1) g s n4 hs hg trivial
        generalize runF t kids (i + 1) none g s = r at h1 ⊢
        have hl := h1.len
        obtain ⟨c, h2, h3⟩ := goes_chain ht rest (i + 1 + kids.size) st (e r) d h r.2 n5 h1.ok (by omega) ⟨fun q => by have := hst q; show 0 ≤ st.val ∧ st.val < (r.2.fs.length : Int); omega, he r h1.val hl.1⟩
        exact ⟨cost kids + c, by omega, h1.trans h3 (Nat.le_refl _)⟩
      split
      · split
        · rename_i hq
          exact go st.val ⟨-1, 0⟩ (fun r => r.1) (hp.1 hq.1).2 (fun q => by cases q) (fun r hr _ => hr)
        · exact pass (st, e) hp
      · split
        · split
          · exact go h st (fun r => r.1) hh hp.1 (fun r hr _ => hr)
          · exact pass (st, e) hp
        · refine go _ st (fun r => if r.1.ed = 0 then e else r.1) ?_ hp.1 (fun r hr hl => ?_)
          · split
            · exact (hp.2 ‹_›).2
            · exact hh
          · split
            · exact fun z => by have := hp.2 z; simp only at this; omega
            · exact hr
    · rw [if_neg hk, if_neg hk]
      exact ⟨0, by omega, goes_self hs hp.2⟩
theorem numsF_skip {t : List Class} {d : Int} : ∀ (f : Fo), numsF t f d = true → numsF t (skipF f) d = true
  | .nil, h => h
  | .node k a b kids rest, h => by
    simp only [skipF]
    split
    · exact numsF_skip rest (numsF_node h).2.2.2.2
    · exact h
theorem getD_last (i : Nat) (l : List Nat) : (i :: l).getD l.length default = (i :: l).getLastD 0 := by
  rw [List.getLastD_cons]
  induction l generalizing i with
  | nil => rfl
  | cons x l ih => rw [List.length_cons, List.getD_cons_succ, List.getLastD_cons]; exact ih x
theorem c_linesStep {t : List Class} {cl : Bool} {P : List Line} {clp : Bool} {n : Nat} (ht : validT t = true) (hp : P.length ≤ 4398046511104) (ih : LinesOk t cl P clp n) : LinesOk t cl P clp (n + 1) := by
  intro f i d h s F H bm hfn hat hnf hs hh hl hf hM
  have hfl := hat.len
  refine acalls_of1 Try.func25 rfl (by kernel_rfl) rfl rfl (awp_sound (fz := fun r => if r = 12 then [11] else []) (im := fun _ => false) mixed _ _ _ _ (by kernel_rfl) ?_)
  simp +contextual -dsimp -implicitDefEqProofs (maxSteps := 5000000) only [go_sem, reduceIte, reduceCtorEq, Nat.reduceEqDiff, Nat.reduceBEq, Nat.reduceAdd, Nat.reduceLeDiff, Nat.reduceMul, Nat.reduceLT, Int.reduceEq, Int.reduceLT, Int.reduceLE]
  intro b8 hb8
  have hF8 := mach_none hM hb8
  refine aloop mixed (fz := fun r => if r = 12 then [11] else []) (im := fun _ => false) (by kernel_rfl) (fun m tm H' => ∃ (g : Fo) (q : Nat) (s' : RS) (H'' : AHeap), m = g.size ∧ At P q d g ∧ numsF t g d = true ∧ g.size ≤ f.size ∧ q + g.size = i + f.size ∧ FsOk t s'.fs ∧ s.fs.length ≤ s'.fs.length ∧ s'.log.length + cost g ≤ 900000 ∧ s'.fs.length + cost g ≤ 900000 ∧ runF t f i none h s = runF t g q none h s' ∧ H' = H''.set b8 ⟨2, 53, [[I 0, I 0]]⟩ ∧ H'' b8 = none ∧ MachS F H'' bm t cl P clp s' ∧ tm 0 = .ptr bm 5 0 0 ∧ tm 2 = I (i + f.size : Nat) ∧ tm 3 = I h ∧ tm 8 = .ptr b8 2 0 0 ∧ tm 9 = I q) f.size ⟨f, i, s, H, rfl, hat, hnf, Nat.le_refl _, rfl, hs, Nat.le_refl _, hl, hf, rfl, rfl, hb8, hM, ?_⟩ ?_
  · simp +contextual -dsimp -implicitDefEqProofs (maxSteps := 5000000) only [go_sem, reduceIte, reduceCtorEq, Nat.reduceEqDiff, Nat.reduceBEq, Nat.reduceAdd, Nat.reduceLeDiff, Nat.reduceMul, Nat.reduceLT, Int.reduceEq, Int.reduceLT, Int.reduceLE]
  · rintro m tm _ ⟨g, q, s', H'', rfl, hgat, hgn, hgs, hgq, hs', hsl, bl, bf, he, rfl, h8, hM', t0, t2, t3, t8, t9⟩
    cases g with
    | nil =>
      have z : ¬ q < i + f.size := by simp only [Fo.size] at hgq; omega
      rw [he]
      simp +contextual -dsimp -implicitDefEqProofs (maxSteps := 5000000) only [go_sem, reduceIte, reduceCtorEq, Nat.reduceEqDiff, Nat.reduceBEq, Nat.reduceAdd, Nat.reduceLeDiff, Nat.reduceMul, Nat.reduceLT, Int.reduceEq, Int.reduceLT, Int.reduceLE, t0, t2, t3, t8, t9, z]
      refine retR_less (l := [.agg (rEn .next)]) (H' := H'') ?_ (le_set h8) ⟨rfl, hM'⟩
      simp only [resA, go_sem, reduceIte, reduceCtorEq, Nat.reduceEqDiff, Nat.reduceBEq, Nat.reduceAdd, Nat.reduceLeDiff, Nat.reduceMul, Nat.reduceLT, Int.reduceEq, Int.reduceLT, Int.reduceLE, rEn, En.next, t8]
    | node k a b kids rest =>
      have hsz : (Fo.node k a b kids rest).size = 1 + kids.size + rest.size := rfl
      have z : q < i + f.size := by omega
      have hq := hgat.head
      obtain ⟨xl, xf, H1, H2, hFm, hg1, hg2, hb, rfl⟩ := id hM'
      have h8' := h8
      rw [set_none] at h8'
      obtain ⟨m1, m2, m3⟩ := h8'
      obtain ⟨n1, n2, n3, n4, n5⟩ := numsF_node hgn
      simp +contextual -dsimp -implicitDefEqProofs (maxSteps := 5000000) only [go_sem, reduceIte, reduceCtorEq, Nat.reduceEqDiff, Nat.reduceBEq, Nat.reduceAdd, Nat.reduceLeDiff, Nat.reduceMul, Nat.reduceLT, Int.reduceEq, Int.reduceLT, Int.reduceLE, t0, t2, t3, t8, t9, z, m1, m2]
      refine (c_endOf P clp q _ hq.1).det ?_
      rw [hgat.endP]
      simp +contextual -dsimp -implicitDefEqProofs (maxSteps := 5000000) only [go_sem, reduceIte, reduceCtorEq, Nat.reduceEqDiff, Nat.reduceBEq, Nat.reduceAdd, Nat.reduceLeDiff, Nat.reduceMul, Nat.reduceLT, Int.reduceEq, Int.reduceLT, Int.reduceLE, t0, t2, t3, t8, t9, z, m1, m2, hq.1, hq.2]
      rintro b11 ⟨d1, d2, d3, d4, m4⟩
      have h11 : (H2.set bm ⟨5, 71, [[.vsl (t.map rClass) cl, aProg P clp, xl, xf, I s'.first]]⟩) b11 = none := by rw [set_other d3]; exact m4
      have hF11 := mach_none hM' h11
      have adv : ∀ (SZ : Nat) (g' : Fo) (q' : Nat) (s'' : RS) (H3 : AHeap), g'.size < SZ → g'.size ≤ rest.size → At P q' d g' → numsF t g' d = true → q' + g'.size = i + f.size → runF t (.node k a b kids rest) q none h s' = runF t g' q' none h s'' → FsOk t s''.fs → s.fs.length ≤ s''.fs.length → s''.log.length + cost g' ≤ 900000 → s''.fs.length + cost g' ≤ 900000 → H3 b8 = none → MachS F H3 bm t cl P clp s'' →
          ∃ m', m' < SZ ∧ ∃ (g : Fo) (q : Nat) (s' : RS) (H'' : AHeap), m' = g.size ∧ At P q d g ∧ numsF t g d = true ∧ g.size ≤ f.size ∧ q + g.size = i + f.size ∧ FsOk t s'.fs ∧ s.fs.length ≤ s'.fs.length ∧ s'.log.length + cost g ≤ 900000 ∧ s'.fs.length + cost g ≤ 900000 ∧ runF t f i none h s = runF t g q none h s' ∧ H3.set b8 ⟨2, 53, [[I 0, I 0]]⟩ = H''.set b8 ⟨2, 53, [[I 0, I 0]]⟩ ∧ H'' b8 = none ∧ MachS F H'' bm t cl P clp s' ∧ I q' = I q :=
        fun SZ g' q' s'' H3 w1 w0 w2 w3 w4 w5 w6 w7 w8 w9 w10 w11 => ⟨g'.size, w1, g', q', s'', H3, rfl, w2, w3, by omega, w4, w6, w7, w8, w9, by rw [he]; exact w5, rfl, w10, w11, rfl⟩
      have hMin := mach_in (K := ⟨2, 53, [[I 0, I 0]]⟩) (mach_in (K := ⟨2, 53, [[I 0, I 0]]⟩) hM' h8) (show ((H2.set bm _).set b8 _) b11 = none by rw [set_other d1]; exact h11)
      have mout : ∀ (s'' : RS) (H3 : AHeap), MachS ((F.set b8 ⟨2, 53, [[I 0, I 0]]⟩).set b11 ⟨2, 53, [[I 0, I 0]]⟩) H3 bm t cl P clp s'' → ∃ H4, H3 = (H4.set b8 ⟨2, 53, [[I 0, I 0]]⟩).set b11 ⟨2, 53, [[I 0, I 0]]⟩ ∧ MachS F H4 bm t cl P clp s'' ∧ H4 b8 = none ∧ H4 b11 = none := by
        intro s'' H3 hM3
        obtain ⟨H4, rfl, hM4, w1⟩ := mach_out hM3 (by rw [set_other d1]; exact hF11)
        obtain ⟨H5, rfl, hM5, w2⟩ := mach_out hM4 hF8
        rw [set_other d1] at w1
        exact ⟨H5, rfl, hM5, w2, w1⟩
      by_cases k7 : k = 7
      · subst k7
        have hc : cost (.node 7 a b kids rest) = 2 + cost kids + cost rest := cost_node_le (by omega)
        simp +contextual -dsimp -implicitDefEqProofs (maxSteps := 5000000) only [go_sem, reduceIte, reduceCtorEq, Nat.reduceEqDiff, Nat.reduceBEq, Nat.reduceAdd, Nat.reduceLeDiff, Nat.reduceMul, Nat.reduceLT, Int.reduceEq, Int.reduceLT, Int.reduceLE, t0, t2, t3, t8, t9, z, m1, m2, hq.1, hq.2, d1, d2, d3, d4]
        refine acalls_frz (c_tryFrom P clp q _ hq.1 hp) fun cl2 => ?_
        rw [chainP_at hgat]
        simp +contextual -dsimp -implicitDefEqProofs (maxSteps := 5000000) only [go_sem, reduceIte, reduceCtorEq, Nat.reduceEqDiff, Nat.reduceBEq, Nat.reduceAdd, Nat.reduceLeDiff, Nat.reduceMul, Nat.reduceLT, Int.reduceEq, Int.reduceLT, Int.reduceLE, t0, t2, t3, t8, t9, z, m1, m2, hq.1, hq.2, d1, d2, d3, d4]
        refine draw_intro [0, 0, 0, 0, 0, 0, 0, 0, 0, 0, 2, 0] AHeap.none (by kernel_rfl) none_le ?_
        have hce := chain_end rest (q + 1 + kids.size) q hgat.rest hgat.endP
        have hgl := getD_last q (chainN rest (q + 1 + kids.size))
        have hmem := chainP_mem hq.1 ((q :: chainN rest (q + 1 + kids.size)).getLastD 0) (by
          rw [chainP_at hgat, ← hgl, List.getD_eq_getElem?_getD, List.getElem?_eq_getElem (by simp)]
          exact List.getElem_mem _)
        have hwl : IntKind.i64.wrap (((chainN rest (q + 1 + kids.size)).length + 1 : Nat) - 1) = ((chainN rest (q + 1 + kids.size)).length : Int) := by
          have := chain_len rest (q + 1 + kids.size)
          rw [w64 (by omega) (by omega)]; omega
        have hlt1 : ((chainN rest (q + 1 + kids.size)).length : Int) < (((chainN rest (q + 1 + kids.size)).length + 1 : Nat) : Int) := by omega
        have hlt2 : (chainN rest (q + 1 + kids.size)).length < (chainN rest (q + 1 + kids.size)).length + 1 := by omega
        simp +contextual -dsimp -implicitDefEqProofs (maxSteps := 5000000) only [go_sem, reduceIte, reduceCtorEq, Nat.reduceEqDiff, Nat.reduceBEq, Nat.reduceAdd, Nat.reduceLeDiff, Nat.reduceMul, Nat.reduceLT, Int.reduceEq, Int.reduceLT, Int.reduceLE, t0, t2, t3, t8, t9, z, m1, m2, hq.1, hq.2, d1, d2, d3, d4, toI_len, toI_at, List.length_cons, hwl, hgl, hlt1, hlt2]
        refine (c_endOf P clp _ _ hmem).det ?_
        rw [hce]
        simp +contextual -dsimp -implicitDefEqProofs (maxSteps := 5000000) only [go_sem, reduceIte, reduceCtorEq, Nat.reduceEqDiff, Nat.reduceBEq, Nat.reduceAdd, Nat.reduceLeDiff, Nat.reduceMul, Nat.reduceLT, Int.reduceEq, Int.reduceLT, Int.reduceLE, t0, t2, t3, t8, t9, z, m1, m2, hq.1, hq.2, d1, d2, d3, d4]
        have hgo0 := goes_run ht kids (q + 1) none (d + 1) h s' n4 hs' (by omega) trivial
        have hgl0 := hgo0.len
        have hss := skipN_add rest (q + 1 + kids.size)
        have hsf := skipF_size rest
        refine (c_try ht ih cl2 (by omega) hgat n4 n5 hs' (by omega) (by omega) (by omega) hMin hp).mono ?_
        rintro _ H3 ⟨rfl, hM3⟩
        have hrun := runF_try (t := t) (a := a) (b := b) (kids := kids) (rest := rest) (i := q) (h := h) (s := s')
        simp only [runF_some] at hrun
        generalize runF t kids (q + 1) none h s' = r0 at hM3 hgo0 hgl0 hrun ⊢
        obtain ⟨c, hc1, hgo⟩ := goes_chain ht rest (q + 1 + kids.size) r0.1 r0.1 d h r0.2 n5 hgo0.ok (by omega) ⟨hgo0.val, hgo0.val⟩
        have hgl := hgo.len
        generalize chainR t rest (q + 1 + kids.size) r0.1 r0.1 h r0.2 = r at hM3 hgo hgl hrun ⊢
        obtain ⟨H4, rfl, hM4, w1, w2⟩ := mout _ _ hM3
        by_cases c0 : r.1.ed = 0
        · simp only [c0, if_true] at hrun
          simp +contextual -dsimp -implicitDefEqProofs (maxSteps := 5000000) only [go_sem, reduceIte, reduceCtorEq, Nat.reduceEqDiff, Nat.reduceBEq, Nat.reduceAdd, Nat.reduceLeDiff, Nat.reduceMul, Nat.reduceLT, Int.reduceEq, Int.reduceLT, Int.reduceLE, rEn, t0, t2, t3, t8, t9, z, m1, m2, hq.1, hq.2, d1, d2, d3, d4, c0, w2]
          exact adv _ (skipF rest) (skipN rest (q + 1 + kids.size)) r.2 H4 (by simp only [Fo.size]; omega) hsf hgat.rest.skip (numsF_skip rest n5) (by omega) hrun hgo.ok (by omega) (by omega) (by omega) w1 hM4
        · simp only [c0, if_false] at hrun
          simp +contextual -dsimp -implicitDefEqProofs (maxSteps := 5000000) only [go_sem, reduceIte, reduceCtorEq, Nat.reduceEqDiff, Nat.reduceBEq, Nat.reduceAdd, Nat.reduceLeDiff, Nat.reduceMul, Nat.reduceLT, Int.reduceEq, Int.reduceLT, Int.reduceLE, rEn, t0, t2, t3, t8, t9, z, m1, m2, hq.1, hq.2, d1, d2, d3, d4, c0]
          rw [he, hrun]
          refine retR_less (l := [.agg (rEn r.1)]) (H' := H4) ?_ (le_s1 (le_s1 (AHeap.le_refl _) w1) w2) ⟨rfl, hM4⟩
          simp only [resA, go_sem, reduceIte, reduceCtorEq, Nat.reduceEqDiff, Nat.reduceBEq, Nat.reduceAdd, Nat.reduceLeDiff, Nat.reduceMul, Nat.reduceLT, Int.reduceEq, Int.reduceLT, Int.reduceLE, rEn, d1, d2, t8]
      · have hgo := goes_lineR (h := h) (i := q) (body := fun s => runF t kids (q + 1) none h s) (n := cost kids) ht hs' n1 (by omega) (fun s2 hs2 hl2 => goes_run ht kids (q + 1) none (d + 1) h s2 n4 hs2 (by omega) trivial)
        have hgl := hgo.len
        have hrun := runF_line (t := t) (a := a) (b := b) (kids := kids) (rest := rest) (i := q) (h := h) (s := s') k7
        have hcn : cost (.node k a b kids rest) = 2 + (if k = 12 then a.toNat * cost kids else cost kids) + cost rest := rfl
        simp +contextual -dsimp -implicitDefEqProofs (maxSteps := 5000000) only [go_sem, reduceIte, reduceCtorEq, Nat.reduceEqDiff, Nat.reduceBEq, Nat.reduceAdd, Nat.reduceLeDiff, Nat.reduceMul, Nat.reduceLT, Int.reduceEq, Int.reduceLT, Int.reduceLE, t0, t2, t3, t8, t9, z, m1, m2, hq.1, hq.2, d1, d2, d3, d4, k7]
        refine (c_line ht ih (by omega) hgat n1 n4 hs' (by omega) (by omega) (by omega) hMin hp).mono ?_
        rintro _ H3 ⟨rfl, hM3⟩
        generalize lineR k a b q h (fun s => runF t kids (q + 1) none h s) s' = r at hM3 hgo hgl hrun ⊢
        obtain ⟨H4, rfl, hM4, w1, w2⟩ := mout _ _ hM3
        by_cases c0 : r.1.ed = 0
        · simp only [c0, if_true] at hrun
          simp +contextual -dsimp -implicitDefEqProofs (maxSteps := 5000000) only [go_sem, reduceIte, reduceCtorEq, Nat.reduceEqDiff, Nat.reduceBEq, Nat.reduceAdd, Nat.reduceLeDiff, Nat.reduceMul, Nat.reduceLT, Int.reduceEq, Int.reduceLT, Int.reduceLE, rEn, t0, t2, t3, t8, t9, z, m1, m2, hq.1, hq.2, d1, d2, d3, d4, c0, w2]
          exact adv _ rest (q + 1 + kids.size) r.2 H4 (by simp only [Fo.size]; omega) (Nat.le_refl _) hgat.rest n5 (by omega) hrun hgo.ok (by omega) (by omega) (by omega) w1 hM4
        · simp only [c0, if_false] at hrun
          simp +contextual -dsimp -implicitDefEqProofs (maxSteps := 5000000) only [go_sem, reduceIte, reduceCtorEq, Nat.reduceEqDiff, Nat.reduceBEq, Nat.reduceAdd, Nat.reduceLeDiff, Nat.reduceMul, Nat.reduceLT, Int.reduceEq, Int.reduceLT, Int.reduceLE, rEn, t0, t2, t3, t8, t9, z, m1, m2, hq.1, hq.2, d1, d2, d3, d4, c0]
          rw [he, hrun]
          refine retR_less (l := [.agg (rEn r.1)]) (H' := H4) ?_ (le_s1 (le_s1 (AHeap.le_refl _) w1) w2) ⟨rfl, hM4⟩
          simp only [resA, go_sem, reduceIte, reduceCtorEq, Nat.reduceEqDiff, Nat.reduceBEq, Nat.reduceAdd, Nat.reduceLeDiff, Nat.reduceMul, Nat.reduceLT, Int.reduceEq, Int.reduceLT, Int.reduceLE, rEn, d1, d2, t8]
theorem c_linesAll {t : List Class} {cl : Bool} {P : List Line} {clp : Bool} (ht : validT t = true) (hp : P.length ≤ 4398046511104) : ∀ n, LinesOk t cl P clp n
  | 0 => fun f i d h s F H bm hn => by omega
  | n + 1 => c_linesStep ht hp (c_linesAll ht hp n)
end Go.Proofs.Ytbjgilehnlpmaaa
end
section
set_option linter.unusedVariables false
set_option linter.unusedSimpArgs false
namespace Go.Proofs.Ytbjgilehnlpmaaa
open Go Go.Sim
set_option maxRecDepth 100000
attribute [local go_sem ↓] aw_skip aw_ret aw_exit aw_region aw_draw aw_seq aw_block aw_loop aw_cond frz_nil frz_cons sq_normal sq_ret sq_exit exB_normal exB_ret exB_same exB_other retQ_ret retQ_normal ret0_ret ret0_normal ao_nil go1 g_move g_assign g_pick g_build g_load g_binOp g_unOp g_convert g_fieldAddr g_field g_indexAddr g_index g_extract g_slice g_nilCheck g_len g_makeFunc h_call h_append h_alloc h_box h_buildSlice h_makeSlice h_store gV i_box i_buildSlice i_move i_assign i_build i_load i_binOp i_unOp i_convert i_fieldAddr i_field i_indexAddr i_index i_extract i_slice i_nilCheck i_makeFunc i_len i_max i_min i_alloc i_makeSlice i_store i_append i_call i_pick boxI boxA buildSliceI buildSliceA makeSliceA allocA storeA p_move p_assign p_pick p_build p_load p_binOp p_unOp p_convert p_fieldAddr p_field p_indexAddr p_index p_extract p_slice p_nilCheck p_makeFunc p_len p_max p_min p_alloc p_box p_buildSlice p_makeSlice p_store p_append p_call x_nil x_go1 x_g0 x_g1 x_g2 x_g3 x_s0 x_s1 x_s2 x_s3 u_move u_assign u_pick u_build u_load u_binOp u_unOp u_convert u_fieldAddr u_field u_indexAddr u_index u_extract u_slice u_nilCheck u_makeFunc u_len u_buildSlice x_s4 x_g4 rq_normal rq_ret rq_exit aw_range
attribute [local go_sem] frzV_sl frzK_some set_none set_other AHeap.set_self set_del set_set cnd_t cnd_f cnd_b retA_one retA_two retA_three retA_four retA_nil gIf_b mrgV_b mrgV_wh mrgV_U gIf_U gIf_wh mrgB_f mrgB_some mrgB_if wh_true wh_false keepA_some keepA_if gD_zero gD_succ gT_some bxA_t bxA_f callA_fn ev_tmp ev_const ev_global ev_func oc_bool oc_int oc_string oc_nil oc_nilptr oc_nilfunc cl_bool cl_int cl_string cl_nil updO_some updO_none upd_same upd_other init_at pickA_b pickA_wh selA_t selA_f selA_and selA_or selA_orn selA_orm selA_bb selA_ii beqt b_add b_sub b_mul b_and b_or b_xor b_eql b_neq b_lss b_leq b_gtr b_geq b_quo b_rem b_shr b_seql b_sneq b_sadd b_beql b_bneq b_aeql b_aneq u_not u_neg isConstOp eqA eqCellV List.getD_cons_zero List.getD_cons_succ List.map_cons List.map_nil List.nil_append List.cons_append List.append_nil if_true if_false Option.map_some Option.map_none ne_eq not_false_eq_true oneA ldv ld1v ld1s wr1s ldRow stRow row_lit row_agg row_vsl row_sl row_ptr row_fn one_I one_B one_S one_vsl one_sl one_ptr one_fn extractA okA rI rS rU rClass rFault rExit rStart rLine Int.toNat_natCast List.length_cons List.length_nil List.length_map List.all_cons List.all_nil Bool.and_true Nat.zero_add List.getElem?_cons_zero List.getElem?_cons_succ List.take_succ_cons List.take_zero List.drop_succ_cons List.drop_zero and_self true_and and_true implies_true decide_eq_true_eq decide_eq_false_iff_not Bool.or_eq_true Bool.or_eq_false_iff Bool.and_eq_true Bool.not_eq_true' Bool.not_eq_false' beq_false decide_true decide_false Int.ofNat_lt Int.ofNat_le Int.natCast_nonneg Bool.or_true Bool.or_false Bool.true_or Bool.false_or beq_self_eq_true List.drop_one Bool.not_true Bool.not_false Bool.not_not Bool.false_eq_true Bool.true_eq_false false_implies true_implies Bool.true_and Bool.false_and Bool.and_false not_true_eq_false Int.natCast_eq_zero Int.natCast_pos Int.natCast_zero false_and and_false or_false false_or or_true true_or Bool.or_self none_le_iff List.replicate_zero Int.toNat_zero List.replicate_succ buildRows List.set_cons_zero List.set_cons_succ List.set_nil List.mapM_nil maxLen_eq Nat.zero_le Nat.mul_one Nat.one_mul bldA fillA spliceA List.take_nil List.drop_nil List.getElem?_nil ld1o wr1o bldSliceA le_same cv_i cvI_t quietT_fn qvd_some ld_o ldO_1 ldO_l wr_o wrO_1 set_2 set_3 set_4 putL_nil putL_cons List.zip_cons_cons List.zip_nil_left List.zip_nil_right List.toList_toArray frzV_set ti1 ti2 tk2 ti3 te3 ts3 tk3 tz3 ti4 tb4 ti5 tk5 tz5 ti9 te9 ts9 tk9 tz9 ti12 tk12 ti13 tp13 tf13_0 tf13_1 ti20 ti21 tk21 tz21 ti22 te22 ti23 tp23 tf23_0 ti24 tp24 tf24_0 ti25 te25 ti27 ti28 ti29 te29 ti30 te30 ti31 tp31 tf31_0 ti32 tp32 tf32_0 ti33 tp33 tf33_0 tf33_1 tf33_2 tf33_3 ti34 tp34 tf34_0 tf34_1 tf34_2 tf34_3 ti35 ti36 tq36 tp36 tf36_0 tf36_1 tf36_2 tf36_3 ti37 tq37 tp37 tf37_0 tf37_1 tf37_2 tf37_3 ti38 ti39 ti40 ti41 ti42 ti43 ti44 te44 tz44 ti46 ti47 ti48 ti49 ti50 ti51 ti52 tq52 tp52 tf52_0 tf52_1 ti53 tq53 tp53 tf53_0 tf53_1 ti54 ti55 tq55 tp55 tf55_0 tf55_1 tf55_2 tf55_3 tf55_4 ti56 tq56 tp56 tf56_0 tf56_1 tf56_2 tf56_3 tf56_4 ti57 ti58 ti59 ti60 ti61 ti62 ti63 ti64 ti65 ti66 ti67 ti68 ti69 ti70 tp70 tf70_0 tf70_1 tf70_2 tf70_3 tf70_4 ti71 tp71 tf71_0 tf71_1 tf71_2 tf71_3 tf71_4 ti73 ti74 ti75 ti76 ti77 ti78 ti79 ti80 tq80 tp80 tf80_0 tf80_1 ti81 tq81 tp81 tf81_0 tf81_1 ti82 ti83 ti84 ti85 ti86 ti87 ti88 ti89 ti90 tp90 tf90_0 tf90_1 ti91 tp91 tf91_0 tf91_1 ti92 ti93 ti94 ti95 ti96 ti97 ti98 ti99 ti100 ti101 ti102 ti103 te103 ti104 ti105 ti106 ti107 ti108 ti109 ti110 ti111 ti112 tk112 tz112 ti113 ti114 ti115 tk115 ti117 ti118 ti119 ti121 ti122 ti123 tk123 tz123 ti124 ti125 tk125 tz125 ti126 ti127 tk127 ti128 ti129 ti130 ti131 ti132 ti133 ti135 ti136 ti142 ti146 fp13_0 fv13_0 fp13_1 fv13_1 fp23_0 fv23_0 fp24_0 fv24_0 fp31_0 fv31_0 fp32_0 fv32_0 fp33_0 fv33_0 fp33_1 fv33_1 fp33_2 fv33_2 fp33_3 fv33_3 fp34_0 fv34_0 fp34_1 fv34_1 fp34_2 fv34_2 fp34_3 fv34_3 fp36_0 fv36_0 fp36_1 fv36_1 fp36_2 fv36_2 fp36_3 fv36_3 fp37_0 fv37_0 fp37_1 fv37_1 fp37_2 fv37_2 fp37_3 fv37_3 fp52_0 fv52_0 fp52_1 fv52_1 fp53_0 fv53_0 fp53_1 fv53_1 fp55_0 fv55_0 fp55_1 fv55_1 fp55_2 fv55_2 fp55_3 fv55_3 fp55_4 fv55_4 fp56_0 fv56_0 fp56_1 fv56_1 fp56_2 fv56_2 fp56_3 fv56_3 fp56_4 fv56_4 fp70_0 fv70_0 fp70_1 fv70_1 fp70_2 fv70_2 fp70_3 fv70_3 fp70_4 fv70_4 fp71_0 fv71_0 fp71_1 fv71_1 fp71_2 fv71_2 fp71_3 fv71_3 fp71_4 fv71_4 fp80_0 fv80_0 fp80_1 fv80_1 fp81_0 fv81_0 fp81_1 fv81_1 fp90_0 fv90_0 fp90_1 fv90_1 fp91_0 fv91_0 fp91_1 fv91_1 lv22 ll22 is22 ix22 sh22 so22 sb22 sm22 sp22 lv25 ll25 is25 ix25 sh25 so25 sb25 sm25 sp25 lv29 ll29 is29 ix29 sh29 so29 sb29 sm29 sp29 lv30 ll30 is30 ix30 sh30 so30 sb30 sm30 sp30 lv44 ll44 is44 ix44 sh44 so44 sb44 sm44 sp44 lv103 ll103 is103 ix103 sh103 so103 sb103 sm103 sp103 xs9 ls9 sx9 sy9 sz9
set_option maxHeartbeats 4000000

/-- The lines of a program, with their blocks. -/
noncomputable def forestP (p : List Line) : Fo := @dite _ (∃ f : Fo, p = f.flat 0) (Classical.propDecidable _) (fun h => h.choose) (fun _ => .nil)
theorem forestP_flat (f : Fo) : forestP (f.flat 0) = f := by
  have h : ∃ g : Fo, f.flat 0 = g.flat 0 := ⟨f, rfl⟩
  unfold forestP
  rw [dif_pos h]
  exact (flat_one h.choose_spec).symm
def rs0 : RS := ⟨[], [], -1⟩
noncomputable def runP (t : List Class) (p : List Line) : En × RS := runF t (forestP p) 0 none (-1) rs0
/-- The result of a run, as the program tells it. -/
def resOf (r : En × RS) : Res :=
  if r.1.ed = 2 then ⟨r.2.log, 2, idxF (fun x => decide (r.1.val = x)) (sortI (bfsF r.2.fs r.1.val)), isoL r.2.fs (sortI (bfsF r.2.fs r.1.val))⟩ else ⟨r.2.log, r.1.ed, r.1.val, []⟩
theorem validP_forest {t : List Class} {p : List Line} (h : ValidP t p) : validT t = true ∧ p = (forestP p).flat 0 ∧ numsF t (forestP p) 0 = true ∧ okF (forestP p) false false = true ∧ (forestP p).size = p.length ∧ (forestP p).size ≤ 24 := by
  obtain ⟨h1, h2, f, rfl, h3, h4⟩ := h
  rw [forestP_flat]
  rw [flat_len] at h2
  exact ⟨h1, rfl, h3, h4, (flat_len f 0).symm, h2⟩
theorem runP_goes {t : List Class} {p : List Line} (h : ValidP t p) : Goes t 34992 rs0 (runP t p).1 (runP t p).2 := by
  obtain ⟨h1, h2, h3, h4, h5, h6⟩ := validP_forest h
  exact (goes_run h1 (forestP p) 0 none 0 (-1) rs0 h3 (fsOk_nil t) (by show (-1 : Int) < 0; omega) trivial).le (cost_small h3 h6)
theorem c_mRunProgram (t : List Class) (cl : Bool) (p : List Line) (cl' : Bool) (H : AHeap) (hn : namesOk t) (hp : p.length ≤ 4398046511104) :
    ACalls Try.prog 9 [aTree t cl, aProg p cl'] H fun r H' => OwnRes H H' r (if validB t p = true then resOf (runP t p) else res0) := by
  refine acalls_of1 Try.func9 rfl (by kernel_rfl) rfl rfl (awp_sound (fz := fun _ => []) (im := fun s => s == 2) mixed _ _ _ _ (by kernel_rfl) ?_)
  simp +contextual -dsimp -implicitDefEqProofs (maxSteps := 5000000) only [go_sem, reduceIte, reduceCtorEq, Nat.reduceEqDiff, Nat.reduceBEq, Nat.reduceAdd, Nat.reduceLeDiff, Nat.reduceMul, Nat.reduceLT, Int.reduceEq, Int.reduceLT, Int.reduceLE]
  intro b4 hb4
  refine (c_ValidProgram t cl p cl' _ hn hp).det ?_
  cases hv : validB t p
  · simp +contextual -dsimp -implicitDefEqProofs (maxSteps := 5000000) only [go_sem, reduceIte, reduceCtorEq, Nat.reduceEqDiff, Nat.reduceBEq, Nat.reduceAdd, Nat.reduceLeDiff, Nat.reduceMul, Nat.reduceLT, Int.reduceEq, Int.reduceLT, Int.reduceLE]
    refine retR_less (l := [.agg [.vsl [] true, I 0, I 0, .vsl [] true]]) (H' := H) ?_ (le_set hb4) (own0 H)
    simp only [resA, go_sem, reduceIte, reduceCtorEq, Nat.reduceEqDiff, Nat.reduceBEq, Nat.reduceAdd, Nat.reduceLeDiff, Nat.reduceMul, Nat.reduceLT, Int.reduceEq, Int.reduceLT, Int.reduceLE]
  · have hval := validB_true.1 hv
    obtain ⟨h1, h2, h3, h4, h5, h6⟩ := validP_forest hval
    have hgo := runP_goes hval
    have hgl := hgo.len
    have hat := at_top h2
    have hcs := cost_small h3 h6
    have hlen : ((0 + (forestP p).size : Nat) : Int) = (p.length : Int) := by omega
    simp +contextual -dsimp -implicitDefEqProofs (maxSteps := 5000000) only [go_sem, reduceIte, reduceCtorEq, Nat.reduceEqDiff, Nat.reduceBEq, Nat.reduceAdd, Nat.reduceLeDiff, Nat.reduceMul, Nat.reduceLT, Int.reduceEq, Int.reduceLT, Int.reduceLE]
    refine (c_machineOf t cl _ (p.map rLine) cl').mono ?_
    rintro _ H1 ⟨bm, rfl, hM⟩
    simp +contextual -dsimp -implicitDefEqProofs (maxSteps := 5000000) only [go_sem, reduceIte, reduceCtorEq, Nat.reduceEqDiff, Nat.reduceBEq, Nat.reduceAdd, Nat.reduceLeDiff, Nat.reduceMul, Nat.reduceLT, Int.reduceEq, Int.reduceLT, Int.reduceLE]
    have key := c_linesAll (cl := cl) (P := p) (clp := cl') h1 hp ((forestP p).size + 1) (forestP p) 0 0 (-1) rs0 (H.set b4 ⟨4, 34, [[.vsl [] true, I 0, I 0, .vsl [] true]]⟩) H1 bm (by omega) hat h3 (fsOk_nil t) (by show (-1 : Int) < 0; omega) (by show 0 + _ ≤ _; omega) (by show 0 + _ ≤ _; omega) hM
    rw [hlen, show ((0 : Nat) : Int) = 0 from rfl] at key
    refine key.mono ?_
    rintro _ H2 ⟨rfl, hM2⟩
    have er : runF t (forestP p) 0 none (-1) rs0 = runP t p := rfl
    rw [er] at hM2 ⊢
    generalize runP t p = r at hM2 hgo hgl ⊢
    simp +contextual -dsimp -implicitDefEqProofs (maxSteps := 5000000) only [go_sem, reduceIte, reduceCtorEq, Nat.reduceEqDiff, Nat.reduceBEq, Nat.reduceAdd, Nat.reduceLeDiff, Nat.reduceMul, Nat.reduceLT, Int.reduceEq, Int.reduceLT, Int.reduceLE, rEn]
    refine (c_mresult _ H2 bm _ _ r.2.log r.2.fs r.2.first r.1.ed r.1.val hM2 hgo.ok.ho (by have : (rs0 : RS).fs.length = 0 := rfl; omega) hgo.val).mono ?_
    rintro x H3 hr
    have hr' : OwnRes (H.set b4 ⟨4, 34, [[.vsl [] true, I 0, I 0, .vsl [] true]]⟩) H3 x (resOf r) := by
      obtain ⟨xl, xh, G1, e1, e2, e3⟩ := hr
      refine ⟨xl, xh, G1, ?_, ?_, ?_⟩
      · rw [e1]; unfold resOf; split
        · rename_i q; rw [q]
        · rfl
      · unfold resOf; split <;> exact e2
      · unfold resOf; split
        · rename_i q; rw [if_pos q] at e3; exact e3
        · rename_i q; rw [if_neg q] at e3; exact e3
    obtain ⟨H4, rfl, hown, hn4⟩ := own_out hr' hb4
    obtain ⟨xl, xh, rfl, o1, o2⟩ := own_row hown
    simp +contextual -dsimp -implicitDefEqProofs (maxSteps := 5000000) only [go_sem, reduceIte, reduceCtorEq, Nat.reduceEqDiff, Nat.reduceBEq, Nat.reduceAdd, Nat.reduceLeDiff, Nat.reduceMul, Nat.reduceLT, Int.reduceEq, Int.reduceLT, Int.reduceLE, o1, o2]
    refine retR_less (l := [.agg [xl, I (resOf r).ed, I (resOf r).val, xh]]) (H' := H4) ?_ (le_set hn4) hown
    simp only [resA, go_sem, reduceIte, reduceCtorEq, Nat.reduceEqDiff, Nat.reduceBEq, Nat.reduceAdd, Nat.reduceLeDiff, Nat.reduceMul, Nat.reduceLT, Int.reduceEq, Int.reduceLT, Int.reduceLE]
end Go.Proofs.Ytbjgilehnlpmaaa
end
section
set_option linter.unusedVariables false
set_option linter.unusedSimpArgs false
namespace Go.Proofs.Ytbjgilehnlpmaaa
open Go Go.Sim
set_option maxRecDepth 100000
attribute [local go_sem ↓] aw_skip aw_ret aw_exit aw_region aw_draw aw_seq aw_block aw_loop aw_cond frz_nil frz_cons sq_normal sq_ret sq_exit exB_normal exB_ret exB_same exB_other retQ_ret retQ_normal ret0_ret ret0_normal ao_nil go1 g_move g_assign g_pick g_build g_load g_binOp g_unOp g_convert g_fieldAddr g_field g_indexAddr g_index g_extract g_slice g_nilCheck g_len g_makeFunc h_call h_append h_alloc h_box h_buildSlice h_makeSlice h_store gV i_box i_buildSlice i_move i_assign i_build i_load i_binOp i_unOp i_convert i_fieldAddr i_field i_indexAddr i_index i_extract i_slice i_nilCheck i_makeFunc i_len i_max i_min i_alloc i_makeSlice i_store i_append i_call i_pick boxI boxA buildSliceI buildSliceA makeSliceA allocA storeA p_move p_assign p_pick p_build p_load p_binOp p_unOp p_convert p_fieldAddr p_field p_indexAddr p_index p_extract p_slice p_nilCheck p_makeFunc p_len p_max p_min p_alloc p_box p_buildSlice p_makeSlice p_store p_append p_call x_nil x_go1 x_g0 x_g1 x_g2 x_g3 x_s0 x_s1 x_s2 x_s3 u_move u_assign u_pick u_build u_load u_binOp u_unOp u_convert u_fieldAddr u_field u_indexAddr u_index u_extract u_slice u_nilCheck u_makeFunc u_len u_buildSlice x_s4 x_g4 rq_normal rq_ret rq_exit aw_range
attribute [local go_sem] frzV_sl frzK_some set_none set_other AHeap.set_self set_del set_set cnd_t cnd_f cnd_b retA_one retA_two retA_three retA_four retA_nil gIf_b mrgV_b mrgV_wh mrgV_U gIf_U gIf_wh mrgB_f mrgB_some mrgB_if wh_true wh_false keepA_some keepA_if gD_zero gD_succ gT_some bxA_t bxA_f callA_fn ev_tmp ev_const ev_global ev_func oc_bool oc_int oc_string oc_nil oc_nilptr oc_nilfunc cl_bool cl_int cl_string cl_nil updO_some updO_none upd_same upd_other init_at pickA_b pickA_wh selA_t selA_f selA_and selA_or selA_orn selA_orm selA_bb selA_ii beqt b_add b_sub b_mul b_and b_or b_xor b_eql b_neq b_lss b_leq b_gtr b_geq b_quo b_rem b_shr b_seql b_sneq b_sadd b_beql b_bneq b_aeql b_aneq u_not u_neg isConstOp eqA eqCellV List.getD_cons_zero List.getD_cons_succ List.map_cons List.map_nil List.nil_append List.cons_append List.append_nil if_true if_false Option.map_some Option.map_none ne_eq not_false_eq_true oneA ldv ld1v ld1s wr1s ldRow stRow row_lit row_agg row_vsl row_sl row_ptr row_fn one_I one_B one_S one_vsl one_sl one_ptr one_fn extractA okA rI rS rU rClass rFault rExit rStart rLine Int.toNat_natCast List.length_cons List.length_nil List.length_map List.all_cons List.all_nil Bool.and_true Nat.zero_add List.getElem?_cons_zero List.getElem?_cons_succ List.take_succ_cons List.take_zero List.drop_succ_cons List.drop_zero and_self true_and and_true implies_true decide_eq_true_eq decide_eq_false_iff_not Bool.or_eq_true Bool.or_eq_false_iff Bool.and_eq_true Bool.not_eq_true' Bool.not_eq_false' beq_false decide_true decide_false Int.ofNat_lt Int.ofNat_le Int.natCast_nonneg Bool.or_true Bool.or_false Bool.true_or Bool.false_or beq_self_eq_true List.drop_one Bool.not_true Bool.not_false Bool.not_not Bool.false_eq_true Bool.true_eq_false false_implies true_implies Bool.true_and Bool.false_and Bool.and_false not_true_eq_false Int.natCast_eq_zero Int.natCast_pos Int.natCast_zero false_and and_false or_false false_or or_true true_or Bool.or_self none_le_iff List.replicate_zero Int.toNat_zero List.replicate_succ buildRows List.set_cons_zero List.set_cons_succ List.set_nil List.mapM_nil maxLen_eq Nat.zero_le Nat.mul_one Nat.one_mul bldA fillA spliceA List.take_nil List.drop_nil List.getElem?_nil ld1o wr1o bldSliceA le_same cv_i cvI_t quietT_fn qvd_some ld_o ldO_1 ldO_l wr_o wrO_1 set_2 set_3 set_4 putL_nil putL_cons List.zip_cons_cons List.zip_nil_left List.zip_nil_right List.toList_toArray frzV_set ti1 ti2 tk2 ti3 te3 ts3 tk3 tz3 ti4 tb4 ti5 tk5 tz5 ti9 te9 ts9 tk9 tz9 ti12 tk12 ti13 tp13 tf13_0 tf13_1 ti20 ti21 tk21 tz21 ti22 te22 ti23 tp23 tf23_0 ti24 tp24 tf24_0 ti25 te25 ti27 ti28 ti29 te29 ti30 te30 ti31 tp31 tf31_0 ti32 tp32 tf32_0 ti33 tp33 tf33_0 tf33_1 tf33_2 tf33_3 ti34 tp34 tf34_0 tf34_1 tf34_2 tf34_3 ti35 ti36 tq36 tp36 tf36_0 tf36_1 tf36_2 tf36_3 ti37 tq37 tp37 tf37_0 tf37_1 tf37_2 tf37_3 ti38 ti39 ti40 ti41 ti42 ti43 ti44 te44 tz44 ti46 ti47 ti48 ti49 ti50 ti51 ti52 tq52 tp52 tf52_0 tf52_1 ti53 tq53 tp53 tf53_0 tf53_1 ti54 ti55 tq55 tp55 tf55_0 tf55_1 tf55_2 tf55_3 tf55_4 ti56 tq56 tp56 tf56_0 tf56_1 tf56_2 tf56_3 tf56_4 ti57 ti58 ti59 ti60 ti61 ti62 ti63 ti64 ti65 ti66 ti67 ti68 ti69 ti70 tp70 tf70_0 tf70_1 tf70_2 tf70_3 tf70_4 ti71 tp71 tf71_0 tf71_1 tf71_2 tf71_3 tf71_4 ti73 ti74 ti75 ti76 ti77 ti78 ti79 ti80 tq80 tp80 tf80_0 tf80_1 ti81 tq81 tp81 tf81_0 tf81_1 ti82 ti83 ti84 ti85 ti86 ti87 ti88 ti89 ti90 tp90 tf90_0 tf90_1 ti91 tp91 tf91_0 tf91_1 ti92 ti93 ti94 ti95 ti96 ti97 ti98 ti99 ti100 ti101 ti102 ti103 te103 ti104 ti105 ti106 ti107 ti108 ti109 ti110 ti111 ti112 tk112 tz112 ti113 ti114 ti115 tk115 ti117 ti118 ti119 ti121 ti122 ti123 tk123 tz123 ti124 ti125 tk125 tz125 ti126 ti127 tk127 ti128 ti129 ti130 ti131 ti132 ti133 ti135 ti136 ti142 ti146 fp13_0 fv13_0 fp13_1 fv13_1 fp23_0 fv23_0 fp24_0 fv24_0 fp31_0 fv31_0 fp32_0 fv32_0 fp33_0 fv33_0 fp33_1 fv33_1 fp33_2 fv33_2 fp33_3 fv33_3 fp34_0 fv34_0 fp34_1 fv34_1 fp34_2 fv34_2 fp34_3 fv34_3 fp36_0 fv36_0 fp36_1 fv36_1 fp36_2 fv36_2 fp36_3 fv36_3 fp37_0 fv37_0 fp37_1 fv37_1 fp37_2 fv37_2 fp37_3 fv37_3 fp52_0 fv52_0 fp52_1 fv52_1 fp53_0 fv53_0 fp53_1 fv53_1 fp55_0 fv55_0 fp55_1 fv55_1 fp55_2 fv55_2 fp55_3 fv55_3 fp55_4 fv55_4 fp56_0 fv56_0 fp56_1 fv56_1 fp56_2 fv56_2 fp56_3 fv56_3 fp56_4 fv56_4 fp70_0 fv70_0 fp70_1 fv70_1 fp70_2 fv70_2 fp70_3 fv70_3 fp70_4 fv70_4 fp71_0 fv71_0 fp71_1 fv71_1 fp71_2 fv71_2 fp71_3 fv71_3 fp71_4 fv71_4 fp80_0 fv80_0 fp80_1 fv80_1 fp81_0 fv81_0 fp81_1 fv81_1 fp90_0 fv90_0 fp90_1 fv90_1 fp91_0 fv91_0 fp91_1 fv91_1 lv22 ll22 is22 ix22 sh22 so22 sb22 sm22 sp22 lv25 ll25 is25 ix25 sh25 so25 sb25 sm25 sp25 lv29 ll29 is29 ix29 sh29 so29 sb29 sm29 sp29 lv30 ll30 is30 ix30 sh30 so30 sb30 sm30 sp30 lv44 ll44 is44 ix44 sh44 so44 sb44 sm44 sp44 lv103 ll103 is103 ix103 sh103 so103 sb103 sm103 sp103 xs9 ls9 sx9 sy9 sz9
set_option maxHeartbeats 4000000

theorem At.sub {p : List Line} {i : Nat} {d : Int} {f : Fo} (h : At p i d f) : (p.take (i + f.size)).drop i = f.flat d := by
  obtain ⟨pre, post, rfl, rfl, _⟩ := h
  have e1 : (pre ++ (f.flat d ++ post)).take (pre.length + f.size) = pre ++ f.flat d := by
    rw [← List.append_assoc, ← flat_len f d, ← List.length_append, List.take_left]
  rw [e1, List.drop_left]
theorem at_top' (f : Fo) (d : Int) : At (f.flat d) 0 d f := ⟨[], [], by simp, rfl, low_nil _⟩
theorem line_eq (x y : Line) : (decide (x.depth = y.depth) && (decide (x.kind = y.kind) && (decide (x.a = y.a) && decide (x.b = y.b)))) = decide (x = y) := by
  rw [Bool.eq_iff_iff]
  simp only [Bool.and_eq_true, decide_eq_true_eq]
  constructor
  · rintro ⟨h1, h2, h3, h4⟩
    cases x; cases y; simp_all
  · rintro rfl; simp
theorem c_equalLines (a b : List Line) (ca cb : Bool) (H : AHeap) : ACalls Try.prog 8 [aProg a ca, aProg b cb] H fun r H' => r = B (decide (a = b)) ∧ H' = H := by
  refine acalls_len (by kernel_rfl) (List.mem_cons_self ..) fun hl => ?_
  rw [List.length_map] at hl
  refine acalls_of0 Try.func8 rfl (by kernel_rfl) rfl rfl (awp_sound (fz := fun _ => []) (im := fun _ => false) mixed _ _ _ _ (by kernel_rfl) ?_)
  by_cases hab : a.length = b.length
  · simp +contextual -dsimp -implicitDefEqProofs (maxSteps := 5000000) only [go_sem, reduceIte, reduceCtorEq, Nat.reduceEqDiff, Nat.reduceBEq, Nat.reduceAdd, Nat.reduceLeDiff, Nat.reduceMul, Nat.reduceLT, Int.reduceEq, Int.reduceLT, Int.reduceLE, hab]
    refine aloop mixed (fz := fun _ => []) (im := fun _ => false) (by kernel_rfl) (fun m tm H' => ∃ k : Nat, m = a.length - k ∧ k ≤ a.length ∧ H' = H ∧ tm 0 = aProg a ca ∧ tm 1 = aProg b cb ∧ tm 5 = I k ∧ ∀ i, i < k → i < a.length → a.getD i default = b.getD i default) a.length ⟨0, by omega, by omega, rfl, ?_⟩ ?_
    · simp +contextual -dsimp -implicitDefEqProofs (maxSteps := 5000000) only [go_sem, reduceIte, reduceCtorEq, Nat.reduceEqDiff, Nat.reduceBEq, Nat.reduceAdd, Nat.reduceLeDiff, Nat.reduceMul, Nat.reduceLT, Int.reduceEq, Int.reduceLT, Int.reduceLE]
      exact fun i hi => by omega
    · rintro m tm H ⟨k, rfl, hk, rfl, h0, h1, h5, he⟩
      by_cases h : k < a.length
      · have h' : k < b.length := by omega
        simp +contextual -dsimp -implicitDefEqProofs (maxSteps := 5000000) only [go_sem, reduceIte, reduceCtorEq, Nat.reduceEqDiff, Nat.reduceBEq, Nat.reduceAdd, Nat.reduceLeDiff, Nat.reduceMul, Nat.reduceLT, Int.reduceEq, Int.reduceLT, Int.reduceLE, h0, h1, h5, h]
        refine draw_intro [0, 0, 0, 0, 0, 0, 0, 0, 0] AHeap.none (by kernel_rfl) none_le ?_
        simp +contextual -dsimp -implicitDefEqProofs (maxSteps := 5000000) only [go_sem, reduceIte, reduceCtorEq, Nat.reduceEqDiff, Nat.reduceBEq, Nat.reduceAdd, Nat.reduceLeDiff, Nat.reduceMul, Nat.reduceLT, Int.reduceEq, Int.reduceLT, Int.reduceLE, h0, h1, h5, h, h', line_eq]
        refine ⟨fun hb => ?_, fun hb => ⟨_, ?_, k + 1, rfl, h, I_wrap (by omega) (by omega) (by omega), ?_⟩⟩
        · rw [decide_eq_false (fun e => hb (by rw [e]))]
        · omega
        · intro i hi hi'
          rcases Nat.lt_or_ge i k with q | q
          · exact he i q hi'
          · have : i = k := by omega
            subst this; exact hb
      · simp +contextual -dsimp -implicitDefEqProofs (maxSteps := 5000000) only [go_sem, reduceIte, reduceCtorEq, Nat.reduceEqDiff, Nat.reduceBEq, Nat.reduceAdd, Nat.reduceLeDiff, Nat.reduceMul, Nat.reduceLT, Int.reduceEq, Int.reduceLT, Int.reduceLE, h0, h1, h5, h]
        rw [decide_eq_true (list_eq_of hab (Nat.le_of_not_lt h) he)]
  · have hab' : ¬ (a.length : Int) = b.length := by omega
    simp +contextual -dsimp -implicitDefEqProofs (maxSteps := 5000000) only [go_sem, reduceIte, reduceCtorEq, Nat.reduceEqDiff, Nat.reduceBEq, Nat.reduceAdd, Nat.reduceLeDiff, Nat.reduceMul, Nat.reduceLT, Int.reduceEq, Int.reduceLT, Int.reduceLE, hab']
    rw [decide_eq_false (fun e => hab (by rw [e]))]
/-- Things that are closed by tries. -/
def lowerF : Fo → Fo
  | .nil => .nil
  | .node k a b kids rest => if k = 11 ∧ b = 0 then .node 1 a 0 .nil (.node 7 0 0 (lowerF kids) (.node 10 0 0 (.node 1 a 0 .nil .nil) (lowerF rest))) else .node k a b (lowerF kids) (lowerF rest)
theorem lowerF_size : ∀ f : Fo, (lowerF f).size ≤ 4 * f.size
  | .nil => Nat.le_refl _
  | .node k a b kids rest => by
    have h1 := lowerF_size kids
    have h2 := lowerF_size rest
    simp only [lowerF]
    split
    · simp only [Fo.size]; omega
    · simp only [Fo.size]; omega
theorem app_lines {H0 H : AHeap} {x : AV} {out m : List Line} {es : List (List AV)} {cl : Bool} {K : AV → AHeap → Prop} {g : Tag (H, K)} (hg : Grow rLine 4 37 H0 H x out) (hb : out.length + m.length ≤ 1000000) (he : es = m.map rLine) (k : ∀ x' H', Grow rLine 4 37 H0 H' x' (out ++ m) → K x' H') : appT Try.prog H 25 x (.vsl es cl) K g :=
  grow_append (m := m) te25 ti37 rLine_len (by decide) hg (by show (out.length + m.length) * 32 ≤ _; omega) (by omega) he fun x' H'' hg' => k x' H'' hg'
theorem lowerF_flat_len (f : Fo) (d : Int) : ((lowerF f).flat d).length ≤ 4 * f.size := by rw [flat_len]; exact lowerF_size f
theorem c_mlowered {t : List Class} : ∀ (n : Nat) (f : Fo) (d : Int) (cl : Bool) (H : AHeap), f.size < n → f.size ≤ 10000 → numsF t f d = true → ACalls Try.prog 19 [aProg (f.flat d) cl] H fun r H' => Grow rLine 4 37 H H' r ((lowerF f).flat d) := by
  intro n
  induction n with
  | zero => intro f d cl H h; omega
  | succ n ih =>
    intro f d cl H hfn hf24 hnf
    have hfl := flat_len f d
    refine acalls_of0 Try.func19 rfl (by kernel_rfl) rfl rfl (awp_sound (fz := fun r => if r = 4 then [5] else []) (im := fun s => s == 8 || s == 43 || s == 58 || s == 62) mixed _ _ _ _ (by kernel_rfl) ?_)
    simp +contextual -dsimp -implicitDefEqProofs (maxSteps := 5000000) only [go_sem, reduceIte, reduceCtorEq, Nat.reduceEqDiff, Nat.reduceBEq, Nat.reduceAdd, Nat.reduceLeDiff, Nat.reduceMul, Nat.reduceLT, Int.reduceEq, Int.reduceLT, Int.reduceLE]
    refine aloop mixed (fz := fun r => if r = 4 then [5] else []) (im := fun s => s == 8 || s == 43 || s == 58 || s == 62) (by kernel_rfl) (fun m tm H' => ∃ (g : Fo) (q : Nat) (out : List Line) (x : AV), m = g.size ∧ At (f.flat d) q d g ∧ numsF t g d = true ∧ q + g.size = f.size ∧ out.length ≤ 4 * q ∧ Grow rLine 4 37 H H' x out ∧ out ++ (lowerF g).flat d = (lowerF f).flat d ∧ tm 0 = aProg (f.flat d) cl ∧ tm 3 = x ∧ tm 4 = I q) f.size ⟨f, 0, [], _, rfl, at_top' f d, hnf, by omega, by simp, grow_nil, rfl, ?_⟩ ?_
    · simp +contextual -dsimp -implicitDefEqProofs (maxSteps := 5000000) only [go_sem, reduceIte, reduceCtorEq, Nat.reduceEqDiff, Nat.reduceBEq, Nat.reduceAdd, Nat.reduceLeDiff, Nat.reduceMul, Nat.reduceLT, Int.reduceEq, Int.reduceLT, Int.reduceLE]
    · rintro m tm H' ⟨g, q, out, x, rfl, hgat, hgn, hgq, hol, hg, he, t0, t3, t4⟩
      cases g with
      | nil =>
        have z : ¬ q < (f.flat d).length := by simp only [Fo.size] at hgq; omega
        simp only [lowerF, Fo.flat, List.append_nil] at he
        simp +contextual -dsimp -implicitDefEqProofs (maxSteps := 5000000) only [go_sem, reduceIte, reduceCtorEq, Nat.reduceEqDiff, Nat.reduceBEq, Nat.reduceAdd, Nat.reduceLeDiff, Nat.reduceMul, Nat.reduceLT, Int.reduceEq, Int.reduceLT, Int.reduceLE, t0, t3, t4, z]
        rw [← he]; exact hg
      | node k a b kids rest =>
        obtain ⟨n1, n2, n3, n4, n5⟩ := numsF_node hgn
        have hq := hgat.head
        have hksub := hgat.kids.sub
        have hkl := hgat.kids.len
        have hsz : (Fo.node k a b kids rest).size = 1 + kids.size + rest.size := rfl
        have hd := inR5 n2
        have hll := lowerF_flat_len kids (d + 1)
        have hwq : IntKind.i64.wrap ((q : Int) + 1) = ((q + 1 : Nat) : Int) := by rw [w64 (by omega) (by omega)]; rfl
        have hwd : IntKind.i64.wrap (d + 1) = d + 1 := w64 (by omega) (by omega)
        simp +contextual -dsimp -implicitDefEqProofs (maxSteps := 5000000) only [go_sem, reduceIte, reduceCtorEq, Nat.reduceEqDiff, Nat.reduceBEq, Nat.reduceAdd, Nat.reduceLeDiff, Nat.reduceMul, Nat.reduceLT, Int.reduceEq, Int.reduceLT, Int.reduceLE, t0, t3, t4, hq.1]
        refine draw_introQ [6] [0, 0, 0, 1, 0, 0, 4, 3, 2, 0] (fun _ => I (endP (f.flat d) q : Nat)) AHeap.none (by kernel_rfl) none_le ?_
        simp +contextual -dsimp -implicitDefEqProofs (maxSteps := 5000000) only [go_sem, reduceIte, reduceCtorEq, Nat.reduceEqDiff, Nat.reduceBEq, Nat.reduceAdd, Nat.reduceLeDiff, Nat.reduceMul, Nat.reduceLT, Int.reduceEq, Int.reduceLT, Int.reduceLE, t0, t3, t4, hq.1, hq.2]
        refine ⟨fun H' => c_endOf (f.flat d) cl q H' hq.1, ?_⟩
        rw [hgat.endP]
        rintro b5 hb5
        rw [hwq, Int.toNat_natCast, hksub]
        refine ⟨⟨by omega, by omega, by omega⟩, ?_⟩
        refine acalls_frz (ih kids (d + 1) _ _ (by omega) (by omega) n4) fun cl2 => ?_
        by_cases hc : k = 11 ∧ b = 0
        · obtain ⟨k11, b0⟩ := hc
          have el : (lowerF (.node k a b kids rest)).flat d = [⟨d, 1, a, 0⟩, ⟨d, 7, 0, 0⟩] ++ ((lowerF kids).flat (d + 1) ++ ([⟨d, 10, 0, 0⟩, ⟨d + 1, 1, a, 0⟩] ++ (lowerF rest).flat d)) := by
            simp only [lowerF]; rw [if_pos ⟨k11, b0⟩]; simp [Fo.flat]
          rw [el] at he
          simp +contextual -dsimp -implicitDefEqProofs (maxSteps := 5000000) only [go_sem, reduceIte, reduceCtorEq, Nat.reduceEqDiff, Nat.reduceBEq, Nat.reduceAdd, Nat.reduceLeDiff, Nat.reduceMul, Nat.reduceLT, Int.reduceEq, Int.reduceLT, Int.reduceLE, t0, t3, t4, hq.1, hq.2, k11, b0, hwd]
          refine app_lines (m := [⟨d, 1, a, 0⟩, ⟨d, 7, 0, 0⟩]) hg (by simp; omega) rfl fun x1 H1 hg1 => ?_
          simp +contextual -dsimp -implicitDefEqProofs (maxSteps := 5000000) only [go_sem, reduceIte, reduceCtorEq, Nat.reduceEqDiff, Nat.reduceBEq, Nat.reduceAdd, Nat.reduceLeDiff, Nat.reduceMul, Nat.reduceLT, Int.reduceEq, Int.reduceLT, Int.reduceLE, t0, t3, t4, hq.1, hq.2, k11, b0, hwd]
          refine app_lines (m := (lowerF kids).flat (d + 1)) hg1 (by simp; omega) rfl fun x2 H2 hg2 => ?_
          simp +contextual -dsimp -implicitDefEqProofs (maxSteps := 5000000) only [go_sem, reduceIte, reduceCtorEq, Nat.reduceEqDiff, Nat.reduceBEq, Nat.reduceAdd, Nat.reduceLeDiff, Nat.reduceMul, Nat.reduceLT, Int.reduceEq, Int.reduceLT, Int.reduceLE, t0, t3, t4, hq.1, hq.2, k11, b0, hwd]
          refine app_lines (m := [⟨d, 10, 0, 0⟩, ⟨d + 1, 1, a, 0⟩]) hg2 (by simp; omega) rfl fun x3 H3 hg3 => ?_
          simp +contextual -dsimp -implicitDefEqProofs (maxSteps := 5000000) only [go_sem, reduceIte, reduceCtorEq, Nat.reduceEqDiff, Nat.reduceBEq, Nat.reduceAdd, Nat.reduceLeDiff, Nat.reduceMul, Nat.reduceLT, Int.reduceEq, Int.reduceLT, Int.reduceLE, t0, t3, t4, hq.1, hq.2, k11, b0, hwd]
          refine ⟨rest.size, by simp only [Fo.size]; omega, rest, q + 1 + kids.size, _, x3, rfl, hgat.rest, n5, by omega, ?_, hg3, ?_⟩
          · simp; omega
          · rw [← he]; simp
        · have el : (lowerF (.node k a b kids rest)).flat d = [⟨d, k, a, b⟩] ++ ((lowerF kids).flat (d + 1) ++ (lowerF rest).flat d) := by
            simp only [lowerF]; rw [if_neg hc]; simp [Fo.flat]
          rw [el] at he
          have fin : ∀ (x2 : AV) (H2 : AHeap), Grow rLine 4 37 H H2 x2 (out ++ [⟨d, k, a, b⟩] ++ (lowerF kids).flat (d + 1)) → ∀ SZ, rest.size < SZ → ∃ m', m' < SZ ∧ ∃ (g : Fo) (q_1 : Nat) (out : List Line) (x : AV), m' = g.size ∧ At (f.flat d) q_1 d g ∧ numsF t g d = true ∧ q_1 + g.size = f.size ∧ out.length ≤ 4 * q_1 ∧ Grow rLine 4 37 H H2 x out ∧ out ++ (lowerF g).flat d = (lowerF f).flat d ∧ x2 = x ∧ I (q + 1 + kids.size : Nat) = I q_1 :=
            fun x2 H2 w1 SZ w2 => ⟨rest.size, w2, rest, q + 1 + kids.size, _, x2, rfl, hgat.rest, n5, by omega, by simp; omega, w1, by rw [← he]; simp, rfl, rfl⟩
          by_cases k11 : k = 11
          · have b0 : ¬ b = 0 := fun q => hc ⟨k11, q⟩
            simp +contextual -dsimp -implicitDefEqProofs (maxSteps := 5000000) only [go_sem, reduceIte, reduceCtorEq, Nat.reduceEqDiff, Nat.reduceBEq, Nat.reduceAdd, Nat.reduceLeDiff, Nat.reduceMul, Nat.reduceLT, Int.reduceEq, Int.reduceLT, Int.reduceLE, t0, t3, t4, hq.1, hq.2, k11, b0, hwd]
            refine app_lines (m := [⟨d, 11, a, b⟩]) hg (by simp; omega) rfl fun x1 H1 hg1 => ?_
            simp +contextual -dsimp -implicitDefEqProofs (maxSteps := 5000000) only [go_sem, reduceIte, reduceCtorEq, Nat.reduceEqDiff, Nat.reduceBEq, Nat.reduceAdd, Nat.reduceLeDiff, Nat.reduceMul, Nat.reduceLT, Int.reduceEq, Int.reduceLT, Int.reduceLE, t0, t3, t4, hq.1, hq.2, k11, b0, hwd]
            refine app_lines (m := (lowerF kids).flat (d + 1)) hg1 (by simp; omega) rfl fun x2 H2 hg2 => ?_
            simp +contextual -dsimp -implicitDefEqProofs (maxSteps := 5000000) only [go_sem, reduceIte, reduceCtorEq, Nat.reduceEqDiff, Nat.reduceBEq, Nat.reduceAdd, Nat.reduceLeDiff, Nat.reduceMul, Nat.reduceLT, Int.reduceEq, Int.reduceLT, Int.reduceLE, t0, t3, t4, hq.1, hq.2, k11, b0, hwd]
            rw [← k11] at hg2
            exact fin x2 H2 hg2 _ (by simp only [Fo.size]; omega)
          · simp +contextual -dsimp -implicitDefEqProofs (maxSteps := 5000000) only [go_sem, reduceIte, reduceCtorEq, Nat.reduceEqDiff, Nat.reduceBEq, Nat.reduceAdd, Nat.reduceLeDiff, Nat.reduceMul, Nat.reduceLT, Int.reduceEq, Int.reduceLT, Int.reduceLE, t0, t3, t4, hq.1, hq.2, k11, hwd]
            refine app_lines (m := [⟨d, k, a, b⟩]) hg (by simp; omega) rfl fun x1 H1 hg1 => ?_
            simp +contextual -dsimp -implicitDefEqProofs (maxSteps := 5000000) only [go_sem, reduceIte, reduceCtorEq, Nat.reduceEqDiff, Nat.reduceBEq, Nat.reduceAdd, Nat.reduceLeDiff, Nat.reduceMul, Nat.reduceLT, Int.reduceEq, Int.reduceLT, Int.reduceLE, t0, t3, t4, hq.1, hq.2, k11, hwd]
            refine app_lines (m := (lowerF kids).flat (d + 1)) hg1 (by simp; omega) rfl fun x2 H2 hg2 => ?_
            simp +contextual -dsimp -implicitDefEqProofs (maxSteps := 5000000) only [go_sem, reduceIte, reduceCtorEq, Nat.reduceEqDiff, Nat.reduceBEq, Nat.reduceAdd, Nat.reduceLeDiff, Nat.reduceMul, Nat.reduceLT, Int.reduceEq, Int.reduceLT, Int.reduceLE, t0, t3, t4, hq.1, hq.2, k11, hwd]
            exact fin x2 H2 hg2 _ (by simp only [Fo.size]; omega)
end Go.Proofs.Ytbjgilehnlpmaaa
end
