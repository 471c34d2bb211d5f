/- The law TopClosed answers true at every input: what a run opens it closes. No condition. -/
import Derived.Test.YtbjgilehnlpmaaaGreatJ2
import Derived.Test.YtbjgilehnlpmaaaGreatRows
import Derived.WalkKit
import Derived.ProofKit
import Derived.OpenShut
import Derived.ShutString
import Derived.ChangeOld
import Derived.Below
import Derived.SizedLaws
import Derived.Deep.Slices
import Derived.Deep.Fields
import Derived.ChangeSame
section
set_option linter.unusedVariables false
set_option linter.unusedSimpArgs false
namespace Go.Proofs.YtbjgilehnlpmaaaGreat
open Go Go.Sim
set_option maxRecDepth 100000
attribute [local go_sem ↓] aw_skip aw_ret aw_exit aw_region aw_draw aw_seq aw_block aw_loop aw_cond frz_nil frz_cons sq_normal sq_ret sq_exit exB_normal exB_ret exB_same exB_other retQ_ret retQ_normal ret0_ret ret0_normal ao_nil go1 g_move g_assign g_pick g_build g_load g_binOp g_unOp g_convert g_fieldAddr g_field g_indexAddr g_index g_extract g_slice g_nilCheck g_len g_makeFunc h_call h_append h_alloc h_box h_buildSlice h_makeSlice h_store gV i_box i_buildSlice i_move i_assign i_build i_load i_binOp i_unOp i_convert i_fieldAddr i_field i_indexAddr i_index i_extract i_slice i_nilCheck i_makeFunc i_len i_max i_min i_alloc i_makeSlice i_store i_append i_call i_pick boxI boxA buildSliceI buildSliceA makeSliceA allocA storeA p_move p_assign p_pick p_build p_load p_binOp p_unOp p_convert p_fieldAddr p_field p_indexAddr p_index p_extract p_slice p_nilCheck p_makeFunc p_len p_max p_min p_alloc p_box p_buildSlice p_makeSlice p_store p_append p_call x_nil x_go1 x_g0 x_g1 x_g2 x_g3 x_s0 x_s1 x_s2 x_s3 u_move u_assign u_pick u_build u_load u_binOp u_unOp u_convert u_fieldAddr u_field u_indexAddr u_index u_extract u_slice u_nilCheck u_makeFunc u_len u_buildSlice x_s4 x_g4 rq_normal rq_ret rq_exit aw_range
attribute [local go_sem] frzV_sl frzK_some set_none set_other AHeap.set_self set_del set_set cnd_t cnd_f cnd_b retA_one retA_two retA_three retA_four retA_nil gIf_b mrgV_b mrgV_wh mrgV_U gIf_U gIf_wh mrgB_f mrgB_some mrgB_if wh_true wh_false keepA_some keepA_if gD_zero gD_succ gT_some bxA_t bxA_f callA_fn ev_tmp ev_const ev_global ev_func oc_bool oc_int oc_string oc_nil oc_nilptr oc_nilfunc cl_bool cl_int cl_string cl_nil updO_some updO_none upd_same upd_other init_at pickA_b pickA_wh selA_t selA_f selA_and selA_or selA_orn selA_orm selA_bb selA_ii beqt b_add b_sub b_mul b_and b_or b_xor b_eql b_neq b_lss b_leq b_gtr b_geq b_quo b_rem b_shr b_seql b_sneq b_sadd b_beql b_bneq b_aeql b_aneq u_not u_neg isConstOp eqA eqCellV List.getD_cons_zero List.getD_cons_succ List.map_cons List.map_nil List.nil_append List.cons_append List.append_nil if_true if_false Option.map_some Option.map_none ne_eq not_false_eq_true oneA ldv ld1v ld1s wr1s ldRow stRow row_lit row_agg row_vsl row_sl row_ptr row_fn one_I one_B one_S one_vsl one_sl one_ptr one_fn extractA okA rI rS rU rClass rFault rExit rStart rLine Int.toNat_natCast List.length_cons List.length_nil List.length_map List.all_cons List.all_nil Bool.and_true Nat.zero_add List.getElem?_cons_zero List.getElem?_cons_succ List.take_succ_cons List.take_zero List.drop_succ_cons List.drop_zero and_self true_and and_true implies_true decide_eq_true_eq decide_eq_false_iff_not Bool.or_eq_true Bool.or_eq_false_iff Bool.and_eq_true Bool.not_eq_true' Bool.not_eq_false' beq_false decide_true decide_false Int.ofNat_lt Int.ofNat_le Int.natCast_nonneg Bool.or_true Bool.or_false Bool.true_or Bool.false_or beq_self_eq_true List.drop_one Bool.not_true Bool.not_false Bool.not_not Bool.false_eq_true Bool.true_eq_false false_implies true_implies Bool.true_and Bool.false_and Bool.and_false not_true_eq_false Int.natCast_eq_zero Int.natCast_pos Int.natCast_zero false_and and_false or_false false_or or_true true_or Bool.or_self none_le_iff List.replicate_zero Int.toNat_zero List.replicate_succ buildRows List.set_cons_zero List.set_cons_succ List.set_nil List.mapM_nil maxLen_eq Nat.zero_le Nat.mul_one Nat.one_mul bldA fillA spliceA List.take_nil List.drop_nil List.getElem?_nil ld1o wr1o bldSliceA le_same cv_i cvI_t quietT_fn qvd_some ld_o ldO_1 ldO_l wr_o wrO_1 set_2 set_3 set_4 putL_nil putL_cons List.zip_cons_cons List.zip_nil_left List.zip_nil_right List.toList_toArray frzV_set ti1 ti2 tk2 ti3 te3 ts3 tk3 tz3 ti4 tb4 ti5 tk5 tz5 ti9 te9 ts9 tk9 tz9 ti12 tk12 ti13 tp13 tf13_0 tf13_1 ti20 ti21 tk21 tz21 ti22 te22 ti23 tp23 tf23_0 ti24 tp24 tf24_0 ti25 te25 ti26 te26 ti27 te27 ti28 tp28 tf28_0 ti29 tp29 tf29_0 ti30 tp30 tf30_0 tf30_1 tf30_2 tf30_3 ti31 tp31 tf31_0 tf31_1 tf31_2 tf31_3 ti32 ti33 ti34 ti35 te35 tz35 ti37 ti38 ti39 ti40 ti42 ti44 ti46 ti47 ti48 ti49 tq49 tp49 tf49_0 tf49_1 tf49_2 tf49_3 ti50 tq50 tp50 tf50_0 tf50_1 tf50_2 tf50_3 ti51 ti52 ti53 ti54 ti55 ti56 ti57 ti58 tq58 tp58 tf58_0 tf58_1 ti59 tq59 tp59 tf59_0 tf59_1 ti60 ti61 ti62 ti63 ti64 ti65 ti66 ti67 ti68 ti69 ti70 ti71 ti72 ti73 ti74 ti75 ti76 ti77 ti78 ti79 tq79 tp79 tf79_0 tf79_1 tf79_2 tf79_3 tf79_4 ti80 tq80 tp80 tf80_0 tf80_1 tf80_2 tf80_3 tf80_4 ti81 ti82 ti83 ti84 ti85 ti86 ti87 ti88 ti89 tp89 tf89_0 tf89_1 tf89_2 tf89_3 tf89_4 ti90 tp90 tf90_0 tf90_1 tf90_2 tf90_3 tf90_4 ti91 ti93 ti94 ti95 ti96 ti97 ti98 tp98 tf98_0 tf98_1 tf98_2 tf98_3 ti99 tp99 tf99_0 tf99_1 tf99_2 tf99_3 ti100 tq100 tp100 tf100_0 tf100_1 ti101 tq101 tp101 tf101_0 tf101_1 ti102 ti103 ti104 tq104 tp104 tf104_0 tf104_1 ti105 tq105 tp105 tf105_0 tf105_1 ti106 ti107 ti108 ti109 ti110 ti111 ti112 ti113 tp113 tf113_0 tf113_1 ti114 tp114 tf114_0 tf114_1 ti115 ti116 ti117 ti118 te118 ti119 ti120 ti121 ti122 ti123 ti124 ti125 ti126 ti127 ti128 ti129 ti130 ti131 te131 ti132 ti133 ti134 ti135 ti136 tk136 tz136 ti137 ti138 ti139 ti140 ti141 ti142 ti143 tk143 ti145 ti146 ti147 ti149 ti150 ti151 tk151 tz151 ti152 ti153 tk153 tz153 ti154 ti155 ti156 ti157 ti158 tk158 ti159 ti160 ti161 ti162 ti163 ti164 ti165 ti167 ti168 ti174 ti178 fp13_0 fv13_0 fp13_1 fv13_1 fp23_0 fv23_0 fp24_0 fv24_0 fp28_0 fv28_0 fp29_0 fv29_0 fp30_0 fv30_0 fp30_1 fv30_1 fp30_2 fv30_2 fp30_3 fv30_3 fp31_0 fv31_0 fp31_1 fv31_1 fp31_2 fv31_2 fp31_3 fv31_3 fp49_0 fv49_0 fp49_1 fv49_1 fp49_2 fv49_2 fp49_3 fv49_3 fp50_0 fv50_0 fp50_1 fv50_1 fp50_2 fv50_2 fp50_3 fv50_3 fp58_0 fv58_0 fp58_1 fv58_1 fp59_0 fv59_0 fp59_1 fv59_1 fp79_0 fv79_0 fp79_1 fv79_1 fp79_2 fv79_2 fp79_3 fv79_3 fp79_4 fv79_4 fp80_0 fv80_0 fp80_1 fv80_1 fp80_2 fv80_2 fp80_3 fv80_3 fp80_4 fv80_4 fp89_0 fv89_0 fp89_1 fv89_1 fp89_2 fv89_2 fp89_3 fv89_3 fp89_4 fv89_4 fp90_0 fv90_0 fp90_1 fv90_1 fp90_2 fv90_2 fp90_3 fv90_3 fp90_4 fv90_4 fp98_0 fv98_0 fp98_1 fv98_1 fp98_2 fv98_2 fp98_3 fv98_3 fp99_0 fv99_0 fp99_1 fv99_1 fp99_2 fv99_2 fp99_3 fv99_3 fp100_0 fv100_0 fp100_1 fv100_1 fp101_0 fv101_0 fp101_1 fv101_1 fp104_0 fv104_0 fp104_1 fv104_1 fp105_0 fv105_0 fp105_1 fv105_1 fp113_0 fv113_0 fp113_1 fv113_1 fp114_0 fv114_0 fp114_1 fv114_1 lv22 ll22 is22 ix22 sh22 so22 sb22 sm22 sp22 lv25 ll25 is25 ix25 sh25 so25 sb25 sm25 sp25 lv26 ll26 is26 ix26 sh26 so26 sb26 sm26 sp26 lv27 ll27 is27 ix27 sh27 so27 sb27 sm27 sp27 lv35 ll35 is35 ix35 sh35 so35 sb35 sm35 sp35 lv118 ll118 is118 sp118 lv131 ll131 is131 ix131 sh131 so131 sb131 sm131 sp131 xs9 ls9 sx9 sy9 sz9

/-- A reader's block, asked at most n times. -/
def RdK (n : Nat) (K : ABlk) : Prop := ∃ (bs : List UInt8) (cb : Bool) (p : Nat), bs.length ≤ 2000 ∧ p ≤ n ∧ K = ⟨2, 114, [[.vsl (bs.map rU) cb, I p]]⟩
theorem rdk_mono {n m : Nat} {K : ABlk} (h : RdK n K) (hm : n ≤ m) : RdK m K := by
  obtain ⟨bs, cb, p, h1, h2, h3⟩ := h
  exact ⟨bs, cb, p, h1, Nat.le_trans h2 hm, h3⟩
theorem rd_of {F : AHeap} {br n : Nat} {K : ABlk} (h : RdK n K) (hF : F br = none) : Rd F (F.set br K) br n := by
  obtain ⟨bs, cb, p, h1, h2, rfl⟩ := h
  exact ⟨bs, cb, p, h1, h2, hF, rfl⟩
theorem rd_to {F H : AHeap} {br n : Nat} (h : Rd F H br n) : ∃ K, RdK n K ∧ H = F.set br K := by
  obtain ⟨bs, cb, p, h1, h2, h3, rfl⟩ := h
  exact ⟨_, ⟨bs, cb, p, h1, h2, rfl⟩, rfl⟩
theorem k_pick {F : AHeap} {br n : Nat} {K : ABlk} (k : Int) (h : RdK n K) (hF : F br = none) (hn : n < 1000000000) {H : AHeap} (hH : H = F.set br K) {Q : AV → AHeap → Prop}
    (k0 : ∀ (v : Int) K', 0 ≤ v → (0 < k → v < k) → (k ≤ 0 → v = 0) → RdK (n + 1) K' → Q (I v) (F.set br K')) : ACalls Tryz.prog 96 [.ptr br 2 0 0, I k] H Q := by
  subst hH
  refine (c_pick F _ br n k (rd_of h hF) hn).mono ?_
  rintro _ H' ⟨v, rfl, v0, v1, v2, hR⟩
  obtain ⟨K', hK, rfl⟩ := rd_to hR
  exact k0 v K' v0 v1 v2 hK
theorem k_one {F : AHeap} {br n : Nat} {K : ABlk} (l : List Int) (cl : Bool) (h : RdK n K) (hF : F br = none) (hn : n < 1000000000) (hl : l ≠ []) {H : AHeap} (hH : H = F.set br K) {Q : AV → AHeap → Prop} {es : List (List AV)} (hes : es = l.map rI)
    (k0 : ∀ (v : Int) K', v ∈ l → RdK (n + 1) K' → Q (I v) (F.set br K')) : ACalls Tryz.prog 63 [.ptr br 2 0 0, .vsl es cl] H Q := by
  subst hH hes
  refine (c_one F _ br n l cl (rd_of h hF) hn hl).mono ?_
  rintro _ H' ⟨v, rfl, v0, hR⟩
  obtain ⟨K', hK, rfl⟩ := rd_to hR
  exact k0 v K' v0 hK
theorem k_of {F : AHeap} {br n : Nat} {K : ABlk} (l : List Str) (cl : Bool) (h : RdK n K) (hF : F br = none) (hn : n < 1000000000) (hl : l ≠ []) {H : AHeap} (hH : H = F.set br K) {Q : AV → AHeap → Prop} {es : List (List AV)} (hes : es = l.map rS)
    (k0 : ∀ (v : Str) K', v ∈ l → RdK (n + 1) K' → Q (S v) (F.set br K')) : ACalls Tryz.prog 134 [.ptr br 2 0 0, .vsl es cl] H Q := by
  subst hH hes
  refine (c_of F _ br n l cl (rd_of h hF) hn hl).mono ?_
  rintro _ H' ⟨v, rfl, v0, hR⟩
  obtain ⟨K', hK, rfl⟩ := rd_to hR
  exact k0 v K' v0 hK

def treeNames : List Str := [[97, 110, 121], [105, 111], [107, 101, 121], [116, 105, 109, 101], [110, 101, 116], [100, 105, 115, 107], [116, 121, 112, 101], [111, 100, 100]]
theorem treeNames_len : treeNames.length = 8 := rfl
def shortNames (l : List Class) : Prop := ∀ c ∈ l, c.name.length ≤ 10
theorem short_ok {l : List Class} (h : shortNames l) : namesOk l := fun c hc => by have := h c hc; omega
theorem c_goodTree (F : AHeap) (br n : Nat) (K : ABlk) (h : RdK n K) (hF : F br = none) (hn : n < 900000000) : ACalls Tryz.prog 133 [.ptr br 2 0 0] (F.set br K) fun r H' =>
    ∃ x l G K', r = .agg [x] ∧ Grow rClass 2 105 F G x l ∧ G br = none ∧ H' = G.set br K' ∧ RdK (n + 20) K' ∧ 1 ≤ l.length ∧ l.length ≤ 8 ∧ shortNames l := by
  refine acalls_of1 Tryz.func133 rfl (by kernel_rfl) rfl rfl (awp_sound (fz := fun _ => []) (im := fun s => s == 7 || s == 12) mixed _ _ _ _ (by kernel_rfl) ?_)
  simp +contextual -dsimp -implicitDefEqProofs (maxSteps := 5000000) only [go_sem, reduceIte, reduceCtorEq, Nat.reduceEqDiff, Nat.reduceBEq, Nat.reduceAdd, Nat.reduceLeDiff, Nat.reduceMul, Nat.reduceLT, Int.reduceEq, Int.reduceLT, Int.reduceLE]
  rintro b2 ⟨p1, p2, hb2⟩ b9 ⟨q1, q2, q3, q4, hb9⟩ b4 ⟨m1, m2, m3, m4, m5, m6, hb4⟩
  have hg0 : Grow rClass 2 105 F (F.set b9 ⟨2, 105, [⟨[97, 110, 121], -1⟩].map rClass⟩) (.sl b9 2 0 1 true) [⟨[97, 110, 121], -1⟩] := .inr ⟨b9, true, hb9, rfl, rfl⟩
  have hH : (((F.set br K).set b2 ⟨1, 24, [[.vsl [] true]]⟩).set b9 ⟨2, 105, [[S [97, 110, 121], I (-1)]]⟩).set b4 ⟨1, 24, [[.sl b9 2 0 1 true]]⟩ =
      (((F.set b9 ⟨2, 105, [⟨[97, 110, 121], -1⟩].map rClass⟩).set b2 ⟨1, 24, [[.vsl [] true]]⟩).set b4 ⟨1, 24, [[.sl b9 2 0 1 true]]⟩).set br K := by
    rw [set_comm (H := F) (Ne.symm p1), set_comm (H := F.set b2 _) (Ne.symm q3), set_comm (H := (F.set b2 _).set b9 _) (Ne.symm m5), set_comm (H := F) (Ne.symm q1)]
    rfl
  rw [hH]
  have e2 : (F.set b9 ⟨2, 105, [⟨[97, 110, 121], -1⟩].map rClass⟩) b2 = none := by rw [set_other q2]; exact hb2
  have e4 : (F.set b9 ⟨2, 105, [⟨[97, 110, 121], -1⟩].map rClass⟩) b4 = none := by rw [set_other m1]; exact hb4
  have er : (F.set b9 ⟨2, 105, [⟨[97, 110, 121], -1⟩].map rClass⟩) br = none := by rw [set_other q4]; exact hF
  generalize F.set b9 ⟨2, 105, [⟨[97, 110, 121], -1⟩].map rClass⟩ = G0 at hg0 e2 e4 er ⊢
  generalize AV.sl b9 2 0 1 true = x0 at hg0 ⊢
  have none3 : ∀ (G : AHeap) (K2 K4 : ABlk), G br = none → ((G.set b2 K2).set b4 K4) br = none := fun G K2 K4 h => by rw [set_other m6, set_other p2]; exact h
  refine k_one [4, 5, 3, 6, 2, 1, 8] _ h (none3 _ _ _ er) (by omega) (by simp) rfl rfl fun v K1 hv hK1 => ?_
  have hv8 : 1 ≤ v ∧ v ≤ 8 := by simp at hv; omega
  clear hH
  simp +contextual -dsimp -implicitDefEqProofs (maxSteps := 5000000) only [go_sem, reduceIte, reduceCtorEq, Nat.reduceEqDiff, Nat.reduceBEq, Nat.reduceAdd, Nat.reduceLeDiff, Nat.reduceMul, Nat.reduceLT, Int.reduceEq, Int.reduceLT, Int.reduceLE]
  refine aloop mixed (fz := fun _ => []) (im := fun s => s == 7 || s == 12) (by kernel_rfl) (fun m tm H' => ∃ (i : Nat) (G : AHeap) (x : AV) (l : List Class) (K : ABlk), m = v.toNat - i ∧ 1 ≤ i ∧ i ≤ v ∧ l.length = i ∧ shortNames l ∧ Grow rClass 2 105 F G x l ∧ G b2 = none ∧ G b4 = none ∧ G br = none ∧ RdK (n + 2 + 2 * i) K ∧
    H' = ((G.set b2 ⟨1, 24, [[.vsl [] true]]⟩).set b4 ⟨1, 24, [[x]]⟩).set br K ∧ tm 0 = .ptr br 2 0 0 ∧ tm 2 = .ptr b2 1 0 0 ∧ tm 3 = .vsl (treeNames.map rS) true ∧ tm 4 = .ptr b4 1 0 0 ∧ tm 5 = I v ∧ tm 6 = I i) (v.toNat - 1) ⟨1, G0, x0, _, K1, rfl, by omega, by omega, rfl, ?_, hg0, e2, e4, er, rdk_mono hK1 (by omega), rfl, ?_⟩ ?_
  · intro c hc; simp at hc; subst hc; decide
  · simp +contextual -dsimp -implicitDefEqProofs (maxSteps := 5000000) only [go_sem, reduceIte, reduceCtorEq, Nat.reduceEqDiff, Nat.reduceBEq, Nat.reduceAdd, Nat.reduceLeDiff, Nat.reduceMul, Nat.reduceLT, Int.reduceEq, Int.reduceLT, Int.reduceLE]
    exact ⟨rfl, rfl⟩
  · rintro m tm H' ⟨i, G, x, l, K, rfl, hi1, hi, hl, hs, hg, f2, f4, fr, hK, rfl, t0, t2, t3, t4, t5, t6⟩
    obtain ⟨r1, r2⟩ := one_grow hg
    simp +contextual -dsimp -implicitDefEqProofs (maxSteps := 5000000) only [go_sem, reduceIte, reduceCtorEq, Nat.reduceEqDiff, Nat.reduceBEq, Nat.reduceAdd, Nat.reduceLeDiff, Nat.reduceMul, Nat.reduceLT, Int.reduceEq, Int.reduceLT, Int.reduceLE, t0, t2, t3, t4, t5, t6, p1, p2, m3, m4, m5, m6, r1, r2]
    refine ⟨fun hlt => ?_, fun hge => ?_⟩
    · refine draw_intro [0, 1, 0, 0, 0, 1, 0, 0, 0, 3, 0, 0, 0, 3, 0, 0, 2, 0, 2] ((G.set b2 ⟨1, 24, [[.vsl [] true]]⟩).set b4 ⟨1, 24, [[x]]⟩) (by kernel_rfl) (le_set (none3 _ _ _ fr)) ?_
      have i8 : i < 8 := by omega
      have hnm : (treeNames.getD i default).length ≤ 10 := by
        have : ∀ j, j < 8 → (treeNames.getD j default).length ≤ 10 := by decide
        exact this i i8
      simp +contextual -dsimp -implicitDefEqProofs (maxSteps := 5000000) only [go_sem, reduceIte, reduceCtorEq, Nat.reduceEqDiff, Nat.reduceBEq, Nat.reduceAdd, Nat.reduceLeDiff, Nat.reduceMul, Nat.reduceLT, Int.reduceEq, Int.reduceLT, Int.reduceLE, t0, t2, t3, t4, t5, t6, p1, p2, m3, m4, m5, m6, r1, r2, treeNames_len, i8]
      refine k_pick i hK (none3 _ _ _ fr) (by omega) rfl fun u K2 u0 u1 u2 hK2 => ⟨le_set (none3 _ _ _ fr), ?_⟩
      simp +contextual -dsimp -implicitDefEqProofs (maxSteps := 5000000) only [go_sem, reduceIte, reduceCtorEq, Nat.reduceEqDiff, Nat.reduceBEq, Nat.reduceAdd, Nat.reduceLeDiff, Nat.reduceMul, Nat.reduceLT, Int.reduceEq, Int.reduceLT, Int.reduceLE, t0, t2, t3, t4, t5, t6, p1, p2, m3, m4, m5, m6, r1, r2, treeNames_len, i8]
      refine k_one [0, u, IntKind.i64.wrap ((i : Int) - 1)] _ hK2 (none3 _ _ _ fr) (by omega) (by simp) rfl rfl fun z K3 hz hK3 => ⟨le_set (none3 _ _ _ fr), ?_⟩
      simp +contextual -dsimp -implicitDefEqProofs (maxSteps := 5000000) only [go_sem, reduceIte, reduceCtorEq, Nat.reduceEqDiff, Nat.reduceBEq, Nat.reduceAdd, Nat.reduceLeDiff, Nat.reduceMul, Nat.reduceLT, Int.reduceEq, Int.reduceLT, Int.reduceLE, t0, t2, t3, t4, t5, t6, p1, p2, m3, m4, m5, m6, r1, r2, treeNames_len, i8]
      have f4' : (G.set b2 ⟨1, 24, [[.vsl [] true]]⟩) b4 = none := by rw [set_other m3]; exact f4
      refine grow_append (m := [⟨treeNames.getD i default, z⟩]) te22 ti105 rClass_len (by decide) (grow_in (grow_in (grow_in hg f2) f4') (none3 _ _ _ fr)) (by simp; omega) (by simp; omega) rfl fun x' H' hg' => ?_
      have g2 := grow_none hg f2
      have g4 := grow_none hg f4
      have gr := grow_none hg fr
      obtain ⟨G1, hg1, rfl, u7⟩ := grow_out hg' (none3 _ _ _ gr)
      obtain ⟨G2, hg2, rfl, u6⟩ := grow_out hg1 (by rw [set_other m3]; exact g4)
      obtain ⟨G3, hg3, rfl, u5⟩ := grow_out hg2 g2
      obtain ⟨r3, r4⟩ := one_grow hg3
      rw [set_other m3] at u6
      rw [set_other m6, set_other p2] at u7
      simp +contextual -dsimp -implicitDefEqProofs (maxSteps := 5000000) only [go_sem, reduceIte, reduceCtorEq, Nat.reduceEqDiff, Nat.reduceBEq, Nat.reduceAdd, Nat.reduceLeDiff, Nat.reduceMul, Nat.reduceLT, Int.reduceEq, Int.reduceLT, Int.reduceLE, t0, t2, t3, t4, t5, t6, p1, p2, m3, m4, m5, m6, r1, r2, r3, r4, treeNames_len, i8]
      refine ⟨_, ?_, i + 1, G3, x', l ++ [⟨treeNames.getD i default, z⟩], K3, rfl, by omega, by omega, by simp [hl], ?_, hg3, u5, u6, u7, rdk_mono hK3 (by omega), rfl, I_wrap (by simp) (by omega) (by omega)⟩
      · omega
      · intro c hc
        rcases List.mem_append.1 hc with q | q
        · exact hs c q
        · simp at q; subst q; exact hnm
    · refine retR_less (l := [.agg [x]]) (H' := G.set br K) ?_ (fun c k hc => ?_) ⟨x, l, G, K, rfl, hg, fr, rfl, rdk_mono hK (by omega), by omega, by omega, hs⟩
      · simp only [resA, go_sem, reduceIte, reduceCtorEq, Nat.reduceEqDiff, Nat.reduceBEq, Nat.reduceAdd, Nat.reduceLeDiff, Nat.reduceMul, Nat.reduceLT, Int.reduceEq, Int.reduceLT, Int.reduceLE, p1, p2, m3, m4, m5, m6, t2]
      · by_cases c0 : c = br
        · subst c0; rw [AHeap.set_self] at hc ⊢; exact hc
        · rw [set_other c0] at hc
          have c1 : c ≠ b2 := fun e => by rw [e, f2] at hc; cases hc
          have c2 : c ≠ b4 := fun e => by rw [e, f4] at hc; cases hc
          rw [set_other c0, set_other c2, set_other c1]; exact hc
end Go.Proofs.YtbjgilehnlpmaaaGreat
end
section
set_option linter.unusedVariables false
set_option linter.unusedSimpArgs false
namespace Go.Proofs.YtbjgilehnlpmaaaGreat
open Go Go.Sim
set_option maxRecDepth 100000
attribute [local go_sem ↓] aw_skip aw_ret aw_exit aw_region aw_draw aw_seq aw_block aw_loop aw_cond frz_nil frz_cons sq_normal sq_ret sq_exit exB_normal exB_ret exB_same exB_other retQ_ret retQ_normal ret0_ret ret0_normal ao_nil go1 g_move g_assign g_pick g_build g_load g_binOp g_unOp g_convert g_fieldAddr g_field g_indexAddr g_index g_extract g_slice g_nilCheck g_len g_makeFunc h_call h_append h_alloc h_box h_buildSlice h_makeSlice h_store gV i_box i_buildSlice i_move i_assign i_build i_load i_binOp i_unOp i_convert i_fieldAddr i_field i_indexAddr i_index i_extract i_slice i_nilCheck i_makeFunc i_len i_max i_min i_alloc i_makeSlice i_store i_append i_call i_pick boxI boxA buildSliceI buildSliceA makeSliceA allocA storeA p_move p_assign p_pick p_build p_load p_binOp p_unOp p_convert p_fieldAddr p_field p_indexAddr p_index p_extract p_slice p_nilCheck p_makeFunc p_len p_max p_min p_alloc p_box p_buildSlice p_makeSlice p_store p_append p_call x_nil x_go1 x_g0 x_g1 x_g2 x_g3 x_s0 x_s1 x_s2 x_s3 u_move u_assign u_pick u_build u_load u_binOp u_unOp u_convert u_fieldAddr u_field u_indexAddr u_index u_extract u_slice u_nilCheck u_makeFunc u_len u_buildSlice x_s4 x_g4 rq_normal rq_ret rq_exit aw_range
attribute [local go_sem] frzV_sl frzK_some set_none set_other AHeap.set_self set_del set_set cnd_t cnd_f cnd_b retA_one retA_two retA_three retA_four retA_nil gIf_b mrgV_b mrgV_wh mrgV_U gIf_U gIf_wh mrgB_f mrgB_some mrgB_if wh_true wh_false keepA_some keepA_if gD_zero gD_succ gT_some bxA_t bxA_f callA_fn ev_tmp ev_const ev_global ev_func oc_bool oc_int oc_string oc_nil oc_nilptr oc_nilfunc cl_bool cl_int cl_string cl_nil updO_some updO_none upd_same upd_other init_at pickA_b pickA_wh selA_t selA_f selA_and selA_or selA_orn selA_orm selA_bb selA_ii beqt b_add b_sub b_mul b_and b_or b_xor b_eql b_neq b_lss b_leq b_gtr b_geq b_quo b_rem b_shr b_seql b_sneq b_sadd b_beql b_bneq b_aeql b_aneq u_not u_neg isConstOp eqA eqCellV List.getD_cons_zero List.getD_cons_succ List.map_cons List.map_nil List.nil_append List.cons_append List.append_nil if_true if_false Option.map_some Option.map_none ne_eq not_false_eq_true oneA ldv ld1v ld1s wr1s ldRow stRow row_lit row_agg row_vsl row_sl row_ptr row_fn one_I one_B one_S one_vsl one_sl one_ptr one_fn extractA okA rI rS rU rClass rFault rExit rStart rLine Int.toNat_natCast List.length_cons List.length_nil List.length_map List.all_cons List.all_nil Bool.and_true Nat.zero_add List.getElem?_cons_zero List.getElem?_cons_succ List.take_succ_cons List.take_zero List.drop_succ_cons List.drop_zero and_self true_and and_true implies_true decide_eq_true_eq decide_eq_false_iff_not Bool.or_eq_true Bool.or_eq_false_iff Bool.and_eq_true Bool.not_eq_true' Bool.not_eq_false' beq_false decide_true decide_false Int.ofNat_lt Int.ofNat_le Int.natCast_nonneg Bool.or_true Bool.or_false Bool.true_or Bool.false_or beq_self_eq_true List.drop_one Bool.not_true Bool.not_false Bool.not_not Bool.false_eq_true Bool.true_eq_false false_implies true_implies Bool.true_and Bool.false_and Bool.and_false not_true_eq_false Int.natCast_eq_zero Int.natCast_pos Int.natCast_zero false_and and_false or_false false_or or_true true_or Bool.or_self none_le_iff List.replicate_zero Int.toNat_zero List.replicate_succ buildRows List.set_cons_zero List.set_cons_succ List.set_nil List.mapM_nil maxLen_eq Nat.zero_le Nat.mul_one Nat.one_mul bldA fillA spliceA List.take_nil List.drop_nil List.getElem?_nil ld1o wr1o bldSliceA le_same cv_i cvI_t quietT_fn qvd_some ld_o ldO_1 ldO_l wr_o wrO_1 set_2 set_3 set_4 putL_nil putL_cons List.zip_cons_cons List.zip_nil_left List.zip_nil_right List.toList_toArray frzV_set ti1 ti2 tk2 ti3 te3 ts3 tk3 tz3 ti4 tb4 ti5 tk5 tz5 ti9 te9 ts9 tk9 tz9 ti12 tk12 ti13 tp13 tf13_0 tf13_1 ti20 ti21 tk21 tz21 ti22 te22 ti23 tp23 tf23_0 ti24 tp24 tf24_0 ti25 te25 ti26 te26 ti27 te27 ti28 tp28 tf28_0 ti29 tp29 tf29_0 ti30 tp30 tf30_0 tf30_1 tf30_2 tf30_3 ti31 tp31 tf31_0 tf31_1 tf31_2 tf31_3 ti32 ti33 ti34 ti35 te35 tz35 ti37 ti38 ti39 ti40 ti42 ti44 ti46 ti47 ti48 ti49 tq49 tp49 tf49_0 tf49_1 tf49_2 tf49_3 ti50 tq50 tp50 tf50_0 tf50_1 tf50_2 tf50_3 ti51 ti52 ti53 ti54 ti55 ti56 ti57 ti58 tq58 tp58 tf58_0 tf58_1 ti59 tq59 tp59 tf59_0 tf59_1 ti60 ti61 ti62 ti63 ti64 ti65 ti66 ti67 ti68 ti69 ti70 ti71 ti72 ti73 ti74 ti75 ti76 ti77 ti78 ti79 tq79 tp79 tf79_0 tf79_1 tf79_2 tf79_3 tf79_4 ti80 tq80 tp80 tf80_0 tf80_1 tf80_2 tf80_3 tf80_4 ti81 ti82 ti83 ti84 ti85 ti86 ti87 ti88 ti89 tp89 tf89_0 tf89_1 tf89_2 tf89_3 tf89_4 ti90 tp90 tf90_0 tf90_1 tf90_2 tf90_3 tf90_4 ti91 ti93 ti94 ti95 ti96 ti97 ti98 tp98 tf98_0 tf98_1 tf98_2 tf98_3 ti99 tp99 tf99_0 tf99_1 tf99_2 tf99_3 ti100 tq100 tp100 tf100_0 tf100_1 ti101 tq101 tp101 tf101_0 tf101_1 ti102 ti103 ti104 tq104 tp104 tf104_0 tf104_1 ti105 tq105 tp105 tf105_0 tf105_1 ti106 ti107 ti108 ti109 ti110 ti111 ti112 ti113 tp113 tf113_0 tf113_1 ti114 tp114 tf114_0 tf114_1 ti115 ti116 ti117 ti118 te118 ti119 ti120 ti121 ti122 ti123 ti124 ti125 ti126 ti127 ti128 ti129 ti130 ti131 te131 ti132 ti133 ti134 ti135 ti136 tk136 tz136 ti137 ti138 ti139 ti140 ti141 ti142 ti143 tk143 ti145 ti146 ti147 ti149 ti150 ti151 tk151 tz151 ti152 ti153 tk153 tz153 ti154 ti155 ti156 ti157 ti158 tk158 ti159 ti160 ti161 ti162 ti163 ti164 ti165 ti167 ti168 ti174 ti178 fp13_0 fv13_0 fp13_1 fv13_1 fp23_0 fv23_0 fp24_0 fv24_0 fp28_0 fv28_0 fp29_0 fv29_0 fp30_0 fv30_0 fp30_1 fv30_1 fp30_2 fv30_2 fp30_3 fv30_3 fp31_0 fv31_0 fp31_1 fv31_1 fp31_2 fv31_2 fp31_3 fv31_3 fp49_0 fv49_0 fp49_1 fv49_1 fp49_2 fv49_2 fp49_3 fv49_3 fp50_0 fv50_0 fp50_1 fv50_1 fp50_2 fv50_2 fp50_3 fv50_3 fp58_0 fv58_0 fp58_1 fv58_1 fp59_0 fv59_0 fp59_1 fv59_1 fp79_0 fv79_0 fp79_1 fv79_1 fp79_2 fv79_2 fp79_3 fv79_3 fp79_4 fv79_4 fp80_0 fv80_0 fp80_1 fv80_1 fp80_2 fv80_2 fp80_3 fv80_3 fp80_4 fv80_4 fp89_0 fv89_0 fp89_1 fv89_1 fp89_2 fv89_2 fp89_3 fv89_3 fp89_4 fv89_4 fp90_0 fv90_0 fp90_1 fv90_1 fp90_2 fv90_2 fp90_3 fv90_3 fp90_4 fv90_4 fp98_0 fv98_0 fp98_1 fv98_1 fp98_2 fv98_2 fp98_3 fv98_3 fp99_0 fv99_0 fp99_1 fv99_1 fp99_2 fv99_2 fp99_3 fv99_3 fp100_0 fv100_0 fp100_1 fv100_1 fp101_0 fv101_0 fp101_1 fv101_1 fp104_0 fv104_0 fp104_1 fv104_1 fp105_0 fv105_0 fp105_1 fv105_1 fp113_0 fv113_0 fp113_1 fv113_1 fp114_0 fv114_0 fp114_1 fv114_1 lv22 ll22 is22 ix22 sh22 so22 sb22 sm22 sp22 lv25 ll25 is25 ix25 sh25 so25 sb25 sm25 sp25 lv26 ll26 is26 ix26 sh26 so26 sb26 sm26 sp26 lv27 ll27 is27 ix27 sh27 so27 sb27 sm27 sp27 lv35 ll35 is35 ix35 sh35 so35 sb35 sm35 sp35 lv118 ll118 is118 sp118 lv131 ll131 is131 ix131 sh131 so131 sb131 sm131 sp131 xs9 ls9 sx9 sy9 sz9

theorem br_out {F : AHeap} {br b : Nat} {K K2 : ABlk} (h : b ≠ br) : (F.set br K).set b K2 = (F.set b K2).set br K := set_comm (Ne.symm h)
theorem le_ch {F G : AHeap} {br : Nat} {K : ABlk} (h : AHeap.le F G) : AHeap.le (F.set br K) (G.set br K) := by
  intro c k hc
  by_cases c0 : c = br
  · subst c0; rw [AHeap.set_self] at hc ⊢; exact hc
  · rw [set_other c0] at hc ⊢; exact h c k hc
theorem le_s1 {F G : AHeap} {b : Nat} {A : ABlk} (h : AHeap.le F G) (hb : F b = none) : AHeap.le F (G.set b A) := by
  intro c k hc
  have c1 : c ≠ b := fun e => by rw [e, hb] at hc; cases hc
  rw [set_other c1]; exact h c k hc
theorem c_someTree (F : AHeap) (br n : Nat) (K : ABlk) (h : RdK n K) (hF : F br = none) (hn : n < 800000000) : ACalls Tryz.prog 94 [.ptr br 2 0 0] (F.set br K) fun r H' =>
    ∃ x l G K', r = .agg [x] ∧ Grow rClass 2 105 F G x l ∧ G br = none ∧ H' = G.set br K' ∧ RdK (n + 25) K' ∧ l.length ≤ 8 ∧ shortNames l := by
  refine acalls_of1 Tryz.func94 rfl (by kernel_rfl) rfl rfl (awp_sound (fz := fun _ => []) (im := fun _ => false) mixed _ _ _ _ (by kernel_rfl) ?_)
  simp +contextual -dsimp -implicitDefEqProofs (maxSteps := 5000000) only [go_sem, reduceIte, reduceCtorEq, Nat.reduceEqDiff, Nat.reduceBEq, Nat.reduceAdd, Nat.reduceLeDiff, Nat.reduceMul, Nat.reduceLT, Int.reduceEq, Int.reduceLT, Int.reduceLE]
  rintro b2 ⟨p1, p2, hb2⟩
  have n2 : ∀ K4, (F.set b2 K4) br = none := fun K4 => by rw [set_other p2]; exact hF
  rw [br_out p1]
  refine (c_goodTree _ br n K h (n2 _) (by omega)).mono ?_
  rintro _ _ ⟨x, l, G0, K1, rfl, hg0, hr0, rfl, hK1, hl1, hl8, hs⟩
  obtain ⟨G, hg, rfl, e2⟩ := grow_out hg0 hb2
  rw [set_other p2] at hr0
  -- the slice has a block of its own
  rcases hg with ⟨e, _, _⟩ | ⟨bx, clx, hbx, rfl, rfl⟩
  · rw [e] at hl1; simp at hl1
  simp +contextual -dsimp -implicitDefEqProofs (maxSteps := 5000000) only [go_sem, reduceIte, reduceCtorEq, Nat.reduceEqDiff, Nat.reduceBEq, Nat.reduceAdd, Nat.reduceLeDiff, Nat.reduceMul, Nat.reduceLT, Int.reduceEq, Int.reduceLT, Int.reduceLE]
  intro b3 hb3c
  obtain ⟨q1, q2, q3, q4, w1, w2, hb3f⟩ := hb3c
  have hb3 : (F.set bx ⟨2, 105, l.map rClass⟩) b3 = none := by rw [set_other w1]; exact hb3f
  rw [br_out q1]
  have n3 : ∀ (G : AHeap) (K2 K4 : ABlk), G br = none → ((G.set b2 K2).set b3 K4) br = none := fun G K2 K4 h => by rw [set_other q2, set_other p2]; exact h
  have hb3' := hb3
  have e2' := e2
  have hr' := hr0
  rw [set_none] at hb3' e2' hr'
  have w1 := hb3'.1
  have w2 := hb3'.2.1
  have w3 := e2'.1
  have w4 := e2'.2.1
  have w5 := hr'.1
  have w6 := hr'.2.1
  have fin : ∀ (l' : List Class) (K2 K3 : ABlk) (tm : Tm), l'.length = l.length → shortNames l' → RdK (n + 25) K3 → tm 2 = .ptr b2 1 0 0 → retR Tryz.prog [.cell 2 24] (fun r H' => ∃ x l G K', r = .agg [x] ∧ Grow rClass 2 105 F G x l ∧ G br = none ∧ H' = G.set br K' ∧ RdK (n + 25) K' ∧ l.length ≤ 8 ∧ shortNames l) tm
      ((((F.set bx ⟨2, 105, l'.map rClass⟩).set b2 ⟨1, 24, [[.sl bx 2 0 l.length clx]]⟩).set b3 K2).set br K3) := by
    intro l' K2 K3 tm hl' hs' hK h2
    have f2 : (F.set bx ⟨2, 105, l'.map rClass⟩) b2 = none := by rw [set_other w3]; exact hb2
    have f3 : (F.set bx ⟨2, 105, l'.map rClass⟩) b3 = none := by rw [set_other w1]; exact hb3'.2.2
    refine retR_less (l := [.agg [.sl bx 2 0 l.length clx]]) (H' := (F.set bx ⟨2, 105, l'.map rClass⟩).set br K3) ?_ (le_ch (le_s1 (le_s1 (AHeap.le_refl _) f2) f3)) ⟨_, l', _, K3, rfl, .inr ⟨bx, clx, hbx, by rw [hl'], rfl⟩, by rw [set_other w5]; exact hF, rfl, hK, by omega, hs'⟩
    simp only [resA, go_sem, reduceIte, reduceCtorEq, Nat.reduceEqDiff, Nat.reduceBEq, Nat.reduceAdd, Nat.reduceLeDiff, Nat.reduceMul, Nat.reduceLT, Int.reduceEq, Int.reduceLT, Int.reduceLE, p1, p2, q1, q2, q3, q4, h2]
  refine k_pick l.length hK1 (n3 _ _ _ hr0) (by omega) rfl fun v K2 v0 v1 v2 hK2 => ?_
  have vl := v1 (by omega)
  have vn : v.toNat < l.length := by omega
  simp +contextual -dsimp -implicitDefEqProofs (maxSteps := 5000000) only [go_sem, reduceIte, reduceCtorEq, Nat.reduceEqDiff, Nat.reduceBEq, Nat.reduceAdd, Nat.reduceLeDiff, Nat.reduceMul, Nat.reduceLT, Int.reduceEq, Int.reduceLT, Int.reduceLE, p1, p2, q1, q2, q3, q4, w1, w2, w3, w4, w5, w6]
  refine k_pick 24 hK2 (n3 _ _ _ hr0) (by omega) rfl fun z K3 z0 z1 z2 hK3 => ?_
  by_cases c0 : z = 0
  · simp +contextual -dsimp -implicitDefEqProofs (maxSteps := 5000000) only [go_sem, reduceIte, reduceCtorEq, Nat.reduceEqDiff, Nat.reduceBEq, Nat.reduceAdd, Nat.reduceLeDiff, Nat.reduceMul, Nat.reduceLT, Int.reduceEq, Int.reduceLT, Int.reduceLE, c0, p1, p2, q1, q2, q3, q4, w1, w2, w3, w4, w5, w6]
    refine draw_intro [0, 1, 0, 0, 0, 3, 0, 0, 2] _ (by kernel_rfl) (le_set (n3 _ _ _ hr0)) ?_
    simp +contextual -dsimp -implicitDefEqProofs (maxSteps := 5000000) only [go_sem, reduceIte, reduceCtorEq, Nat.reduceEqDiff, Nat.reduceBEq, Nat.reduceAdd, Nat.reduceLeDiff, Nat.reduceMul, Nat.reduceLT, Int.reduceEq, Int.reduceLT, Int.reduceLE, c0, p1, p2, q1, q2, q3, q4, w1, w2, w3, w4, w5, w6]
    refine k_of [[], [97, 110, 121], [65], [116, 111, 111, 108, 111, 110, 103]] _ hK3 (n3 _ _ _ hr0) (by omega) (by simp) rfl rfl fun s K4 hsm hK4 => ⟨le_set (n3 _ _ _ hr0), ?_⟩
    have hsl : s.length ≤ 10 := by simp at hsm; rcases hsm with rfl | rfl | rfl | rfl <;> decide
    simp +contextual -dsimp -implicitDefEqProofs (maxSteps := 5000000) only [go_sem, reduceIte, reduceCtorEq, Nat.reduceEqDiff, Nat.reduceBEq, Nat.reduceAdd, Nat.reduceLeDiff, Nat.reduceMul, Nat.reduceLT, Int.reduceEq, Int.reduceLT, Int.reduceLE, c0, p1, p2, q1, q2, q3, q4, w1, w2, w3, w4, w5, w6, v0, vl, vn]
    rw [wrO_y (y := { l.getD v.toNat default with name := s }) vn rfl]
    simp +contextual -dsimp -implicitDefEqProofs (maxSteps := 5000000) only [go_sem, reduceIte, reduceCtorEq, Nat.reduceEqDiff, Nat.reduceBEq, Nat.reduceAdd, Nat.reduceLeDiff, Nat.reduceMul, Nat.reduceLT, Int.reduceEq, Int.reduceLT, Int.reduceLE, c0, p1, p2, q1, q2, q3, q4, w1, w2, w3, w4, w5, w6, v0, vl, vn]
    refine fin (l.set v.toNat { l.getD v.toNat default with name := s }) _ K4 _ (by simp) (fun c hc => ?_) (rdk_mono hK4 (by omega)) ?_
    · rcases List.mem_or_eq_of_mem_set hc with q | rfl
      · exact hs c q
      · exact hsl
    · rfl
  · by_cases c1 : z = 1
    · simp +contextual -dsimp -implicitDefEqProofs (maxSteps := 5000000) only [go_sem, reduceIte, reduceCtorEq, Nat.reduceEqDiff, Nat.reduceBEq, Nat.reduceAdd, Nat.reduceLeDiff, Nat.reduceMul, Nat.reduceLT, Int.reduceEq, Int.reduceLT, Int.reduceLE, c0, c1, p1, p2, q1, q2, q3, q4, w1, w2, w3, w4, w5, w6]
      refine draw_intro [0, 1, 0, 0, 0, 0, 3, 0, 0, 2] _ (by kernel_rfl) (le_set (n3 _ _ _ hr0)) ?_
      simp +contextual -dsimp -implicitDefEqProofs (maxSteps := 5000000) only [go_sem, reduceIte, reduceCtorEq, Nat.reduceEqDiff, Nat.reduceBEq, Nat.reduceAdd, Nat.reduceLeDiff, Nat.reduceMul, Nat.reduceLT, Int.reduceEq, Int.reduceLT, Int.reduceLE, c0, p1, p2, q1, q2, q3, q4, w1, w2, w3, w4, w5, w6]
      refine k_one [v, -1, 8, -2] _ hK3 (n3 _ _ _ hr0) (by omega) (by simp) rfl rfl fun s K4 hsm hK4 => ⟨le_set (n3 _ _ _ hr0), ?_⟩
      simp +contextual -dsimp -implicitDefEqProofs (maxSteps := 5000000) only [go_sem, reduceIte, reduceCtorEq, Nat.reduceEqDiff, Nat.reduceBEq, Nat.reduceAdd, Nat.reduceLeDiff, Nat.reduceMul, Nat.reduceLT, Int.reduceEq, Int.reduceLT, Int.reduceLE, c0, p1, p2, q1, q2, q3, q4, w1, w2, w3, w4, w5, w6, v0, vl, vn]
      rw [wrO_y (y := { l.getD v.toNat default with parent := s }) vn rfl]
      simp +contextual -dsimp -implicitDefEqProofs (maxSteps := 5000000) only [go_sem, reduceIte, reduceCtorEq, Nat.reduceEqDiff, Nat.reduceBEq, Nat.reduceAdd, Nat.reduceLeDiff, Nat.reduceMul, Nat.reduceLT, Int.reduceEq, Int.reduceLT, Int.reduceLE, c0, p1, p2, q1, q2, q3, q4, w1, w2, w3, w4, w5, w6, v0, vl, vn]
      refine fin (l.set v.toNat { l.getD v.toNat default with parent := s }) _ K4 _ (by simp) (fun c hc => ?_) (rdk_mono hK4 (by omega)) ?_
      · rcases List.mem_or_eq_of_mem_set hc with q | rfl
        · exact hs c q
        · exact hs (l.getD v.toNat default) (by rw [List.getD_eq_getElem?_getD, List.getElem?_eq_getElem vn]; exact List.getElem_mem vn)
      · rfl
    · by_cases c2 : z = 2
      · simp +contextual -dsimp -implicitDefEqProofs (maxSteps := 5000000) only [go_sem, reduceIte, reduceCtorEq, Nat.reduceEqDiff, Nat.reduceBEq, Nat.reduceAdd, Nat.reduceLeDiff, Nat.reduceMul, Nat.reduceLT, Int.reduceEq, Int.reduceLT, Int.reduceLE, c0, c1, c2, p1, p2, q1, q2, q3, q4, w1, w2, w3, w4, w5, w6]
        refine retR_less (l := [.agg [.vsl [] true]]) (H' := F.set br K3) ?_ (le_ch (le_s1 (le_s1 (le_s1 (AHeap.le_refl _) hbx) hb2) hb3f)) ⟨_, [], F, K3, rfl, grow_nil, hF, rfl, rdk_mono hK3 (by omega), by simp, fun c hc => by cases hc⟩
        simp only [resA, go_sem, reduceIte, reduceCtorEq, Nat.reduceEqDiff, Nat.reduceBEq, Nat.reduceAdd, Nat.reduceLeDiff, Nat.reduceMul, Nat.reduceLT, Int.reduceEq, Int.reduceLT, Int.reduceLE, p1, p2, q1, q2, q3, q4, w1, w2, w3, w4, w5, w6]
      · simp +contextual -dsimp -implicitDefEqProofs (maxSteps := 5000000) only [go_sem, reduceIte, reduceCtorEq, Nat.reduceEqDiff, Nat.reduceBEq, Nat.reduceAdd, Nat.reduceLeDiff, Nat.reduceMul, Nat.reduceLT, Int.reduceEq, Int.reduceLT, Int.reduceLE, c0, c1, c2, p1, p2, q1, q2, q3, q4, w1, w2, w3, w4, w5, w6]
        refine fin l _ K3 _ rfl hs (rdk_mono hK3 (by omega)) ?_
        rfl
end Go.Proofs.YtbjgilehnlpmaaaGreat
end
section
set_option linter.unusedVariables false
set_option linter.unusedSimpArgs false
namespace Go.Proofs.YtbjgilehnlpmaaaGreat
open Go Go.Sim
set_option maxRecDepth 100000

theorem c_someTreeF (F : AHeap) (br n : Nat) (K : ABlk) (h : RdK n K) (hF : F br = none) (hn : n < 800000000) : ACalls Tryz.prog 94 [.ptr br 2 0 0] (F.set br K) fun r H' =>
    ∃ l cl K', r = aTree l cl ∧ H' = F.set br K' ∧ RdK (n + 25) K' ∧ l.length ≤ 8 ∧ shortNames l := by
  refine acalls_fz (c_someTree F br n K h hF hn) ?_
  rintro _ _ ⟨x, l, G, K', rfl, hg, hr, rfl, hK, hl, hs⟩
  have hg' := grow_in (K := K') hg hr
  obtain ⟨cl, hz⟩ := grow_fz hg'
  exact ⟨_, F.set br K', grow_le hg', fz_agg (.cons hz .nil), l, cl, K', rfl, rfl, hK, hl, hs⟩
end Go.Proofs.YtbjgilehnlpmaaaGreat
end
section
set_option linter.unusedVariables false
set_option linter.unusedSimpArgs false
namespace Go.Proofs.YtbjgilehnlpmaaaGreat
open Go Go.Sim
set_option maxRecDepth 100000

theorem bfsG_dch {h : List Fault} (ho : heapOk h) : ∀ (n : Nat) (pre : List Int) (f : Int), 0 ≤ f → f < h.length → f < n → (∀ a ∈ pre, f < a) → bfsG h n pre.length (pre ++ [f]) = pre ++ dchF h f
  | 0, pre, f, h0, h1, h2, _ => by omega
  | n + 1, pre, f, h0, h1, h2, h3 => by
    obtain ⟨o1, o2, o3⟩ := ho f.toNat (by omega)
    have e : (pre ++ [f]).getD pre.length default = f := by simp [List.getD_eq_getElem?_getD]
    have e1 : causeOf h f = -1 := o1
    have e2 : -1 ≤ ctxOf h f := o2
    have e3 : ctxOf h f < f := by have : ctxOf h f < f.toNat := o3
                                  omega
    simp only [bfsG]
    rw [if_pos (by simp), e, e1, dchF_step ho h0 h1]
    have a1 : addF (pre ++ [f]) (-1) = pre ++ [f] := by unfold addF; rw [if_neg (by omega)]
    rw [a1]
    by_cases hg : ctxOf h f < 0
    · have a2 : addF (pre ++ [f]) (ctxOf h f) = pre ++ [f] := by unfold addF; rw [if_neg (by omega)]
      rw [a2, dchF_neg hg]
      cases n with
      | zero => rfl
      | succ n => simp only [bfsG]; rw [if_neg (by simp)]
    · have a2 : addF (pre ++ [f]) (ctxOf h f) = (pre ++ [f]) ++ [ctxOf h f] := by
        have hany : ((pre ++ [f]).any fun x => decide (ctxOf h f = x)) = false := by
          rw [List.any_eq_false]
          intro a ha
          rcases List.mem_append.1 ha with q | q
          · have := h3 a q
            have : ¬ ctxOf h f = a := by omega
            simp [this]
          · simp at q
            have : ¬ ctxOf h f = a := by omega
            simp [this]
        unfold addF
        rw [if_pos ⟨by omega, hany⟩]
      rw [a2]
      have := bfsG_dch ho n (pre ++ [f]) (ctxOf h f) (by omega) (by omega) (by omega) (fun a ha => by
        rcases List.mem_append.1 ha with q | q
        · have := h3 a q; omega
        · simp at q; subst q; exact e3)
      rw [List.length_append] at this
      simpa using this
theorem bfsF_dch {h : List Fault} (ho : heapOk h) {f : Int} (h0 : 0 ≤ f) (h1 : f < h.length) : bfsF h f = dchF h f :=
  bfsG_dch ho (h.length + 1) [] f h0 h1 (by omega) (fun a ha => by cases ha)
theorem dchG_dec {h : List Fault} (ho : heapOk h) : ∀ (n : Nat) (f : Int), f < h.length → (dchG h n f).Pairwise (fun a b => b < a) ∧ ∀ a ∈ dchG h n f, a ≤ f
  | 0, f, _ => ⟨.nil, fun a ha => by cases ha⟩
  | n + 1, f, h1 => by
    simp only [dchG]
    split
    · rename_i h0
      obtain ⟨o1, o2, o3⟩ := ho f.toNat (by omega)
      have e3 : ctxOf h f < f := by have : ctxOf h f < f.toNat := o3
                                    omega
      obtain ⟨q1, q2⟩ := dchG_dec ho n (ctxOf h f) (by omega)
      refine ⟨.cons (fun a ha => by have := q2 a ha; omega) q1, fun a ha => ?_⟩
      rcases List.mem_cons.1 ha with q | q
      · omega
      · have := q2 a q; omega
    · exact ⟨.nil, fun a ha => by cases ha⟩
theorem fold_insF : ∀ (d out : List Int), d.Pairwise (fun a b => b < a) → (∀ a ∈ d, ∀ b ∈ out, a < b) → d.foldl insF out = d.reverse ++ out
  | [], out, _, _ => rfl
  | v :: d, out, hp, hm => by
    rw [List.foldl_cons]
    have hi : insF out v = v :: out := by
      have hk : insK out v = 0 := by
        cases out with
        | nil => rfl
        | cons b out => have := hm v (List.mem_cons_self ..) b (List.mem_cons_self ..)
                        have : ¬ b < v := by omega
                        simp [insK, this]
      unfold insF
      rw [hk, if_pos]
      · simp
      · cases out with
        | nil => exact .inl rfl
        | cons b out => have := hm v (List.mem_cons_self ..) b (List.mem_cons_self ..)
                        right; simp; omega
    obtain ⟨p1, p2⟩ := List.pairwise_cons.1 hp
    rw [hi, fold_insF d (v :: out) p2 (fun a ha b hb => ?_)]
    · simp
    · rcases List.mem_cons.1 hb with q | q
      · subst q; exact p1 a ha
      · exact hm a (List.mem_cons_of_mem _ ha) b q
theorem sortI_dec {d : List Int} (hp : d.Pairwise (fun a b => b < a)) : sortI d = d.reverse := by
  have s1 : (sortI d).Pairwise (fun a b => a ≤ b) := by
    have := List.pairwise_mergeSort (le := fun x y : Int => decide (x ≤ y)) (fun a b c h1 h2 => by simp at *; omega) (fun a b => by simp; omega) d
    exact this.imp (fun h => by simpa using h)
  have s2 : d.reverse.Pairwise (fun a b => a ≤ b) := by
    rw [List.pairwise_reverse]
    exact hp.imp (fun h => by omega)
  have pm : (sortI d).Perm d.reverse := (List.mergeSort_perm d _).trans (List.reverse_perm d).symm
  exact pm.eq_of_pairwise (fun a b _ _ h1 h2 => by omega) s1 s2
theorem sort_same {h : List Fault} (ho : heapOk h) {f : Int} (h0 : 0 ≤ f) (h1 : f < h.length) : sortI (bfsF h f) = sortedF (dchF h f) := by
  have hd := (dchG_dec ho (f + 1).toNat f h1).1
  rw [bfsF_dch ho h0 h1]
  unfold sortedF
  have := fold_insF (dchF h f) [] hd (fun a _ b hb => by cases hb)
  rw [this, List.append_nil]
  exact sortI_dec hd
theorem res_same {t : List Class} {s : Clo} {k : Nat} (hc : CloOk t s k) : resM s = resX s := by
  unfold resM resX
  by_cases h0 : 0 ≤ s.cur
  · rw [if_pos h0, if_pos h0]
    rw [sort_same hc.ho h0 hc.cur]
  · rw [if_neg h0, if_neg h0]
theorem resEq_refl (a : Res) : resEq a a = true := by
  simp [resEq]
end Go.Proofs.YtbjgilehnlpmaaaGreat
end
section
set_option linter.unusedVariables false
set_option linter.unusedSimpArgs false
namespace Go.Proofs.YtbjgilehnlpmaaaGreat
open Go Go.Sim
set_option maxRecDepth 100000

/-- The calls among exits. -/
def callsF (l : List Exi) : List Exi := l.filter fun e => decide (e.kind = 0)
theorem calls_take {l : List Exi} {k : Nat} (h : k < l.length) : callsF (l.take (k + 1)) = callsF (l.take k) ++ (if (l.getD k default).kind = 0 then [l.getD k default] else []) := by
  have e : l.getD k default = l[k] := by simp [List.getD_eq_getElem?_getD, h]
  rw [List.take_succ_eq_append_getElem h, callsF, List.filter_append, e, callsF]
  congr 1
  by_cases c : l[k].kind = 0 <;> simp [c]
theorem calls_le (l : List Exi) : (callsF l).length ≤ l.length := List.length_filter_le ..
theorem step_calm (t : List Class) (log : List Int) (fs : List Fault) (e : Exi) (h : e.kind ≠ 3) : stepX t ⟨log, fs, -1⟩ e = ⟨log ++ (callsF [e]).map (·.a), fs, -1⟩ := by
  unfold stepX callsF
  by_cases c0 : e.kind = 0
  · simp [c0]
  · by_cases c1 : e.kind = 1
    · simp [c1]
    · by_cases c2 : e.kind = 2
      · simp [c2]
      · simp [c0, c1, c2, h]
theorem fold_calm (t : List Class) : ∀ (m : List Exi) (log : List Int) (fs : List Fault), (∀ e ∈ m, e.kind ≠ 3) → m.foldl (stepX t) ⟨log, fs, -1⟩ = ⟨log ++ (callsF m).map (·.a), fs, -1⟩
  | [], log, fs, _ => by simp [callsF]
  | e :: m, log, fs, h => by
    rw [List.foldl_cons, step_calm t log fs e (h e (List.mem_cons_self ..)), fold_calm t m _ _ (fun a ha => h a (List.mem_cons_of_mem _ ha))]
    have : callsF (e :: m) = callsF [e] ++ callsF m := by rw [callsF, callsF, callsF, ← List.filter_append]; rfl
    rw [this, List.map_append, List.append_assoc]
theorem calls_rev (l : List Exi) : callsF l.reverse = (callsF l).reverse := by simp [callsF, List.filter_reverse]
/-- With no start and no raise the end is calm, and the log tells the calls backwards. -/
theorem res_calm {t : List Class} {l : List Exi} {x : Sta} (hx : x.has = false) (h : ∀ e ∈ l, e.kind ≠ 3) : resX (closeX t l x) = ⟨((callsF l).reverse).map (·.a), 0, 0, []⟩ := by
  have e : closeX t l x = ⟨((callsF l).reverse).map (·.a), [], -1⟩ := by
    unfold closeX startX
    rw [if_neg (by simp [hx]), fold_calm t _ _ _ (fun a ha => h a (List.mem_reverse.1 ha)), calls_rev, List.nil_append]
  rw [e]
  simp [resX]
end Go.Proofs.YtbjgilehnlpmaaaGreat
end
section
set_option linter.unusedVariables false
set_option linter.unusedSimpArgs false
namespace Go.Proofs.YtbjgilehnlpmaaaGreat
open Go Go.Sim
set_option maxRecDepth 100000

/-- Lines with their blocks: the first line, its block, and the lines behind it. -/
inductive Fo where
  | nil
  | node (k a b : Int) (kids rest : Fo)
  deriving Inhabited
def Fo.size : Fo → Nat
  | .nil => 0
  | .node _ _ _ kids rest => 1 + kids.size + rest.size
def Fo.flat : Fo → Int → List Line
  | .nil, _ => []
  | .node k a b kids rest, d => ⟨d, k, a, b⟩ :: (kids.flat (d + 1) ++ rest.flat d)
theorem flat_len : ∀ (f : Fo) (d : Int), (f.flat d).length = f.size
  | .nil, _ => rfl
  | .node k a b kids rest, d => by simp only [Fo.flat, Fo.size, List.length_cons, List.length_append, flat_len kids, flat_len rest]; omega
theorem flat_deep : ∀ (f : Fo) (d : Int), ∀ x ∈ f.flat d, d ≤ x.depth
  | .nil, _, x, h => by simp [Fo.flat] at h
  | .node k a b kids rest, d, x, h => by
    simp only [Fo.flat, List.mem_cons, List.mem_append] at h
    rcases h with rfl | h | h
    · exact Int.le_refl _
    · have := flat_deep kids (d + 1) x h; omega
    · exact flat_deep rest d x h
/-- What comes behind a block is less deep. -/
def Low (d : Int) (post : List Line) : Prop := ∀ l r, post = l :: r → l.depth < d
theorem low_nil (d : Int) : Low d [] := fun l r h => by cases h
theorem low_flat {f : Fo} {d : Int} {post : List Line} (h : Low d post) : Low (d + 1) (f.flat d ++ post) := by
  intro l r e
  cases f with
  | nil => have := h l r e; omega
  | node k a b kids rest =>
    simp only [Fo.flat, List.cons_append] at e
    injection e with e1 e2
    rw [← e1]
    show d < d + 1
    omega
/-- Where a line's block ends. -/
def endP (p : List Line) (i : Nat) : Nat := i + 1 + ((p.drop (i + 1)).takeWhile fun x => decide ((p.getD i default).depth < x.depth)).length
theorem endP_le {p : List Line} {i : Nat} (h : i < p.length) : endP p i ≤ p.length := by
  unfold endP
  have h1 : ((p.drop (i + 1)).takeWhile fun x => decide ((p.getD i default).depth < x.depth)).length ≤ (p.drop (i + 1)).length := (List.takeWhile_sublist _).length_le
  rw [List.length_drop] at h1
  omega
theorem endP_gt (p : List Line) (i : Nat) : i < endP p i := by unfold endP; omega
theorem endP_is {p : List Line} {i k : Nat} (h0 : i < k) (h1 : k ≤ p.length) (h2 : ∀ j, i < j → j < k → (p.getD i default).depth < (p.getD j default).depth) (h3 : k < p.length → ¬ (p.getD i default).depth < (p.getD k default).depth) : endP p i = k := by
  unfold endP
  generalize hd : (p.getD i default).depth = d at h2 h3
  have e : p.drop (i + 1) = (p.take k).drop (i + 1) ++ p.drop k := by
    rw [List.drop_take]
    have : p.drop k = (p.drop (i + 1)).drop (k - (i + 1)) := by rw [List.drop_drop]; congr 1; omega
    rw [this, List.take_append_drop]
  have l1 : ((p.take k).drop (i + 1)).length = k - (i + 1) := by simp; omega
  have a1 : ∀ x ∈ (p.take k).drop (i + 1), decide (d < x.depth) = true := by
    intro x hx
    obtain ⟨j, hj, rfl⟩ := List.mem_iff_getElem.1 hx
    have hj' : i + 1 + j < k := by omega
    have := h2 (i + 1 + j) (by omega) hj'
    rw [List.getD_eq_getElem?_getD, List.getElem?_eq_getElem (by omega)] at this
    simpa using this
  rw [e, List.takeWhile_append_of_pos a1, List.length_append, l1]
  have : (p.drop k).takeWhile (fun x => decide (d < x.depth)) = [] := by
    rcases Nat.lt_or_ge k p.length with q | q
    · rw [List.drop_eq_getElem_cons q]
      have := h3 q
      rw [List.getD_eq_getElem?_getD, List.getElem?_eq_getElem q] at this
      simp only [Option.getD_some] at this
      rw [List.takeWhile_cons_of_neg (by simpa using this)]
    · rw [List.drop_eq_nil_of_le q]; rfl
  rw [this]
  simp
  omega

/-- At a place of a program stand lines of a depth, with their blocks, and no others of their block behind. -/
def At (p : List Line) (i : Nat) (d : Int) (f : Fo) : Prop := ∃ pre post, p = pre ++ (f.flat d ++ post) ∧ pre.length = i ∧ Low d post
section
variable {p : List Line} {i : Nat} {d k a b : Int} {f ks re : Fo}
theorem At.len (h : At p i d f) : i + f.size ≤ p.length := by
  obtain ⟨pre, post, rfl, rfl, _⟩ := h
  simp [flat_len]
theorem At.head (h : At p i d (.node k a b ks re)) : i < p.length ∧ p.getD i default = ⟨d, k, a, b⟩ := by
  have hl := h.len
  refine ⟨by simp only [Fo.size] at hl; omega, ?_⟩
  obtain ⟨pre, post, rfl, rfl, _⟩ := h
  simp [Fo.flat]
theorem At.kids (h : At p i d (.node k a b ks re)) : At p (i + 1) (d + 1) ks := by
  obtain ⟨pre, post, rfl, rfl, hp⟩ := h
  exact ⟨pre ++ [⟨d, k, a, b⟩], re.flat d ++ post, by simp [Fo.flat], by simp, low_flat hp⟩
theorem At.rest (h : At p i d (.node k a b ks re)) : At p (i + 1 + ks.size) d re := by
  obtain ⟨pre, post, rfl, rfl, hp⟩ := h
  exact ⟨pre ++ ⟨d, k, a, b⟩ :: ks.flat (d + 1), post, by simp [Fo.flat], by simp [flat_len]; omega, hp⟩
theorem At.stop (h : At p i d .nil) (hi : i < p.length) : (p.getD i default).depth < d := by
  obtain ⟨pre, post, rfl, rfl, hp⟩ := h
  cases post with
  | nil => simp [Fo.flat] at hi
  | cons l r => have := hp l r rfl; simpa [Fo.flat] using this
theorem At.deep (h : At p i d f) {j : Nat} (h0 : i ≤ j) (h1 : j < i + f.size) : d ≤ (p.getD j default).depth := by
  have hl := h.len
  obtain ⟨pre, post, rfl, rfl, hp⟩ := h
  have e : (pre ++ (f.flat d ++ post)).getD j default = (f.flat d).getD (j - pre.length) default := by
    simp only [List.getD_eq_getElem?_getD]
    rw [List.getElem?_append_right h0, List.getElem?_append_left (by rw [flat_len]; omega)]
  rw [e, List.getD_eq_getElem?_getD, List.getElem?_eq_getElem (by rw [flat_len]; omega)]
  exact flat_deep f d _ (List.getElem_mem _)
theorem At.low (h : At p i d f) (hi : i + f.size < p.length) : (p.getD (i + f.size) default).depth < d := by
  obtain ⟨pre, post, rfl, rfl, hp⟩ := h
  cases post with
  | nil => simp [flat_len] at hi
  | cons l r =>
    have := hp l r rfl
    simp only [List.getD_eq_getElem?_getD]
    rw [List.getElem?_append_right (by omega), List.getElem?_append_right (by rw [flat_len]; omega), flat_len]
    simpa using this
theorem At.top (h : At p i d f) {j : Nat} (hj : i ≤ j) (h2 : j < p.length) (h3 : j ≤ i + f.size) (hf : ∀ k a b kids rest, f = .node k a b kids rest → j = i → (p.getD j default).depth ≤ d) : j = i → (p.getD j default).depth ≤ d := by
  intro e
  subst e
  cases f with
  | nil => have := h.stop h2; omega
  | node k a b kids rest => exact hf _ _ _ _ _ rfl rfl
theorem At.first (h : At p i d f) (hi : i < p.length) : (p.getD i default).depth ≤ d := by
  cases f with
  | nil => have := h.stop hi; omega
  | node k a b kids rest => rw [h.head.2]; exact Int.le_refl _
theorem At.endP (h : At p i d (.node k a b ks re)) : endP p i = i + 1 + ks.size := by
  have hk := h.kids
  have hl := hk.len
  have hd : (p.getD i default).depth = d := by rw [h.head.2]
  refine endP_is (by omega) hl (fun j h1 h2 => ?_) (fun h1 => ?_)
  · have := hk.deep (j := j) (by omega) (by omega)
    omega
  · have := h.rest.first h1
    omega
end
theorem at_top {f : Fo} {p : List Line} (h : p = f.flat 0) : At p 0 0 f := ⟨[], [], by simp [h], rfl, low_nil _⟩

def opensK (k : Int) : Bool := inR k 7 12
def followsK (k : Int) : Bool := inR k 8 10
def jumpsK (k : Int) : Bool := inR k 2 6
/-- The places of the first lines that go on with a try. -/
def chainN : Fo → Nat → List Nat
  | .nil, _ => []
  | .node k _ _ kids rest, i => if followsK k = true then i :: chainN rest (i + 1 + kids.size) else []
def skipF : Fo → Fo
  | .nil => .nil
  | .node k a b kids rest => if followsK k = true then skipF rest else .node k a b kids rest
def skipN : Fo → Nat → Nat
  | .nil, i => i
  | .node k _ _ kids rest, i => if followsK k = true then skipN rest (i + 1 + kids.size) else i
def headsK : Fo → List Int
  | .nil => []
  | .node k _ _ _ rest => if followsK k = true then k :: headsK rest else []
/-- The places of the lines of a block. -/
def sibN : Fo → Nat → List Nat
  | .nil, _ => []
  | .node _ _ _ kids rest, i => i :: sibN rest (i + 1 + kids.size)
def tailP (p : List Line) (d : Int) : Nat → Nat → List Nat
  | 0, _ => []
  | n + 1, k => if k < p.length ∧ (p.getD k default).depth = d ∧ followsK (p.getD k default).kind = true then k :: tailP p d n (endP p k) else []
def chainP (p : List Line) (i : Nat) : List Nat := i :: tailP p (p.getD i default).depth p.length (endP p i)
def sibP (p : List Line) (to : Nat) : Nat → Nat → List Nat
  | 0, _ => []
  | n + 1, i => if i < to then i :: sibP p to n (endP p i) else []
theorem tailP_at {p : List Line} : ∀ (f : Fo) (n i : Nat) (d : Int), At p i d f → p.length ≤ n + i → tailP p d n i = chainN f i
  | .nil, n, i, d, h, hn => by
    cases n with
    | zero => rfl
    | succ n =>
      simp only [tailP, chainN]
      rw [if_neg]
      rintro ⟨h1, h2, _⟩
      have := h.stop h1
      omega
  | .node k a b kids rest, n, i, d, h, hn => by
    have hh := h.head
    cases n with
    | zero => omega
    | succ n =>
      simp only [tailP, chainN]
      rw [hh.2]
      by_cases hk : followsK k = true
      · rw [if_pos ⟨hh.1, rfl, hk⟩, if_pos hk, h.endP]
        rw [tailP_at rest n _ d h.rest (by omega)]
      · rw [if_neg (fun q => hk q.2.2), if_neg hk]
theorem chainP_at {p : List Line} {i : Nat} {d k a b : Int} {kids rest : Fo} (h : At p i d (.node k a b kids rest)) : chainP p i = i :: chainN rest (i + 1 + kids.size) := by
  have hd : (p.getD i default).depth = d := by rw [h.head.2]
  unfold chainP
  rw [hd, h.endP, tailP_at rest _ _ d h.rest (by omega)]
theorem sibP_at {p : List Line} : ∀ (f : Fo) (n i : Nat) (d : Int), At p i d f → f.size ≤ n → sibP p (i + f.size) n i = sibN f i
  | .nil, n, i, d, h, hn => by
    cases n with
    | zero => rfl
    | succ n => simp only [sibP, sibN]; rw [if_neg (by simp [Fo.size])]
  | .node k a b kids rest, n, i, d, h, hn => by
    simp only [Fo.size] at hn
    cases n with
    | zero => omega
    | succ n =>
      simp only [sibP, sibN]
      rw [if_pos (by simp only [Fo.size]; omega), h.endP]
      have := sibP_at rest n (i + 1 + kids.size) d h.rest (by omega)
      have e : i + (Fo.node k a b kids rest).size = i + 1 + kids.size + rest.size := by simp only [Fo.size]; omega
      rw [e, this]
section
variable {p : List Line} {i : Nat} {d : Int}
theorem At.skip : ∀ {f : Fo} {i : Nat}, At p i d f → At p (skipN f i) d (skipF f)
  | .nil, i, h => h
  | .node k a b kids rest, i, h => by
    simp only [skipN, skipF]
    split
    · exact At.skip h.rest
    · exact h
theorem skipN_add : ∀ (f : Fo) (i : Nat), skipN f i + (skipF f).size = i + f.size
  | .nil, i => rfl
  | .node k a b kids rest, i => by
    simp only [skipN, skipF]
    split
    · rw [skipN_add rest]; simp only [Fo.size]; omega
    · rfl
theorem skipF_size : ∀ (f : Fo), (skipF f).size ≤ f.size
  | .nil => Nat.le_refl _
  | .node k a b kids rest => by
    simp only [skipF]
    split
    · have := skipF_size rest; simp only [Fo.size]; omega
    · exact Nat.le_refl _
theorem skipF_none : ∀ (f : Fo), skipF f = .nil ∨ ∃ k a b kids rest, skipF f = .node k a b kids rest ∧ followsK k = false
  | .nil => .inl rfl
  | .node k a b kids rest => by
    simp only [skipF]
    split
    · exact skipF_none rest
    · rename_i h; exact .inr ⟨k, a, b, kids, rest, rfl, by simpa using h⟩
/-- Behind the last line of a try. -/
theorem chain_end : ∀ (f : Fo) (i j : Nat), At p i d f → endP p j = i → endP p ((j :: chainN f i).getLastD 0) = skipN f i
  | .nil, i, j, h, hj => by simpa [chainN, skipN] using hj
  | .node k a b kids rest, i, j, h, hj => by
    simp only [chainN, skipN]
    split
    · have := chain_end rest (i + 1 + kids.size) i h.rest h.endP
      simpa using this
    · simpa using hj
end
end Go.Proofs.YtbjgilehnlpmaaaGreat
end
section
set_option linter.unusedVariables false
set_option linter.unusedSimpArgs false
namespace Go.Proofs.YtbjgilehnlpmaaaGreat
open Go Go.Sim Go.ChangeShapes Go.WideShapes Go.ChangeAt Go.RowKit Go.Deep
set_option maxRecDepth 100000
set_option linter.unusedVariables false

section
variable {H : Type} {enc : TypeId × Value → H} {P : Program} {w : World} {base : Nat} {spare : Nat → Bool} {held : Bool}
/-- A slice of structs of fields of one cell, opened (after the guide's extra-structs). -/
theorem open_slice_fields {t e : TypeId} {fs : Array Field} {fuel : Nat} {cs : List Value} {x : DataW H × List MemPlace} (ht : P.underlying t = some (.slice e)) (he : P.underlying e = some (.struct fs))
    (hone : oneCellFields P fs = true) (hC : P.cellsOf e = fs.size) (h : DataW.trod enc P w base spare held fuel t cs = some x) :
    (cs = [.slice none 0 0] ∧ x = (.nil, [])) ∨
    ∃ (a : Addr) (len cap m : Nat) (D : Nat → DataW H) (Pl : Nat → List MemPlace), cs = [.slice (some a) len cap] ∧ base ≤ a.block ∧ len ≤ cap ∧ cap ≤ maxLen ∧ m = (if spare a.block then cap else len) ∧
      x = (.slice ((List.range len).map D) ((List.range (m - len)).map fun j => D (len + j)), MemPlace.row a (m * fs.size) ++ (List.range m).flatMap Pl) ∧
      ∀ i, i < m → ∃ (ys : List (DataW H × List MemPlace)) (n : Nat), D i = .agg (ys.map (·.1)) ∧ Pl i = ys.flatMap (·.2) ∧ ys.length = fs.size ∧
        ∀ (j : Nat) (f : Field), fs[j]? = some f → ∃ (v : Value) (y : DataW H × List MemPlace), w.cell? (a.add (i * fs.size + j)) = some v ∧ ys[j]? = some y ∧ DataW.trod enc P w base spare held n f.type [v] = some y := by
  rcases open_slice ht h with h0 | ⟨a, len, cap, m, n, D, Pl, hcs, hb, hl, hm, hmm, hx, hi⟩
  · exact .inl h0
  · refine .inr ⟨a, len, cap, m, D, Pl, hcs, hb, hl, hm, hmm, by rw [hC] at hx; exact hx, fun i him => ?_⟩
    obtain ⟨cs', hc, ht'⟩ := hi i him
    rw [hC] at hc
    obtain ⟨ys, n', hn', hy, hlen, hyl, hf⟩ := DataW.trod_struct he ht'
    obtain ⟨_, hcl, hat⟩ := World.cells?_some hc
    simp only [Prod.mk.injEq] at hy
    refine ⟨ys, n', hy.1, hy.2, hyl, fun j f hj => ?_⟩
    obtain ⟨ho, hk⟩ := hone_of hone j f hj
    have hjl : j < fs.size := (Array.getElem?_eq_some_iff.1 hj).1
    have hcell := hat j hjl
    have hv : cs'[j]? = some (cs'[j]'(by omega)) := List.getElem?_eq_getElem (by omega)
    have h1 := hf j f hj
    rw [ho, hk] at h1
    have hone' : (cs'.drop j).take 1 = [cs'[j]'(by omega)] := by
      rw [List.drop_eq_getElem_cons (by omega)]
      rfl
    rw [hone'] at h1
    have hys : ys[j]? = some (ys[j]'(by omega)) := List.getElem?_eq_getElem (by omega)
    refine ⟨_, _, ?_, hys, h1.trans hys⟩
    rw [← Go.Deep.add_add, hcell, hv]
theorem weightsAll_mem {e : TypeId} {d : DataW H} {n : Nat} (hn : n ∈ d.weights P e) : ∀ {ds : List (DataW H)}, d ∈ ds → n ∈ DataW.weightsAll P e ds
  | [], h => by cases h
  | x :: r, h => by
    simp only [DataW.weightsAll, List.mem_append]
    rcases List.mem_cons.1 h with rfl | h
    · exact .inl hn
    · exact .inr (weightsAll_mem hn h)
end
def fieldsOf (P : Program) (t : TypeId) : Array Field := match P.underlying t with
  | some (.struct fs) => fs
  | _ => #[]
theorem own : ownKnob Tryz.prog.godebug = none := by kernel_rfl
theorem laidOut : laidOutB Tryz.prog = true := by kernel_rfl
theorem none_dom (b : Nat) : ¬ AHeap.none.dom b := fun h => h rfl
theorem hrel_none (w : World) : HRel AHeap.none w := ⟨fun b k h => by cases h⟩
theorem shape_lt {w : World} {b : Nat} {x : TypeId × Nat} (h : w.shape? b = some x) : b < w.heap.size := by
  unfold World.shape? at h
  rcases Nat.lt_or_ge b w.heap.size with q | q
  · exact q
  · rw [Array.getElem?_eq_none q] at h; cases h
theorem addr_add (b off k : Nat) : (⟨b, off, none⟩ : Addr).add k = ⟨b, off + k, none⟩ := by
  unfold Addr.add
  split
  · rename_i h; subst h; rfl
  · rfl
/-- Rows of values that are what they are: a slice of them, by its contents. -/
theorem rel_vals {α : Type} [Inhabited α] (vals : α → List Value) (row : α → List AV) (hrow : ∀ x, row x = (vals x).map .lit) (n : Nat) (hn : ∀ x, (vals x).length = n) (one : ∀ x, ∀ v ∈ vals x, v.oneCell' = true) {w : World} {b off len cap : Nat} (l : List α)
    (hl : l.length = len) (h1 : len ≤ cap) (h2 : cap ≤ maxLen) (hb : b < w.heap.size) (hc : ∀ i, i < len → ∀ j v, (vals (l.getD i default))[j]? = some v → w.cell? ⟨b, off + (i * n + j), none⟩ = some v) :
    Rel AHeap.none.dom w (.vsl (l.map row) false) (.slice (some ⟨b, off, none⟩) len cap) := by
  have hrl : (l.map row).length = len := by rw [List.length_map, hl]
  have at_ : ∀ (p : Nat) (r : List AV), (l.map row)[p]? = some r → p < len ∧ r = (vals (l.getD p default)).map .lit := by
    intro p r hp
    rw [List.getElem?_map] at hp
    cases hq : l[p]? with
    | none => rw [hq] at hp; cases hp
    | some y =>
      rw [hq] at hp
      have hlt := (List.getElem?_eq_some_iff.1 hq).1
      refine ⟨by omega, ?_⟩
      rw [List.getD_eq_getElem?_getD, hq]
      simp only [Option.map_some, Option.some.injEq] at hp
      rw [← hp, hrow]; rfl
  have key := Rel.vsl (O := AHeap.none.dom) (w := w) (l.map row) false b off n cap (fun p q => ((vals (l.getD p default)).getD q undef)) (by rw [hrl]; exact h1) h2 (fun h => by cases h) (none_dom b) hb ?_ ?_ ?_ ?_
  · rw [hrl] at key; exact key
  · intro p r hp
    rw [(at_ p r hp).2, List.length_map, hn]
  · intro p q r x hp hx
    obtain ⟨h1, rfl⟩ := at_ p r hp
    rw [List.getElem?_map] at hx
    cases hv : (vals (l.getD p default))[q]? with
    | none => rw [hv] at hx; cases hx
    | some v => rw [hc p h1 q v hv, List.getD_eq_getElem?_getD, hv]; rfl
  · intro p q r x hp hx
    obtain ⟨h1, rfl⟩ := at_ p r hp
    rw [List.getElem?_map] at hx
    cases hv : (vals (l.getD p default))[q]? with
    | none => rw [hv] at hx; cases hx
    | some v => rw [List.getD_eq_getElem?_getD, hv]; exact one _ v (List.mem_of_getElem? hv)
  · intro p q r x hp hx
    obtain ⟨h1, rfl⟩ := at_ p r hp
    rw [List.getElem?_map] at hx
    cases hv : (vals (l.getD p default))[q]? with
    | none => rw [hv] at hx; cases hx
    | some v =>
      rw [hv] at hx
      simp only [Option.map_some, Option.some.injEq] at hx
      rw [List.getD_eq_getElem?_getD, hv, ← hx]
      exact .lit v
def vLine (x : Line) : List Value := [.int .i64 x.depth, .int .i64 x.kind, .int .i64 x.a, .int .i64 x.b]
def vClass (x : Class) : List Value := [.string ⟨x.name.toArray⟩, .int .i64 x.parent]
theorem vLine_row (x : Line) : rLine x = (vLine x).map .lit := rfl
theorem vClass_row (x : Class) : rClass x = (vClass x).map .lit := rfl
section
variable {H : Type} {enc : TypeId × Value → H} {w : World} {held : Bool} {fuel : Nat}
theorem open_lines {v : Value} {x : DataW H × List MemPlace} (h : DataW.trod enc Tryz.prog w 0 (fun _ => true) held fuel 25 [v] = some x) (hs : Cell.okWide Tryz.prog w .any 0 25 v) (hz : ∀ n ∈ x.1.weights Tryz.prog 25, n ≤ reachBytes) :
    ∃ p : List Line, p.length ≤ 4398046511104 ∧ Rel AHeap.none.dom w (.vsl (p.map rLine) false) v := by
  rcases open_slice_fields (fs := fieldsOf Tryz.prog 50) Tryz.underlying25 (by kernel_rfl) (by kernel_rfl) (by kernel_rfl) h with ⟨hcs, _⟩ | ⟨a, len, cap, m, D, Pl, hcs, _, hl, hm, hmm, hx, hf⟩
  · injection hcs with e _
    rw [e]
    exact ⟨[], by simp, .vnil false⟩
  · injection hcs with e _
    subst e
    obtain ⟨b, off, spot⟩ := a
    simp only [Cell.okWide, Tryz.underlying25, Cell.ok, World.has] at hs
    obtain ⟨_, _, _, rfl, row, cells, hsh, _⟩ := hs
    simp only [if_true] at hmm
    subst hmm
    have hsz : (fieldsOf Tryz.prog 50).size = 4 := by kernel_rfl
    have hty : ∀ j, j < 4 → ∃ f, (fieldsOf Tryz.prog 50)[j]? = some f ∧ f.type = 3 := by
      intro j hj
      have h0 : ((fieldsOf Tryz.prog 50)[0]?).map (·.type) = some 3 := by kernel_rfl
      have h1 : ((fieldsOf Tryz.prog 50)[1]?).map (·.type) = some 3 := by kernel_rfl
      have h2 : ((fieldsOf Tryz.prog 50)[2]?).map (·.type) = some 3 := by kernel_rfl
      have h3 : ((fieldsOf Tryz.prog 50)[3]?).map (·.type) = some 3 := by kernel_rfl
      have hh : ((fieldsOf Tryz.prog 50)[j]?).map (·.type) = some 3 := by
        match j, hj with
        | 0, _ => exact h0
        | 1, _ => exact h1
        | 2, _ => exact h2
        | 3, _ => exact h3
      obtain ⟨f, hf1, hf2⟩ := Option.map_eq_some_iff.1 hh
      exact ⟨f, hf1, hf2⟩
    have cell : ∀ i, i < m → ∀ j, j < 4 → ∃ n : Int, w.cell? ⟨b, off + (i * 4 + j), none⟩ = some (.int .i64 n) := by
      intro i hi j hj
      obtain ⟨ys, n, _, _, _, hfj⟩ := hf i hi
      obtain ⟨f, hf1, hf2⟩ := hty j hj
      obtain ⟨v, y, hc, _, ht⟩ := hfj j f hf1
      rw [hf2] at ht
      obtain ⟨k, hk, _⟩ := DataW.trod_int Tryz.underlying3 ht
      injection hk with hk _
      rw [hsz, addr_add, hk] at hc
      exact ⟨k, hc⟩
    have cell' : ∀ i j, ∃ n : Int, i < m → j < 4 → w.cell? ⟨b, off + (i * 4 + j), none⟩ = some (.int .i64 n) := by
      intro i j
      by_cases hi : i < m
      · by_cases hj : j < 4
        · obtain ⟨n, hn⟩ := cell i hi j hj; exact ⟨n, fun _ _ => hn⟩
        · exact ⟨0, fun _ q => absurd q hj⟩
      · exact ⟨0, fun q => absurd q hi⟩
    let nn : Nat → Nat → Int := fun i j => (cell' i j).choose
    have hnn : ∀ i j, i < m → j < 4 → w.cell? ⟨b, off + (i * 4 + j), none⟩ = some (.int .i64 (nn i j)) := fun i j => (cell' i j).choose_spec
    let p : List Line := (List.range len).map fun i => ⟨nn i 0, nn i 1, nn i 2, nn i 3⟩
    have hpl : p.length = len := by simp [p]
    refine ⟨p, ?_, ?_⟩
    · have hw := hz ((((List.range len).map D).length + ((List.range (m - len)).map fun j => D (len + j)).length) * Tryz.prog.bytesOf 50) (by rw [hx]; simp [DataW.weights, Tryz.underlying25])
      have hby : Tryz.prog.bytesOf 50 = 32 := by kernel_rfl
      rw [hby] at hw
      simp only [List.length_map, List.length_range, reachBytes] at hw
      rw [hpl]
      omega
    · refine rel_vals vLine rLine vLine_row 4 (fun _ => rfl) (fun x v hv => ?_) p hpl hl hm (shape_lt hsh) (fun i hi j v hv => ?_)
      · simp only [vLine, List.mem_cons, List.not_mem_nil, or_false] at hv
        rcases hv with rfl | rfl | rfl | rfl <;> rfl
      · have hpi : p.getD i default = ⟨nn i 0, nn i 1, nn i 2, nn i 3⟩ := by
          simp [p, List.getD_eq_getElem?_getD, hi]
        rw [hpi] at hv
        have hc := fun j hj => hnn i j (by omega) hj
        match j, hv with
        | 0, hv => simp only [vLine, List.getElem?_cons_zero, Option.some.injEq] at hv; rw [← hv]; exact hc 0 (by omega)
        | 1, hv => simp only [vLine, List.getElem?_cons_succ, List.getElem?_cons_zero, Option.some.injEq] at hv; rw [← hv]; exact hc 1 (by omega)
        | 2, hv => simp only [vLine, List.getElem?_cons_succ, List.getElem?_cons_zero, Option.some.injEq] at hv; rw [← hv]; exact hc 2 (by omega)
        | 3, hv => simp only [vLine, List.getElem?_cons_succ, List.getElem?_cons_zero, Option.some.injEq] at hv; rw [← hv]; exact hc 3 (by omega)
        | j + 4, hv => simp [vLine] at hv
theorem open_classes {v : Value} {x : DataW H × List MemPlace} (h : DataW.trod enc Tryz.prog w 0 (fun _ => true) held fuel 22 [v] = some x) (hs : Cell.okWide Tryz.prog w .any 0 22 v) (hz : ∀ n ∈ x.1.weights Tryz.prog 22, n ≤ reachBytes) :
    ∃ t : List Class, namesOk t ∧ Rel AHeap.none.dom w (.vsl (t.map rClass) false) v := by
  rcases open_slice_fields (fs := fieldsOf Tryz.prog 105) Tryz.underlying22 (by kernel_rfl) (by kernel_rfl) (by kernel_rfl) h with ⟨hcs, _⟩ | ⟨a, len, cap, m, D, Pl, hcs, _, hl, hm, hmm, hx, hf⟩
  · injection hcs with e _
    rw [e]
    exact ⟨[], fun c hc => (by cases hc), .vnil false⟩
  · injection hcs with e _
    subst e
    obtain ⟨b, off, spot⟩ := a
    simp only [Cell.okWide, Tryz.underlying22, Cell.ok, World.has] at hs
    obtain ⟨_, _, _, rfl, row, cells, hsh, _⟩ := hs
    simp only [if_true] at hmm
    subst hmm
    have hsz : (fieldsOf Tryz.prog 105).size = 2 := by kernel_rfl
    have h0 : ((fieldsOf Tryz.prog 105)[0]?).map (·.type) = some 9 := by kernel_rfl
    have h1 : ((fieldsOf Tryz.prog 105)[1]?).map (·.type) = some 3 := by kernel_rfl
    have hst : Tryz.prog.underlying 105 = some (.struct (fieldsOf Tryz.prog 105)) := by kernel_rfl
    have hts : (fieldsOf Tryz.prog 105).toList.map (·.type) = [9, 3] := by kernel_rfl
    obtain ⟨f0, hf0, ht0⟩ := Option.map_eq_some_iff.1 h0
    obtain ⟨f1, hf1, ht1⟩ := Option.map_eq_some_iff.1 h1
    have cell : ∀ i, i < m → ∃ (s : List UInt8) (n : Int), w.cell? ⟨b, off + (i * 2 + 0), none⟩ = some (.string ⟨s.toArray⟩) ∧ w.cell? ⟨b, off + (i * 2 + 1), none⟩ = some (.int .i64 n) ∧ (i < len → s.length ≤ reachBytes) := by
      intro i hi
      obtain ⟨ys, n, hD, _, hyl, hfj⟩ := hf i hi
      obtain ⟨v0, y0, hc0, hy0, g0⟩ := hfj 0 f0 hf0
      obtain ⟨v1, y1, hc1, hy1, g1⟩ := hfj 1 f1 hf1
      rw [ht0] at g0
      rw [ht1] at g1
      obtain ⟨s, hs1, hs2, _⟩ := DataW.trod_string Tryz.underlying9 g0
      obtain ⟨k, hk1, _, _⟩ := DataW.trod_int Tryz.underlying3 g1
      injection hs1 with hs1 _
      injection hk1 with hk1 _
      rw [hsz, addr_add, hs1] at hc0
      rw [hsz, addr_add, hk1] at hc1
      refine ⟨s.data.toList, k, by rw [hc0], hc1, fun hil => hz _ ?_⟩
      rw [hx]
      simp only [DataW.weights, Tryz.underlying22, List.mem_cons, List.mem_append]
      refine .inr (.inl (weightsAll_mem (d := D i) ?_ (List.mem_map.2 ⟨i, List.mem_range.2 hil, rfl⟩)))
      rw [hD]
      simp only [DataW.weights, hst, hts]
      rw [hsz] at hyl
      match ys, hyl, hy0 with
      | [z0, z1], _, hy0 =>
        simp only [List.getElem?_cons_zero, Option.some.injEq] at hy0
        subst hy0
        rw [hs2]
        simp [DataW.weightsEach, DataW.weights]
    have cell' : ∀ i, ∃ q : List UInt8 × Int, i < m → w.cell? ⟨b, off + (i * 2 + 0), none⟩ = some (.string ⟨q.1.toArray⟩) ∧ w.cell? ⟨b, off + (i * 2 + 1), none⟩ = some (.int .i64 q.2) ∧ (i < len → q.1.length ≤ reachBytes) := by
      intro i
      by_cases hi : i < m
      · obtain ⟨s, n, hn⟩ := cell i hi; exact ⟨(s, n), fun _ => hn⟩
      · exact ⟨([], 0), fun q => absurd q hi⟩
    let nn : Nat → List UInt8 × Int := fun i => (cell' i).choose
    have hnn : ∀ i, i < m → w.cell? ⟨b, off + (i * 2 + 0), none⟩ = some (.string ⟨(nn i).1.toArray⟩) ∧ w.cell? ⟨b, off + (i * 2 + 1), none⟩ = some (.int .i64 (nn i).2) ∧ (i < len → (nn i).1.length ≤ reachBytes) := fun i => (cell' i).choose_spec
    let p : List Class := (List.range len).map fun i => ⟨(nn i).1, (nn i).2⟩
    have hpl : p.length = len := by simp [p]
    refine ⟨p, ?_, ?_⟩
    · intro c hc
      obtain ⟨i, hi, rfl⟩ := List.mem_map.1 hc
      have hi' := List.mem_range.1 hi
      have := (hnn i (by omega)).2.2 hi'
      simp only [reachBytes] at this
      show (nn i).1.length < _
      omega
    · refine rel_vals vClass rClass vClass_row 2 (fun _ => rfl) (fun x v hv => ?_) p hpl hl hm (shape_lt hsh) (fun i hi j v hv => ?_)
      · simp only [vClass, List.mem_cons, List.not_mem_nil, or_false] at hv
        rcases hv with rfl | rfl <;> rfl
      · have hpi : p.getD i default = ⟨(nn i).1, (nn i).2⟩ := by
          simp [p, List.getD_eq_getElem?_getD, hi]
        rw [hpi] at hv
        have hc := hnn i (by omega)
        match j, hv with
        | 0, hv => simp only [vClass, List.getElem?_cons_zero, Option.some.injEq] at hv; rw [← hv]; exact hc.1
        | 1, hv => simp only [vClass, List.getElem?_cons_succ, List.getElem?_cons_zero, Option.some.injEq] at hv; rw [← hv]; exact hc.2.1
        | j + 2, hv => simp [vClass] at hv
theorem size_one {cs : Array Value} (h : cs.size = 1) : ∃ c, cs = #[c] := by
  obtain ⟨l⟩ := cs
  match l, h with
  | [c], _ => exact ⟨c, rfl⟩
theorem len_one {α : Type} {l : List α} (h : l.length = 1) : ∃ c, l = [c] := by
  match l, h with
  | [c], _ => exact ⟨c, rfl⟩
theorem open_tree {v : Value} {x : DataW H × List MemPlace} (h : DataW.trod enc Tryz.prog w 0 (fun _ => true) held fuel 24 v.cells.toList = some x) (hs : Value.okWide Tryz.prog w .any 0 24 v) (hz : ∀ n ∈ x.1.weights Tryz.prog 24, n ≤ reachBytes) :
    ∃ (t : List Class) (c : Value), v = .agg #[c] ∧ c.oneCell' = true ∧ namesOk t ∧ Rel AHeap.none.dom w (.vsl (t.map rClass) false) c := by
  have hst : Tryz.prog.underlying 24 = some (.struct (fieldsOf Tryz.prog 24)) := by kernel_rfl
  have hC : Tryz.prog.cellsOf 24 = 1 := by kernel_rfl
  have hts2 : Tryz.prog.cellTypes Tryz.prog.depth 24 = some [22] := by kernel_rfl
  have hfs : (fieldsOf Tryz.prog 24).size = 1 := by kernel_rfl
  have hft : ((fieldsOf Tryz.prog 24)[0]?).map (·.type) = some 22 := by kernel_rfl
  have hone : oneCellFields Tryz.prog (fieldsOf Tryz.prog 24) = true := by kernel_rfl
  have htl : (fieldsOf Tryz.prog 24).toList.map (·.type) = [22] := by kernel_rfl
  simp only [Value.okWide, hst] at hs
  obtain ⟨cs, rfl, hcs, ts, hts, _, hcell⟩ := hs
  rw [hts2] at hts
  injection hts with hts
  rw [hC] at hcs
  obtain ⟨c0, rfl⟩ := size_one hcs
  have hc0 : Cell.okWide Tryz.prog w .any 0 22 c0 := by
    obtain ⟨u, hu1, hu2⟩ := hcell 0 c0 rfl
    rw [← hts] at hu1
    simp only [List.length_singleton, Nat.mod_one, List.getElem?_cons_zero, Option.some.injEq] at hu1
    rw [← hu1] at hu2
    exact hu2
  obtain ⟨xs, n, _, hx, _, hlen, hg⟩ := DataW.trod_struct hst h
  obtain ⟨f0, hf0, ht0⟩ := Option.map_eq_some_iff.1 hft
  obtain ⟨o0, ok0⟩ := hone_of hone 0 f0 hf0
  rw [hfs] at hlen
  obtain ⟨y0, rfl⟩ := len_one hlen
  have h2 := hg 0 f0 hf0
  rw [o0, ok0, ht0] at h2
  simp only [Value.cells, List.drop_zero, List.take_succ_cons, List.take_zero, List.getElem?_cons_zero] at h2
  rw [hx] at hz
  obtain ⟨tl, g1, g2⟩ := open_classes (x := y0) h2 hc0 fun n hn => hz n (by
    simp only [List.map_cons, List.map_nil, DataW.weights, hst, htl, DataW.weightsEach, List.mem_append]
    exact .inl hn)
  refine ⟨tl, c0, rfl, ?_, g1, g2⟩
  simp only [Cell.okWide, Tryz.underlying22] at hc0
  cases c0 <;> first | rfl | (simp [Cell.ok, Tryz.underlying22] at hc0)
end
end Go.Proofs.YtbjgilehnlpmaaaGreat
end
section
set_option linter.unusedVariables false
set_option linter.unusedSimpArgs false
namespace Go.Proofs.YtbjgilehnlpmaaaGreat
open Go Go.Sim
set_option maxRecDepth 100000

def numOk (t : List Class) (k a b : Int) : Bool :=
  if k = 1 ∨ k = 4 then inR a 0 99 && decide (b = 0)
  else if k = 2 then hasF t a && inR b 0 99
  else if k = 8 then hasF t a && decide (b = 0)
  else if k = 11 then inR a 0 9 && inR b 0 1
  else if k = 12 then inR a 0 3 && decide (b = 0)
  else inR k 0 12 && (decide (a = 0) && decide (b = 0))
def Fo.isNil : Fo → Bool
  | .nil => true
  | _ => false
/-- Each line has the numbers that it may have, none is too deep, and those that open a block have one, and only those. -/
def numsF (t : List Class) : Fo → Int → Bool
  | .nil, _ => true
  | .node k a b kids rest, d => numOk t k a b && (inR d 0 5 && ((opensK k == !kids.isNil) && (numsF t kids (d + 1) && numsF t rest d)))
def tryG : Int → List Int → Bool
  | _, [] => true
  | last, k :: ks => ((decide (k = 8) && decide (last ≤ 8)) || ((decide (k = 9) && decide (last = 8)) || (decide (k = 10) && decide (last < 10)))) && tryG k ks
def tryOkF (ks : List Int) : Bool := tryG 7 ks && (decide (1 ≤ ks.length) && decide ((ks.filter fun k => decide (k = 8)).length ≤ 6))
/-- The lines of a block stand as they may; 'm': they may go on with a try. -/
def okF : Fo → Bool → Bool → Bool
  | .nil, _, _ => true
  | .node k _ _ kids rest, lp, m =>
    if followsK k = true then m && (okF kids lp false && okF rest lp true)
    else if k = 5 ∨ k = 6 then lp && okF rest lp false
    else if k = 7 then tryOkF (headsK rest) && (okF kids lp false && okF rest lp true)
    else if k = 11 then okF kids lp false && okF rest lp false
    else if k = 12 then okF kids true false && okF rest lp false
    else okF rest lp false
/-- Programs that are valid. -/
def ValidP (t : List Class) (p : List Line) : Prop := validT t = true ∧ p.length ≤ 24 ∧ ∃ f : Fo, p = f.flat 0 ∧ numsF t f 0 = true ∧ okF f false false = true

structure En where
  ed : Int
  val : Int
  deriving Inhabited, DecidableEq
structure RS where
  log : List Int
  fs : List Fault
  first : Int
  deriving Inhabited
def En.next : En := ⟨0, 0⟩
def RS.tell (s : RS) (n : Int) : RS := { s with log := s.log ++ [n] }
def RS.raise (s : RS) (c d h : Int) : RS := { s with fs := raiseF s.fs c d h }
def RS.jump (s : RS) (k : Int) (i : Nat) : RS := if jumpsK k = true ∧ s.first < 0 then { s with first := i } else s
/-- A line without a block. -/
def lineS (k a b : Int) (h : Int) (s : RS) : En × RS :=
  if k = 1 then (.next, s.tell a)
  else if k = 2 then (⟨2, s.fs.length⟩, s.raise a b h)
  else if k = 3 then (if h < 0 then (⟨2, s.fs.length⟩, s.raise 0 0 (-1)) else (⟨2, h⟩, s))
  else if k = 4 then (⟨1, a⟩, s)
  else if k = 5 then (⟨3, 0⟩, s)
  else if k = 6 then (⟨4, 0⟩, s)
  else (.next, s)
def loopS (body : RS → En × RS) : Nat → RS → En × RS
  | 0, s => (.next, s)
  | n + 1, s => if (body s).1.ed = 1 ∨ (body s).1.ed = 2 then body s else if (body s).1.ed = 3 then (.next, (body s).2) else loopS body n (body s).2
def withS (a b : Int) (r : En × RS) : En × RS := (if r.1.ed = 2 ∧ b = 1 then .next else r.1, r.2.tell (200 + a))
/-- A line that is no try, what its block does being given. -/
def lineR (k a b : Int) (i : Nat) (h : Int) (body : RS → En × RS) (s : RS) : En × RS :=
  if k = 11 then withS a b (body (s.tell (100 + a)))
  else if k = 12 then loopS body a.toNat s
  else lineS k a b h (s.jump k i)
def clsOf (s : RS) (v : Int) : Int := (s.fs.getD v.toNat default).cls
/-- What lines of a block do; 'pd': how a try ended ahead of them, and how it is to end. -/
def runF (t : List Class) : Fo → Nat → Option (En × En) → Int → RS → En × RS
  | .nil, _, none, _, s => (.next, s)
  | .nil, _, some q, _, s => if q.2.ed = 0 then (.next, s) else (q.2, s)
  | .node k a b kids rest, i, none, h, s =>
    if k = 7 then
      (fun r : En × RS => runF t rest (i + 1 + kids.size) (some (r.1, r.1)) h r.2) (runF t kids (i + 1) none h s)
    else
      (fun r : En × RS => if r.1.ed = 0 then runF t rest (i + 1 + kids.size) none h r.2 else r) (lineR k a b i h (fun s => runF t kids (i + 1) none h s) s)
  | .node k a b kids rest, i, some q, h, s =>
    if followsK k = true then
      if k = 8 then
        if q.1.ed = 2 ∧ isF t (clsOf s q.1.val) a = true then
          (fun r : En × RS => runF t rest (i + 1 + kids.size) (some (⟨-1, 0⟩, r.1)) h r.2) (runF t kids (i + 1) none q.1.val s)
        else runF t rest (i + 1 + kids.size) (some q) h s
      else if k = 9 then
        if q.1.ed = 0 then
          (fun r : En × RS => runF t rest (i + 1 + kids.size) (some (q.1, r.1)) h r.2) (runF t kids (i + 1) none h s)
        else runF t rest (i + 1 + kids.size) (some q) h s
      else
        (fun r : En × RS => runF t rest (i + 1 + kids.size) (some (q.1, if r.1.ed = 0 then q.2 else r.1)) h r.2) (runF t kids (i + 1) none (if q.2.ed = 2 then q.2.val else h) s)
    else if q.2.ed = 0 then
      if k = 7 then
        (fun r : En × RS => runF t rest (i + 1 + kids.size) (some (r.1, r.1)) h r.2) (runF t kids (i + 1) none h s)
      else
        (fun r : En × RS => if r.1.ed = 0 then runF t rest (i + 1 + kids.size) none h r.2 else r) (lineR k a b i h (fun s => runF t kids (i + 1) none h s) s)
    else (q.2, s)
/-- What goes on with a try. -/
def chainR (t : List Class) : Fo → Nat → En → En → Int → RS → En × RS
  | .nil, _, _, e, _, s => (e, s)
  | .node k a _ kids rest, i, st, e, h, s =>
    if followsK k = true then
      if k = 8 then
        if st.ed = 2 ∧ isF t (clsOf s st.val) a = true then
          (fun r : En × RS => chainR t rest (i + 1 + kids.size) ⟨-1, 0⟩ r.1 h r.2) (runF t kids (i + 1) none st.val s)
        else chainR t rest (i + 1 + kids.size) st e h s
      else if k = 9 then
        if st.ed = 0 then
          (fun r : En × RS => chainR t rest (i + 1 + kids.size) st r.1 h r.2) (runF t kids (i + 1) none h s)
        else chainR t rest (i + 1 + kids.size) st e h s
      else
        (fun r : En × RS => chainR t rest (i + 1 + kids.size) st (if r.1.ed = 0 then e else r.1) h r.2) (runF t kids (i + 1) none (if e.ed = 2 then e.val else h) s)
    else (e, s)
theorem runF_some (t : List Class) : ∀ (f : Fo) (i : Nat) (st e : En) (h : Int) (s : RS),
    runF t f i (some (st, e)) h s = if (chainR t f i st e h s).1.ed = 0 then runF t (skipF f) (skipN f i) none h (chainR t f i st e h s).2 else chainR t f i st e h s
  | .nil, i, st, e, h, s => rfl
  | .node k a b kids rest, i, st, e, h, s => by
    simp only [runF, chainR, skipF, skipN]
    by_cases hk : followsK k = true
    · simp only [hk, if_true]
      by_cases h8 : k = 8
      · simp only [h8, if_true]
        split
        · exact runF_some t rest _ _ _ _ _
        · exact runF_some t rest _ _ _ _ _
      · simp only [h8, if_false]
        by_cases h9 : k = 9
        · simp only [h9, if_true]
          split
          · exact runF_some t rest _ _ _ _ _
          · exact runF_some t rest _ _ _ _ _
        · simp only [h9, if_false]
          exact runF_some t rest _ _ _ _ _
    · simp only [hk, if_false]
      rfl
theorem runF_nil {t : List Class} {i : Nat} {h : Int} {s : RS} : runF t .nil i none h s = (.next, s) := rfl
theorem runF_try {t : List Class} {a b : Int} {kids rest : Fo} {i : Nat} {h : Int} {s : RS} : runF t (.node 7 a b kids rest) i none h s =
    (fun r : En × RS => runF t rest (i + 1 + kids.size) (some (r.1, r.1)) h r.2) (runF t kids (i + 1) none h s) := by
  simp only [runF, if_true]
theorem runF_line {t : List Class} {k a b : Int} {kids rest : Fo} {i : Nat} {h : Int} {s : RS} (hk : k ≠ 7) : runF t (.node k a b kids rest) i none h s =
    (fun r : En × RS => if r.1.ed = 0 then runF t rest (i + 1 + kids.size) none h r.2 else r) (lineR k a b i h (fun s => runF t kids (i + 1) none h s) s) := by
  simp only [runF, hk, if_false]

/-- A heap of faults of a run. -/
structure FsOk (t : List Class) (fs : List Fault) : Prop where
  ho : heapOk fs
  cls : ∀ k, k < fs.length → hasF t (fs.getD k default).cls = true ∧ inR (fs.getD k default).code 0 99 = true
theorem fsOk_nil (t : List Class) : FsOk t [] := ⟨heapOk_nil, fun k h => by simp at h⟩
theorem FsOk.raise {t : List Class} {fs : List Fault} (h : FsOk t fs) {c d g : Int} (hc : hasF t c = true) (hd : inR d 0 99 = true) (hg : g < fs.length) : FsOk t (raiseF fs c d g) := by
  refine ⟨raiseF_ok h.ho hg, fun k hk => ?_⟩
  rw [raiseF_len] at hk
  rcases Nat.lt_or_ge k fs.length with q | q
  · have e : (raiseF fs c d g).getD k default = fs.getD k default := by
      simp only [raiseF, List.getD_eq_getElem?_getD]; rw [List.getElem?_append_left q]
    rw [e]; exact h.cls k q
  · have e : (raiseF fs c d g).getD k default = ⟨c, d, -1, if 0 ≤ g then g else -1, false⟩ := by
      have : k = fs.length := by omega
      subst this
      simp [raiseF, List.getD_eq_getElem?_getD]
    rw [e]; exact ⟨hc, hd⟩
/-- A run goes on: what was told and raised stays. -/
structure Goes (t : List Class) (n : Nat) (s : RS) (e : En) (s' : RS) : Prop where
  log : ∃ l, s'.log = s.log ++ l ∧ l.length ≤ n
  fs : ∃ l, s'.fs = s.fs ++ l ∧ l.length ≤ n
  ok : FsOk t s'.fs
  val : e.ed = 2 → 0 ≤ e.val ∧ e.val < s'.fs.length
  first : -1 ≤ s.first → -1 ≤ s'.first
theorem Goes.len {t : List Class} {n : Nat} {s : RS} {e : En} {s' : RS} (h : Goes t n s e s') : s.fs.length ≤ s'.fs.length ∧ s'.fs.length ≤ s.fs.length + n ∧ s'.log.length ≤ s.log.length + n := by
  obtain ⟨l, h1, h2⟩ := h.fs
  obtain ⟨m, h3, h4⟩ := h.log
  rw [h1, h3]; simp; omega
theorem Goes.trans {t : List Class} {n m k : Nat} {s : RS} {e : En} {s' : RS} {e' : En} {s'' : RS} (h : Goes t n s e s') (g : Goes t m s' e' s'') (hk : n + m ≤ k) : Goes t k s e' s'' := by
  obtain ⟨l, h1, h2⟩ := h.fs
  obtain ⟨l', h3, h4⟩ := h.log
  obtain ⟨m1, g1, g2⟩ := g.fs
  obtain ⟨m2, g3, g4⟩ := g.log
  exact ⟨⟨l' ++ m2, by rw [g3, h3, List.append_assoc], by simp; omega⟩, ⟨l ++ m1, by rw [g1, h1, List.append_assoc], by simp; omega⟩, g.ok, g.val, fun q => g.first (h.first q)⟩
theorem Goes.end {t : List Class} {n : Nat} {s : RS} {e e' : En} {s' : RS} (h : Goes t n s e s') (he : e'.ed = 2 → 0 ≤ e'.val ∧ e'.val < s'.fs.length) : Goes t n s e' s' := ⟨h.log, h.fs, h.ok, he, h.first⟩
theorem Goes.le {t : List Class} {n m : Nat} {s : RS} {e : En} {s' : RS} (h : Goes t n s e s') (hm : n ≤ m) : Goes t m s e s' := by
  obtain ⟨l, h1, h2⟩ := h.fs
  obtain ⟨l', h3, h4⟩ := h.log
  exact ⟨⟨l', h3, by omega⟩, ⟨l, h1, by omega⟩, h.ok, h.val, h.first⟩
theorem goes_self {t : List Class} {s : RS} (h : FsOk t s.fs) {e : En} (he : e.ed = 2 → 0 ≤ e.val ∧ e.val < s.fs.length) : Goes t 0 s e s := ⟨⟨[], by simp, by simp⟩, ⟨[], by simp, by simp⟩, h, he, fun q => q⟩
theorem goes_next {t : List Class} {s : RS} (h : FsOk t s.fs) : Goes t 0 s .next s := goes_self h (fun q => by cases q)
theorem goes_tell {t : List Class} {s : RS} (h : FsOk t s.fs) {n : Int} {e : En} (he : e.ed = 2 → 0 ≤ e.val ∧ e.val < s.fs.length) : Goes t 1 s e (s.tell n) := ⟨⟨[n], rfl, by simp⟩, ⟨[], by simp [RS.tell], by simp⟩, h, he, fun q => q⟩
theorem goes_raise {t : List Class} {s : RS} (h : FsOk t s.fs) {c d g : Int} (hc : hasF t c = true) (hd : inR d 0 99 = true) (hg : g < s.fs.length) : Goes t 1 s ⟨2, s.fs.length⟩ (s.raise c d g) :=
  ⟨⟨[], by simp [RS.raise], by simp⟩, ⟨_, rfl, by simp⟩, h.raise hc hd hg, fun _ => ⟨by show (0 : Int) ≤ s.fs.length; omega, by show (s.fs.length : Int) < (raiseF s.fs c d g).length; rw [raiseF_len]; omega⟩, fun q => q⟩
theorem goes_jump {t : List Class} {s : RS} (h : FsOk t s.fs) {k : Int} {i : Nat} : Goes t 0 s .next (s.jump k i) := by
  unfold RS.jump
  split
  · exact ⟨⟨[], by simp, by simp⟩, ⟨[], by simp, by simp⟩, h, fun q => (by cases q), fun q => by show (-1 : Int) ≤ i; omega⟩
  · exact goes_next h
/-- What lines tell and raise, at most. -/
def cost : Fo → Nat
  | .nil => 0
  | .node k a _ kids rest => 2 + (if k = 12 then a.toNat * cost kids else cost kids) + cost rest
theorem goes_lineS {t : List Class} (ht : validT t = true) {s : RS} (hs : FsOk t s.fs) {k a b h : Int} (hn : numOk t k a b = true) (hh : h < s.fs.length) : Goes t 1 s (lineS k a b h s).1 (lineS k a b h s).2 := by
  have t0 := (validT_len ht).1
  unfold lineS
  split
  · exact goes_tell hs (fun q => by cases q)
  · split
    · rename_i h1 h2
      subst h2
      unfold numOk at hn
      simp only [show ¬ ((2 : Int) = 1 ∨ (2 : Int) = 4) by decide, if_false, if_true, Bool.and_eq_true] at hn
      exact goes_raise hs hn.1 hn.2 hh
    · split
      · split
        · refine goes_raise hs ?_ (by decide) (by omega)
          unfold hasF inR
          simp only [Bool.and_eq_true, decide_eq_true_eq]; omega
        · exact (goes_self hs (fun _ => ⟨by show (0 : Int) ≤ h; omega, hh⟩)).le (by omega)
      · split
        · exact (goes_self hs (fun q => by cases q)).le (by omega)
        · split
          · exact (goes_self hs (fun q => by cases q)).le (by omega)
          · split
            · exact (goes_self hs (fun q => by cases q)).le (by omega)
            · exact (goes_self hs (fun q => by cases q)).le (by omega)
theorem goes_lineR {t : List Class} (ht : validT t = true) {k a b h : Int} {i n : Nat} {body : RS → En × RS} {s : RS} (hs : FsOk t s.fs) (hn : numOk t k a b = true) (hh : h < s.fs.length)
    (hb : ∀ s' : RS, FsOk t s'.fs → s.fs.length ≤ s'.fs.length → Goes t n s' (body s').1 (body s').2) : Goes t (2 + (if k = 12 then a.toNat * n else n)) s (lineR k a b i h body s).1 (lineR k a b i h body s).2 := by
  unfold lineR
  by_cases h11 : k = 11
  · have h1 := goes_tell (n := 100 + a) hs (e := .next) (fun q => by cases q)
    have h2 := hb (s.tell (100 + a)) h1.ok (Nat.le_refl _)
    have h3 := h1.trans h2 (Nat.le_refl _)
    rw [if_neg (show ¬ k = 12 by omega), if_pos h11]
    unfold withS
    have h4 : Goes t 1 (body (s.tell (100 + a))).2 (if (body (s.tell (100 + a))).1.ed = 2 ∧ b = 1 then .next else (body (s.tell (100 + a))).1) ((body (s.tell (100 + a))).2.tell (200 + a)) := by
      refine goes_tell h2.ok ?_
      split
      · exact fun q => by cases q
      · exact h2.val
    exact h3.trans h4 (by omega)
  · rw [if_neg h11]
    by_cases h12 : k = 12
    · rw [if_pos h12, if_pos h12]
      have key : ∀ (m : Nat) (s' : RS), FsOk t s'.fs → s.fs.length ≤ s'.fs.length → Goes t (m * n) s' (loopS body m s').1 (loopS body m s').2 := by
        intro m
        induction m with
        | zero => intro s' hs' _; exact (goes_next hs').le (by omega)
        | succ m ih =>
          intro s' hs' hl
          have h1 := hb s' hs' hl
          have e : (m + 1) * n = n + m * n := by rw [Nat.succ_mul]; omega
          unfold loopS
          split
          · exact h1.le (by omega)
          · split
            · exact (h1.end (fun q => by cases q)).le (by omega)
            · exact h1.trans (ih _ h1.ok (Nat.le_trans hl h1.len.1)) (by omega)
      exact (key a.toNat s hs (Nat.le_refl _)).le (by omega)
    · rw [if_neg h12, if_neg h12]
      have h1 := goes_jump (k := k) (i := i) hs
      have e : (s.jump k i).fs = s.fs := by unfold RS.jump; split <;> rfl
      have h2 := goes_lineS ht h1.ok hn (show h < (s.jump k i).fs.length by rw [e]; exact hh)
      exact h1.trans h2 (by omega)
theorem numsF_node {t : List Class} {k a b d : Int} {kids rest : Fo} (h : numsF t (.node k a b kids rest) d = true) : numOk t k a b = true ∧ inR d 0 5 = true ∧ (opensK k = !kids.isNil) ∧ numsF t kids (d + 1) = true ∧ numsF t rest d = true := by
  simp only [numsF, Bool.and_eq_true, beq_iff_eq] at h
  exact ⟨h.1, h.2.1, h.2.2.1, h.2.2.2.1, h.2.2.2.2⟩
/-- How a try is to end, if there is one. -/
def PdOk (s : RS) : Option (En × En) → Prop
  | none => True
  | some q => (q.1.ed = 2 → 0 ≤ q.1.val ∧ q.1.val < s.fs.length) ∧ (q.2.ed = 2 → 0 ≤ q.2.val ∧ q.2.val < s.fs.length)
theorem cost_node_le {k a b : Int} {kids rest : Fo} (hk : k ≠ 12) : cost (.node k a b kids rest) = 2 + cost kids + cost rest := by simp [cost, hk]
theorem goes_run {t : List Class} (ht : validT t = true) : ∀ (f : Fo) (i : Nat) (pd : Option (En × En)) (d h : Int) (s : RS), numsF t f d = true → FsOk t s.fs → h < s.fs.length → PdOk s pd → Goes t (cost f) s (runF t f i pd h s).1 (runF t f i pd h s).2 := by
  intro f
  induction f with
  | nil =>
    intro i pd d h s _ hs _ hp
    cases pd with
    | none => exact goes_next hs
    | some q =>
      simp only [runF]
      split
      · exact goes_next hs
      · exact goes_self hs hp.2
  | node k a b kids rest ihk ihr =>
    intro i pd d h s hn hs hh hp
    obtain ⟨n1, n2, n3, n4, n5⟩ := numsF_node hn
    have hline : k ≠ 7 → Goes t (cost (.node k a b kids rest)) s ((fun r : En × RS => if r.1.ed = 0 then runF t rest (i + 1 + kids.size) none h r.2 else r) (lineR k a b i h (fun s => runF t kids (i + 1) none h s) s)).1 ((fun r : En × RS => if r.1.ed = 0 then runF t rest (i + 1 + kids.size) none h r.2 else r) (lineR k a b i h (fun s => runF t kids (i + 1) none h s) s)).2 := by
      intro _
      have h1 := goes_lineR (i := i) (body := fun s => runF t kids (i + 1) none h s) (n := cost kids) ht hs n1 hh (fun s' hs' hl => ihk (i + 1) none (d + 1) h s' n4 hs' (by omega) trivial)
      generalize lineR k a b i h (fun s => runF t kids (i + 1) none h s) s = r at h1 ⊢
      have hl := h1.len
      have ec : cost (.node k a b kids rest) = 2 + (if k = 12 then a.toNat * cost kids else cost kids) + cost rest := rfl
      rw [ec]
      by_cases h0 : r.1.ed = 0
      · simp only [h0, if_true]
        have h2 := ihr (i + 1 + kids.size) none d h r.2 n5 h1.ok (by omega) trivial
        exact h1.trans h2 (Nat.le_refl _)
      · simp only [h0, if_false]
        exact h1.le (by omega)
    have htry : k = 7 → Goes t (cost (.node k a b kids rest)) s ((fun r : En × RS => runF t rest (i + 1 + kids.size) (some (r.1, r.1)) h r.2) (runF t kids (i + 1) none h s)).1 ((fun r : En × RS => runF t rest (i + 1 + kids.size) (some (r.1, r.1)) h r.2) (runF t kids (i + 1) none h s)).2 := by
      intro h7
      have h1 := ihk (i + 1) none (d + 1) h s n4 hs hh trivial
      generalize runF t kids (i + 1) none h s = r at h1 ⊢
      have hl := h1.len
      rw [cost_node_le (by omega)]
      have h2 := ihr (i + 1 + kids.size) (some (r.1, r.1)) d h r.2 n5 h1.ok (by omega) ⟨h1.val, h1.val⟩
      exact h1.trans h2 (by omega)
    cases pd with
    | none =>
      simp only [runF]
      split
      · exact htry ‹_›
      · exact hline ‹_›
    | some q =>
      simp only [runF]
      by_cases hk : followsK k = true
      · simp only [hk, if_true]
        have hk' := hk
        simp only [followsK, inR, Bool.and_eq_true, decide_eq_true_eq] at hk'
        have pass : ∀ (q' : En × En), PdOk s (some q') → Goes t (cost (.node k a b kids rest)) s (runF t rest (i + 1 + kids.size) (some q') h s).1 (runF t rest (i + 1 + kids.size) (some q') h s).2 := by
          intro q' hq'
          rw [cost_node_le (by omega)]
          exact (ihr _ (some q') d h s n5 hs hh hq').le (by omega)
        have go : ∀ (g : Int) (st : En) (e : En × RS → En), g < s.fs.length → (st.ed = 2 → 0 ≤ st.val ∧ st.val < s.fs.length) → (∀ r : En × RS, (r.1.ed = 2 → 0 ≤ r.1.val ∧ r.1.val < r.2.fs.length) → s.fs.length ≤ r.2.fs.length → (e r).ed = 2 → 0 ≤ (e r).val ∧ (e r).val < r.2.fs.length) →
            Goes t (cost (.node k a b kids rest)) s ((fun r : En × RS => runF t rest (i + 1 + kids.size) (some (st, e r)) h r.2) (runF t kids (i + 1) none g s)).1 ((fun r : En × RS => runF t rest (i + 1 + kids.size) (some (st, e r)) h r.2) (runF t kids (i + 1) none g s)).2 := by
          intro g st e hg hst he
          have h1 := ihk (i + 1) none (d + 1) g s n4 hs hg trivial
          generalize runF t kids (i + 1) none g s = r at h1 ⊢
          have hl := h1.len
          rw [cost_node_le (by omega)]
          have h2 := ihr (i + 1 + kids.size) (some (st, e r)) d h r.2 n5 h1.ok (by omega) ⟨fun q => by have := hst q; show 0 ≤ st.val ∧ st.val < (r.2.fs.length : Int); omega, he r h1.val hl.1⟩
          exact h1.trans h2 (by omega)
        split
        · split
          · rename_i hq
            exact go q.1.val ⟨-1, 0⟩ (fun r => r.1) (hp.1 hq.1).2 (fun q => by cases q) (fun r hr _ => hr)
          · exact pass q hp
        · split
          · split
            · exact go h q.1 (fun r => r.1) hh hp.1 (fun r hr _ => hr)
            · exact pass q hp
          · refine go _ q.1 (fun r => if r.1.ed = 0 then q.2 else r.1) ?_ hp.1 (fun r hr hl => ?_)
            · split
              · exact (hp.2 ‹_›).2
              · exact hh
            · split
              · exact fun z => by have := hp.2 z; omega
              · exact hr
      · rw [if_neg hk]
        by_cases h0 : q.2.ed = 0
        · rw [if_pos h0]
          by_cases h7 : k = 7
          · rw [if_pos h7]; exact htry h7
          · rw [if_neg h7]; exact hline h7
        · rw [if_neg h0]; exact (goes_self hs hp.2).le (by omega)
theorem pow_step (n : Nat) : 3 ^ (n + 1) = 3 * 3 ^ n := by rw [Nat.pow_succ]; omega
/-- Programs are small. -/
theorem cost_le {t : List Class} : ∀ (f : Fo) (n : Nat), n ≤ 5 ∨ f = .nil → numsF t f ((5 - n : Nat) : Int) = true → cost f ≤ 2 * 3 ^ (n + 1) * f.size := by
  intro f
  induction f with
  | nil => intro n _ _; simp [cost]
  | node k a b kids rest ihk ihr =>
    intro n hn h
    have hn5 : n ≤ 5 := by rcases hn with q | q; exact q; cases q
    obtain ⟨n1, n2, n3, n4, n5⟩ := numsF_node h
    have hr := ihr n (.inl hn5) n5
    have ha : (if k = 12 then a.toNat * cost kids else cost kids) ≤ 3 * cost kids := by
      split
      · rename_i h12
        subst h12
        unfold numOk at n1
        simp only [show ¬ ((12 : Int) = 1 ∨ (12 : Int) = 4) by decide, show ¬ (12 : Int) = 2 by decide, show ¬ (12 : Int) = 8 by decide, show ¬ (12 : Int) = 11 by decide, if_false, if_true, Bool.and_eq_true, inR, decide_eq_true_eq] at n1
        exact Nat.mul_le_mul_right _ (by omega)
      · omega
    have hk : 3 * cost kids ≤ 2 * 3 ^ (n + 1) * kids.size := by
      cases n with
      | zero =>
        have : kids = .nil := by
          cases kids with
          | nil => rfl
          | node k' a' b' x y =>
            obtain ⟨_, m2, _⟩ := numsF_node n4
            simp only [inR, Bool.and_eq_true, decide_eq_true_eq] at m2
            omega
        subst this
        simp [cost, Fo.size]
      | succ n =>
        have e : ((5 - (n + 1) : Nat) : Int) + 1 = ((5 - n : Nat) : Int) := by omega
        rw [e] at n4
        have := ihk n (.inl (by omega)) n4
        have e2 : 2 * 3 ^ (n + 1 + 1) * kids.size = 3 * (2 * 3 ^ (n + 1) * kids.size) := by
          rw [pow_step (n + 1)]
          simp only [Nat.mul_assoc, Nat.mul_left_comm]
        omega
    simp only [cost, Fo.size]
    have p1 : 1 ≤ 3 ^ (n + 1) := Nat.one_le_pow _ _ (by omega)
    have e3 : 2 * 3 ^ (n + 1) * (1 + kids.size + rest.size) = 2 * 3 ^ (n + 1) + 2 * 3 ^ (n + 1) * kids.size + 2 * 3 ^ (n + 1) * rest.size := by
      rw [Nat.mul_add, Nat.mul_add, Nat.mul_one]
    omega
theorem cost_small {t : List Class} {f : Fo} (h : numsF t f 0 = true) (hs : f.size ≤ 24) : cost f ≤ 34992 := by
  have := cost_le f 5 (.inl (Nat.le_refl _)) h
  have e : 2 * 3 ^ (5 + 1) = 1458 := rfl
  rw [e] at this
  omega
end Go.Proofs.YtbjgilehnlpmaaaGreat
end
section
set_option linter.unusedVariables false
set_option linter.unusedSimpArgs false
namespace Go.Proofs.YtbjgilehnlpmaaaGreat
open Go Go.Sim
set_option maxRecDepth 100000
attribute [local go_sem ↓] aw_skip aw_ret aw_exit aw_region aw_draw aw_seq aw_block aw_loop aw_cond frz_nil frz_cons sq_normal sq_ret sq_exit exB_normal exB_ret exB_same exB_other retQ_ret retQ_normal ret0_ret ret0_normal ao_nil go1 g_move g_assign g_pick g_build g_load g_binOp g_unOp g_convert g_fieldAddr g_field g_indexAddr g_index g_extract g_slice g_nilCheck g_len g_makeFunc h_call h_append h_alloc h_box h_buildSlice h_makeSlice h_store gV i_box i_buildSlice i_move i_assign i_build i_load i_binOp i_unOp i_convert i_fieldAddr i_field i_indexAddr i_index i_extract i_slice i_nilCheck i_makeFunc i_len i_max i_min i_alloc i_makeSlice i_store i_append i_call i_pick boxI boxA buildSliceI buildSliceA makeSliceA allocA storeA p_move p_assign p_pick p_build p_load p_binOp p_unOp p_convert p_fieldAddr p_field p_indexAddr p_index p_extract p_slice p_nilCheck p_makeFunc p_len p_max p_min p_alloc p_box p_buildSlice p_makeSlice p_store p_append p_call x_nil x_go1 x_g0 x_g1 x_g2 x_g3 x_s0 x_s1 x_s2 x_s3 u_move u_assign u_pick u_build u_load u_binOp u_unOp u_convert u_fieldAddr u_field u_indexAddr u_index u_extract u_slice u_nilCheck u_makeFunc u_len u_buildSlice x_s4 x_g4 rq_normal rq_ret rq_exit aw_range
attribute [local go_sem] frzV_sl frzK_some set_none set_other AHeap.set_self set_del set_set cnd_t cnd_f cnd_b retA_one retA_two retA_three retA_four retA_nil gIf_b mrgV_b mrgV_wh mrgV_U gIf_U gIf_wh mrgB_f mrgB_some mrgB_if wh_true wh_false keepA_some keepA_if gD_zero gD_succ gT_some bxA_t bxA_f callA_fn ev_tmp ev_const ev_global ev_func oc_bool oc_int oc_string oc_nil oc_nilptr oc_nilfunc cl_bool cl_int cl_string cl_nil updO_some updO_none upd_same upd_other init_at pickA_b pickA_wh selA_t selA_f selA_and selA_or selA_orn selA_orm selA_bb selA_ii beqt b_add b_sub b_mul b_and b_or b_xor b_eql b_neq b_lss b_leq b_gtr b_geq b_quo b_rem b_shr b_seql b_sneq b_sadd b_beql b_bneq b_aeql b_aneq u_not u_neg isConstOp eqA eqCellV List.getD_cons_zero List.getD_cons_succ List.map_cons List.map_nil List.nil_append List.cons_append List.append_nil if_true if_false Option.map_some Option.map_none ne_eq not_false_eq_true oneA ldv ld1v ld1s wr1s ldRow stRow row_lit row_agg row_vsl row_sl row_ptr row_fn one_I one_B one_S one_vsl one_sl one_ptr one_fn extractA okA rI rS rU rClass rFault rExit rStart rLine Int.toNat_natCast List.length_cons List.length_nil List.length_map List.all_cons List.all_nil Bool.and_true Nat.zero_add List.getElem?_cons_zero List.getElem?_cons_succ List.take_succ_cons List.take_zero List.drop_succ_cons List.drop_zero and_self true_and and_true implies_true decide_eq_true_eq decide_eq_false_iff_not Bool.or_eq_true Bool.or_eq_false_iff Bool.and_eq_true Bool.not_eq_true' Bool.not_eq_false' beq_false decide_true decide_false Int.ofNat_lt Int.ofNat_le Int.natCast_nonneg Bool.or_true Bool.or_false Bool.true_or Bool.false_or beq_self_eq_true List.drop_one Bool.not_true Bool.not_false Bool.not_not Bool.false_eq_true Bool.true_eq_false false_implies true_implies Bool.true_and Bool.false_and Bool.and_false not_true_eq_false Int.natCast_eq_zero Int.natCast_pos Int.natCast_zero false_and and_false or_false false_or or_true true_or Bool.or_self none_le_iff List.replicate_zero Int.toNat_zero List.replicate_succ buildRows List.set_cons_zero List.set_cons_succ List.set_nil List.mapM_nil maxLen_eq Nat.zero_le Nat.mul_one Nat.one_mul bldA fillA spliceA List.take_nil List.drop_nil List.getElem?_nil ld1o wr1o bldSliceA le_same cv_i cvI_t quietT_fn qvd_some ld_o ldO_1 ldO_l wr_o wrO_1 set_2 set_3 set_4 putL_nil putL_cons List.zip_cons_cons List.zip_nil_left List.zip_nil_right List.toList_toArray frzV_set ti1 ti2 tk2 ti3 te3 ts3 tk3 tz3 ti4 tb4 ti5 tk5 tz5 ti9 te9 ts9 tk9 tz9 ti12 tk12 ti13 tp13 tf13_0 tf13_1 ti20 ti21 tk21 tz21 ti22 te22 ti23 tp23 tf23_0 ti24 tp24 tf24_0 ti25 te25 ti26 te26 ti27 te27 ti28 tp28 tf28_0 ti29 tp29 tf29_0 ti30 tp30 tf30_0 tf30_1 tf30_2 tf30_3 ti31 tp31 tf31_0 tf31_1 tf31_2 tf31_3 ti32 ti33 ti34 ti35 te35 tz35 ti37 ti38 ti39 ti40 ti42 ti44 ti46 ti47 ti48 ti49 tq49 tp49 tf49_0 tf49_1 tf49_2 tf49_3 ti50 tq50 tp50 tf50_0 tf50_1 tf50_2 tf50_3 ti51 ti52 ti53 ti54 ti55 ti56 ti57 ti58 tq58 tp58 tf58_0 tf58_1 ti59 tq59 tp59 tf59_0 tf59_1 ti60 ti61 ti62 ti63 ti64 ti65 ti66 ti67 ti68 ti69 ti70 ti71 ti72 ti73 ti74 ti75 ti76 ti77 ti78 ti79 tq79 tp79 tf79_0 tf79_1 tf79_2 tf79_3 tf79_4 ti80 tq80 tp80 tf80_0 tf80_1 tf80_2 tf80_3 tf80_4 ti81 ti82 ti83 ti84 ti85 ti86 ti87 ti88 ti89 tp89 tf89_0 tf89_1 tf89_2 tf89_3 tf89_4 ti90 tp90 tf90_0 tf90_1 tf90_2 tf90_3 tf90_4 ti91 ti93 ti94 ti95 ti96 ti97 ti98 tp98 tf98_0 tf98_1 tf98_2 tf98_3 ti99 tp99 tf99_0 tf99_1 tf99_2 tf99_3 ti100 tq100 tp100 tf100_0 tf100_1 ti101 tq101 tp101 tf101_0 tf101_1 ti102 ti103 ti104 tq104 tp104 tf104_0 tf104_1 ti105 tq105 tp105 tf105_0 tf105_1 ti106 ti107 ti108 ti109 ti110 ti111 ti112 ti113 tp113 tf113_0 tf113_1 ti114 tp114 tf114_0 tf114_1 ti115 ti116 ti117 ti118 te118 ti119 ti120 ti121 ti122 ti123 ti124 ti125 ti126 ti127 ti128 ti129 ti130 ti131 te131 ti132 ti133 ti134 ti135 ti136 tk136 tz136 ti137 ti138 ti139 ti140 ti141 ti142 ti143 tk143 ti145 ti146 ti147 ti149 ti150 ti151 tk151 tz151 ti152 ti153 tk153 tz153 ti154 ti155 ti156 ti157 ti158 tk158 ti159 ti160 ti161 ti162 ti163 ti164 ti165 ti167 ti168 ti174 ti178 fp13_0 fv13_0 fp13_1 fv13_1 fp23_0 fv23_0 fp24_0 fv24_0 fp28_0 fv28_0 fp29_0 fv29_0 fp30_0 fv30_0 fp30_1 fv30_1 fp30_2 fv30_2 fp30_3 fv30_3 fp31_0 fv31_0 fp31_1 fv31_1 fp31_2 fv31_2 fp31_3 fv31_3 fp49_0 fv49_0 fp49_1 fv49_1 fp49_2 fv49_2 fp49_3 fv49_3 fp50_0 fv50_0 fp50_1 fv50_1 fp50_2 fv50_2 fp50_3 fv50_3 fp58_0 fv58_0 fp58_1 fv58_1 fp59_0 fv59_0 fp59_1 fv59_1 fp79_0 fv79_0 fp79_1 fv79_1 fp79_2 fv79_2 fp79_3 fv79_3 fp79_4 fv79_4 fp80_0 fv80_0 fp80_1 fv80_1 fp80_2 fv80_2 fp80_3 fv80_3 fp80_4 fv80_4 fp89_0 fv89_0 fp89_1 fv89_1 fp89_2 fv89_2 fp89_3 fv89_3 fp89_4 fv89_4 fp90_0 fv90_0 fp90_1 fv90_1 fp90_2 fv90_2 fp90_3 fv90_3 fp90_4 fv90_4 fp98_0 fv98_0 fp98_1 fv98_1 fp98_2 fv98_2 fp98_3 fv98_3 fp99_0 fv99_0 fp99_1 fv99_1 fp99_2 fv99_2 fp99_3 fv99_3 fp100_0 fv100_0 fp100_1 fv100_1 fp101_0 fv101_0 fp101_1 fv101_1 fp104_0 fv104_0 fp104_1 fv104_1 fp105_0 fv105_0 fp105_1 fv105_1 fp113_0 fv113_0 fp113_1 fv113_1 fp114_0 fv114_0 fp114_1 fv114_1 lv22 ll22 is22 ix22 sh22 so22 sb22 sm22 sp22 lv25 ll25 is25 ix25 sh25 so25 sb25 sm25 sp25 lv26 ll26 is26 ix26 sh26 so26 sb26 sm26 sp26 lv27 ll27 is27 ix27 sh27 so27 sb27 sm27 sp27 lv35 ll35 is35 ix35 sh35 so35 sb35 sm35 sp35 lv118 ll118 is118 sp118 lv131 ll131 is131 ix131 sh131 so131 sb131 sm131 sp131 xs9 ls9 sx9 sy9 sz9

abbrev aProg (p : List Line) (cl : Bool) : AV := .vsl (p.map rLine) cl
def toI (l : List Nat) : List Int := l.map fun (n : Nat) => (n : Int)
theorem c_endOf (p : List Line) (cl : Bool) (i : Nat) (H : AHeap) (hi : i < p.length) : ACalls Tryz.prog 82 [aProg p cl, I i] H fun r H' => r = I (endP p i) ∧ H' = H := by
  refine acalls_len (by kernel_rfl) (List.mem_cons_self ..) fun hl => ?_
  rw [List.length_map] at hl
  refine acalls_of0 Tryz.func82 rfl (by kernel_rfl) rfl rfl (awp_sound (fz := fun _ => []) (im := fun _ => false) mixed _ _ _ _ (by kernel_rfl) ?_)
  simp +contextual -dsimp -implicitDefEqProofs (maxSteps := 5000000) only [go_sem, reduceIte, reduceCtorEq, Nat.reduceEqDiff, Nat.reduceBEq, Nat.reduceAdd, Nat.reduceLeDiff, Nat.reduceMul, Nat.reduceLT, Int.reduceEq, Int.reduceLT, Int.reduceLE]
  refine aloop mixed (fz := fun _ => []) (im := fun _ => false) (by kernel_rfl) (fun m tm H' => ∃ k : Nat, m = p.length - k ∧ i < k ∧ k ≤ p.length ∧ H' = H ∧ tm 0 = aProg p cl ∧ tm 1 = I i ∧ tm 5 = I k ∧ ∀ j, i < j → j < k → (p.getD i default).depth < (p.getD j default).depth) (p.length - (i + 1)) ⟨i + 1, rfl, by omega, by omega, rfl, ?_⟩ ?_
  · simp +contextual -dsimp -implicitDefEqProofs (maxSteps := 5000000) only [go_sem, reduceIte, reduceCtorEq, Nat.reduceEqDiff, Nat.reduceBEq, Nat.reduceAdd, Nat.reduceLeDiff, Nat.reduceMul, Nat.reduceLT, Int.reduceEq, Int.reduceLT, Int.reduceLE]
    exact ⟨I_wrap (by omega) (by omega) (by omega), fun j h1 h2 => by omega⟩
  · rintro m tm _ ⟨k, rfl, h1, h2, rfl, t0, t1, t5, hd⟩
    simp +contextual -dsimp -implicitDefEqProofs (maxSteps := 5000000) only [go_sem, reduceIte, reduceCtorEq, Nat.reduceEqDiff, Nat.reduceBEq, Nat.reduceAdd, Nat.reduceLeDiff, Nat.reduceMul, Nat.reduceLT, Int.reduceEq, Int.reduceLT, Int.reduceLE, t0, t1, t5, hi]
    refine draw_intro [0, 0, 0, 0, 0, 0, 0, 0, 0, 0, 0, 0, 0, 0, 0, 0, 0] AHeap.none (by kernel_rfl) none_le ?_
    simp +contextual -dsimp -implicitDefEqProofs (maxSteps := 5000000) only [go_sem, reduceIte, reduceCtorEq, Nat.reduceEqDiff, Nat.reduceBEq, Nat.reduceAdd, Nat.reduceLeDiff, Nat.reduceMul, Nat.reduceLT, Int.reduceEq, Int.reduceLT, Int.reduceLE, t0, t1, t5, hi]
    refine ⟨fun q => ⟨_, by omega, k + 1, rfl, by omega, by omega, I_wrap (by omega) (by omega) (by omega), fun j g1 g2 => ?_⟩, fun q => ?_⟩
    · rcases Nat.lt_or_ge j k with g3 | g3
      · exact hd j g1 g3
      · rw [show j = k by omega]; exact q.2
    · rw [endP_is h1 h2 hd]
      intro g1 g2
      rw [decide_eq_true g1, decide_eq_true g2] at q
      cases q
theorem c_blockEnd (p : List Line) (cl : Bool) (i : Nat) (H : AHeap) (hi : i < p.length) : ACalls Tryz.prog 69 [aProg p cl, I i] H fun r H' => r = I (endP p i) ∧ H' = H := by
  refine acalls_len (by kernel_rfl) (List.mem_cons_self ..) fun hl => ?_
  rw [List.length_map] at hl
  refine acalls_of0 Tryz.func69 rfl (by kernel_rfl) rfl rfl (awp_sound (fz := fun _ => []) (im := fun _ => false) mixed _ _ _ _ (by kernel_rfl) ?_)
  simp +contextual -dsimp -implicitDefEqProofs (maxSteps := 5000000) only [go_sem, reduceIte, reduceCtorEq, Nat.reduceEqDiff, Nat.reduceBEq, Nat.reduceAdd, Nat.reduceLeDiff, Nat.reduceMul, Nat.reduceLT, Int.reduceEq, Int.reduceLT, Int.reduceLE]
  refine aloop mixed (fz := fun _ => []) (im := fun _ => false) (by kernel_rfl) (fun m tm H' => ∃ k : Nat, m = p.length - k ∧ i < k ∧ k ≤ p.length ∧ H' = H ∧ tm 0 = aProg p cl ∧ tm 1 = I i ∧ tm 5 = I k ∧ ∀ j, i < j → j < k → (p.getD i default).depth < (p.getD j default).depth) (p.length - (i + 1)) ⟨i + 1, rfl, by omega, by omega, rfl, ?_⟩ ?_
  · simp +contextual -dsimp -implicitDefEqProofs (maxSteps := 5000000) only [go_sem, reduceIte, reduceCtorEq, Nat.reduceEqDiff, Nat.reduceBEq, Nat.reduceAdd, Nat.reduceLeDiff, Nat.reduceMul, Nat.reduceLT, Int.reduceEq, Int.reduceLT, Int.reduceLE]
    exact ⟨I_wrap (by omega) (by omega) (by omega), fun j h1 h2 => by omega⟩
  · rintro m tm _ ⟨k, rfl, h1, h2, rfl, t0, t1, t5, hd⟩
    simp +contextual -dsimp -implicitDefEqProofs (maxSteps := 5000000) only [go_sem, reduceIte, reduceCtorEq, Nat.reduceEqDiff, Nat.reduceBEq, Nat.reduceAdd, Nat.reduceLeDiff, Nat.reduceMul, Nat.reduceLT, Int.reduceEq, Int.reduceLT, Int.reduceLE, t0, t1, t5, hi]
    refine draw_intro [0, 0, 0, 0, 0, 0, 0, 0, 0, 0, 0, 0, 0, 0, 0, 0, 0] AHeap.none (by kernel_rfl) none_le ?_
    simp +contextual -dsimp -implicitDefEqProofs (maxSteps := 5000000) only [go_sem, reduceIte, reduceCtorEq, Nat.reduceEqDiff, Nat.reduceBEq, Nat.reduceAdd, Nat.reduceLeDiff, Nat.reduceMul, Nat.reduceLT, Int.reduceEq, Int.reduceLT, Int.reduceLE, t0, t1, t5, hi]
    refine ⟨fun q => ⟨_, by omega, k + 1, rfl, by omega, by omega, I_wrap (by omega) (by omega) (by omega), fun j g1 g2 => ?_⟩, fun q => ?_⟩
    · rcases Nat.lt_or_ge j k with g3 | g3
      · exact hd j g1 g3
      · rw [show j = k by omega]; exact q.2
    · rw [endP_is h1 h2 hd]
      intro g1 g2
      rw [decide_eq_true g1, decide_eq_true g2] at q
      cases q
theorem c_lineOpens (x : Line) (H : AHeap) : ACalls Tryz.prog 49 [.agg (rLine x)] H fun r H' => r = B (opensK x.kind) ∧ H' = H := by
  refine acalls_of0 Tryz.func49 rfl (by kernel_rfl) rfl rfl (awp_sound (fz := fun _ => []) (im := fun s => s == 1) mixed _ _ _ _ (by kernel_rfl) ?_)
  simp +contextual -dsimp -implicitDefEqProofs (maxSteps := 5000000) only [go_sem, reduceIte, reduceCtorEq, Nat.reduceEqDiff, Nat.reduceBEq, Nat.reduceAdd, Nat.reduceLeDiff, Nat.reduceMul, Nat.reduceLT, Int.reduceEq, Int.reduceLT, Int.reduceLE]
  exact (c_within _ _ _ _).det (by simp +contextual -dsimp -implicitDefEqProofs (maxSteps := 5000000) only [go_sem, reduceIte, reduceCtorEq, Nat.reduceEqDiff, Nat.reduceBEq, Nat.reduceAdd, Nat.reduceLeDiff, Nat.reduceMul, Nat.reduceLT, Int.reduceEq, Int.reduceLT, Int.reduceLE, opensK])
theorem c_lineJumps (x : Line) (H : AHeap) : ACalls Tryz.prog 105 [.agg (rLine x)] H fun r H' => r = B (jumpsK x.kind) ∧ H' = H := by
  refine acalls_of0 Tryz.func105 rfl (by kernel_rfl) rfl rfl (awp_sound (fz := fun _ => []) (im := fun s => s == 1) mixed _ _ _ _ (by kernel_rfl) ?_)
  simp +contextual -dsimp -implicitDefEqProofs (maxSteps := 5000000) only [go_sem, reduceIte, reduceCtorEq, Nat.reduceEqDiff, Nat.reduceBEq, Nat.reduceAdd, Nat.reduceLeDiff, Nat.reduceMul, Nat.reduceLT, Int.reduceEq, Int.reduceLT, Int.reduceLE]
  exact (c_within _ _ _ _).det (by simp +contextual -dsimp -implicitDefEqProofs (maxSteps := 5000000) only [go_sem, reduceIte, reduceCtorEq, Nat.reduceEqDiff, Nat.reduceBEq, Nat.reduceAdd, Nat.reduceLeDiff, Nat.reduceMul, Nat.reduceLT, Int.reduceEq, Int.reduceLT, Int.reduceLE, jumpsK])
theorem c_opens (k : Int) (H : AHeap) : ACalls Tryz.prog 119 [I k] H fun r H' => r = B (opensK k) ∧ H' = H := by
  refine acalls_of0 Tryz.func119 rfl (by kernel_rfl) rfl rfl (awp_sound (fz := fun _ => []) (im := fun _ => false) mixed _ _ _ _ (by kernel_rfl) ?_)
  simp +contextual -dsimp -implicitDefEqProofs (maxSteps := 5000000) only [go_sem, reduceIte, reduceCtorEq, Nat.reduceEqDiff, Nat.reduceBEq, Nat.reduceAdd, Nat.reduceLeDiff, Nat.reduceMul, Nat.reduceLT, Int.reduceEq, Int.reduceLT, Int.reduceLE]
  exact (c_inRange _ _ _ _).det (by simp +contextual -dsimp -implicitDefEqProofs (maxSteps := 5000000) only [go_sem, reduceIte, reduceCtorEq, Nat.reduceEqDiff, Nat.reduceBEq, Nat.reduceAdd, Nat.reduceLeDiff, Nat.reduceMul, Nat.reduceLT, Int.reduceEq, Int.reduceLT, Int.reduceLE, opensK])
theorem c_follows (k : Int) (H : AHeap) : ACalls Tryz.prog 122 [I k] H fun r H' => r = B (followsK k) ∧ H' = H := by
  refine acalls_of0 Tryz.func122 rfl (by kernel_rfl) rfl rfl (awp_sound (fz := fun _ => []) (im := fun _ => false) mixed _ _ _ _ (by kernel_rfl) ?_)
  simp +contextual -dsimp -implicitDefEqProofs (maxSteps := 5000000) only [go_sem, reduceIte, reduceCtorEq, Nat.reduceEqDiff, Nat.reduceBEq, Nat.reduceAdd, Nat.reduceLeDiff, Nat.reduceMul, Nat.reduceLT, Int.reduceEq, Int.reduceLT, Int.reduceLE]
  exact (c_inRange _ _ _ _).det (by simp +contextual -dsimp -implicitDefEqProofs (maxSteps := 5000000) only [go_sem, reduceIte, reduceCtorEq, Nat.reduceEqDiff, Nat.reduceBEq, Nat.reduceAdd, Nat.reduceLeDiff, Nat.reduceMul, Nat.reduceLT, Int.reduceEq, Int.reduceLT, Int.reduceLE, followsK])
theorem c_argued (t : List Class) (cl : Bool) (x : Line) (H : AHeap) : ACalls Tryz.prog 47 [.agg (rLine x), aTree t cl] H fun r H' => r = B (numOk t x.kind x.a x.b) ∧ H' = H := by
  refine acalls_of0 Tryz.func47 rfl (by kernel_rfl) rfl rfl (awp_sound (fz := fun _ => []) (im := fun s => s == 2 || s == 3) mixed _ _ _ _ (by kernel_rfl) ?_)
  have fin0 : ∀ (a b c d : Bool), (a && (b && c)) = ((a && b) && c) := fun a b c d => by cases a <;> rfl
  by_cases k1 : x.kind = 1
  · simp +contextual -dsimp -implicitDefEqProofs (maxSteps := 5000000) only [go_sem, reduceIte, reduceCtorEq, Nat.reduceEqDiff, Nat.reduceBEq, Nat.reduceAdd, Nat.reduceLeDiff, Nat.reduceMul, Nat.reduceLT, Int.reduceEq, Int.reduceLT, Int.reduceLE, k1]
    refine (c_codeOk _ _).det ?_
    cases e1 : inR x.a 0 99 <;> simp +contextual -dsimp -implicitDefEqProofs (maxSteps := 5000000) only [go_sem, reduceIte, reduceCtorEq, Nat.reduceEqDiff, Nat.reduceBEq, Nat.reduceAdd, Nat.reduceLeDiff, Nat.reduceMul, Nat.reduceLT, Int.reduceEq, Int.reduceLT, Int.reduceLE, k1, e1, numOk]
  by_cases k4 : x.kind = 4
  · simp +contextual -dsimp -implicitDefEqProofs (maxSteps := 5000000) only [go_sem, reduceIte, reduceCtorEq, Nat.reduceEqDiff, Nat.reduceBEq, Nat.reduceAdd, Nat.reduceLeDiff, Nat.reduceMul, Nat.reduceLT, Int.reduceEq, Int.reduceLT, Int.reduceLE, k4]
    refine (c_codeOk _ _).det ?_
    cases e1 : inR x.a 0 99 <;> simp +contextual -dsimp -implicitDefEqProofs (maxSteps := 5000000) only [go_sem, reduceIte, reduceCtorEq, Nat.reduceEqDiff, Nat.reduceBEq, Nat.reduceAdd, Nat.reduceLeDiff, Nat.reduceMul, Nat.reduceLT, Int.reduceEq, Int.reduceLT, Int.reduceLE, k4, e1, numOk]
  by_cases k2 : x.kind = 2
  · simp +contextual -dsimp -implicitDefEqProofs (maxSteps := 5000000) only [go_sem, reduceIte, reduceCtorEq, Nat.reduceEqDiff, Nat.reduceBEq, Nat.reduceAdd, Nat.reduceLeDiff, Nat.reduceMul, Nat.reduceLT, Int.reduceEq, Int.reduceLT, Int.reduceLE, k2]
    refine (c_has t cl _ _).det ?_
    cases e1 : hasF t x.a
    · simp +contextual -dsimp -implicitDefEqProofs (maxSteps := 5000000) only [go_sem, reduceIte, reduceCtorEq, Nat.reduceEqDiff, Nat.reduceBEq, Nat.reduceAdd, Nat.reduceLeDiff, Nat.reduceMul, Nat.reduceLT, Int.reduceEq, Int.reduceLT, Int.reduceLE, k2, e1, numOk]
    · simp +contextual -dsimp -implicitDefEqProofs (maxSteps := 5000000) only [go_sem, reduceIte, reduceCtorEq, Nat.reduceEqDiff, Nat.reduceBEq, Nat.reduceAdd, Nat.reduceLeDiff, Nat.reduceMul, Nat.reduceLT, Int.reduceEq, Int.reduceLT, Int.reduceLE, k2, e1]
      refine (c_codeOk _ _).det ?_
      simp +contextual -dsimp -implicitDefEqProofs (maxSteps := 5000000) only [go_sem, reduceIte, reduceCtorEq, Nat.reduceEqDiff, Nat.reduceBEq, Nat.reduceAdd, Nat.reduceLeDiff, Nat.reduceMul, Nat.reduceLT, Int.reduceEq, Int.reduceLT, Int.reduceLE, k2, e1, numOk]
  by_cases k8 : x.kind = 8
  · simp +contextual -dsimp -implicitDefEqProofs (maxSteps := 5000000) only [go_sem, reduceIte, reduceCtorEq, Nat.reduceEqDiff, Nat.reduceBEq, Nat.reduceAdd, Nat.reduceLeDiff, Nat.reduceMul, Nat.reduceLT, Int.reduceEq, Int.reduceLT, Int.reduceLE, k8]
    refine (c_has t cl _ _).det ?_
    cases e1 : hasF t x.a <;> simp +contextual -dsimp -implicitDefEqProofs (maxSteps := 5000000) only [go_sem, reduceIte, reduceCtorEq, Nat.reduceEqDiff, Nat.reduceBEq, Nat.reduceAdd, Nat.reduceLeDiff, Nat.reduceMul, Nat.reduceLT, Int.reduceEq, Int.reduceLT, Int.reduceLE, k8, e1, numOk]
  by_cases k11 : x.kind = 11
  · simp +contextual -dsimp -implicitDefEqProofs (maxSteps := 5000000) only [go_sem, reduceIte, reduceCtorEq, Nat.reduceEqDiff, Nat.reduceBEq, Nat.reduceAdd, Nat.reduceLeDiff, Nat.reduceMul, Nat.reduceLT, Int.reduceEq, Int.reduceLT, Int.reduceLE, k11]
    refine (c_within _ _ _ _).det ?_
    cases e1 : inR x.a 0 9
    · simp +contextual -dsimp -implicitDefEqProofs (maxSteps := 5000000) only [go_sem, reduceIte, reduceCtorEq, Nat.reduceEqDiff, Nat.reduceBEq, Nat.reduceAdd, Nat.reduceLeDiff, Nat.reduceMul, Nat.reduceLT, Int.reduceEq, Int.reduceLT, Int.reduceLE, k11, e1, numOk]
    · simp +contextual -dsimp -implicitDefEqProofs (maxSteps := 5000000) only [go_sem, reduceIte, reduceCtorEq, Nat.reduceEqDiff, Nat.reduceBEq, Nat.reduceAdd, Nat.reduceLeDiff, Nat.reduceMul, Nat.reduceLT, Int.reduceEq, Int.reduceLT, Int.reduceLE, k11, e1]
      refine (c_within _ _ _ _).det ?_
      simp +contextual -dsimp -implicitDefEqProofs (maxSteps := 5000000) only [go_sem, reduceIte, reduceCtorEq, Nat.reduceEqDiff, Nat.reduceBEq, Nat.reduceAdd, Nat.reduceLeDiff, Nat.reduceMul, Nat.reduceLT, Int.reduceEq, Int.reduceLT, Int.reduceLE, k11, e1, numOk]
  by_cases k12 : x.kind = 12
  · simp +contextual -dsimp -implicitDefEqProofs (maxSteps := 5000000) only [go_sem, reduceIte, reduceCtorEq, Nat.reduceEqDiff, Nat.reduceBEq, Nat.reduceAdd, Nat.reduceLeDiff, Nat.reduceMul, Nat.reduceLT, Int.reduceEq, Int.reduceLT, Int.reduceLE, k12]
    refine (c_within _ _ _ _).det ?_
    cases e1 : inR x.a 0 3 <;> simp +contextual -dsimp -implicitDefEqProofs (maxSteps := 5000000) only [go_sem, reduceIte, reduceCtorEq, Nat.reduceEqDiff, Nat.reduceBEq, Nat.reduceAdd, Nat.reduceLeDiff, Nat.reduceMul, Nat.reduceLT, Int.reduceEq, Int.reduceLT, Int.reduceLE, k12, e1, numOk]
  simp +contextual -dsimp -implicitDefEqProofs (maxSteps := 5000000) only [go_sem, reduceIte, reduceCtorEq, Nat.reduceEqDiff, Nat.reduceBEq, Nat.reduceAdd, Nat.reduceLeDiff, Nat.reduceMul, Nat.reduceLT, Int.reduceEq, Int.reduceLT, Int.reduceLE, k1, k2, k4, k8, k11, k12]
  refine (c_within _ _ _ _).det ?_
  cases e1 : inR x.kind 0 12 <;> simp +contextual -dsimp -implicitDefEqProofs (maxSteps := 5000000) only [go_sem, reduceIte, reduceCtorEq, Nat.reduceEqDiff, Nat.reduceBEq, Nat.reduceAdd, Nat.reduceLeDiff, Nat.reduceMul, Nat.reduceLT, Int.reduceEq, Int.reduceLT, Int.reduceLE, k1, k2, k4, k8, k11, k12, e1, numOk, or_self]
theorem c_validNumbers (t : List Class) (cl : Bool) (x : Line) (H : AHeap) : ACalls Tryz.prog 117 [aTree t cl, .agg (rLine x)] H fun r H' => r = B (numOk t x.kind x.a x.b) ∧ H' = H := by
  refine acalls_of0 Tryz.func117 rfl (by kernel_rfl) rfl rfl (awp_sound (fz := fun _ => []) (im := fun s => s == 2 || s == 3) mixed _ _ _ _ (by kernel_rfl) ?_)
  have fin0 : ∀ (a b c d : Bool), (a && (b && c)) = ((a && b) && c) := fun a b c d => by cases a <;> rfl
  by_cases k1 : x.kind = 1
  · simp +contextual -dsimp -implicitDefEqProofs (maxSteps := 5000000) only [go_sem, reduceIte, reduceCtorEq, Nat.reduceEqDiff, Nat.reduceBEq, Nat.reduceAdd, Nat.reduceLeDiff, Nat.reduceMul, Nat.reduceLT, Int.reduceEq, Int.reduceLT, Int.reduceLE, k1]
    refine (c_inRange _ _ _ _).det ?_
    cases e1 : inR x.a 0 99 <;> simp +contextual -dsimp -implicitDefEqProofs (maxSteps := 5000000) only [go_sem, reduceIte, reduceCtorEq, Nat.reduceEqDiff, Nat.reduceBEq, Nat.reduceAdd, Nat.reduceLeDiff, Nat.reduceMul, Nat.reduceLT, Int.reduceEq, Int.reduceLT, Int.reduceLE, k1, e1, numOk]
  by_cases k4 : x.kind = 4
  · simp +contextual -dsimp -implicitDefEqProofs (maxSteps := 5000000) only [go_sem, reduceIte, reduceCtorEq, Nat.reduceEqDiff, Nat.reduceBEq, Nat.reduceAdd, Nat.reduceLeDiff, Nat.reduceMul, Nat.reduceLT, Int.reduceEq, Int.reduceLT, Int.reduceLE, k4]
    refine (c_inRange _ _ _ _).det ?_
    cases e1 : inR x.a 0 99 <;> simp +contextual -dsimp -implicitDefEqProofs (maxSteps := 5000000) only [go_sem, reduceIte, reduceCtorEq, Nat.reduceEqDiff, Nat.reduceBEq, Nat.reduceAdd, Nat.reduceLeDiff, Nat.reduceMul, Nat.reduceLT, Int.reduceEq, Int.reduceLT, Int.reduceLE, k4, e1, numOk]
  by_cases k2 : x.kind = 2
  · simp +contextual -dsimp -implicitDefEqProofs (maxSteps := 5000000) only [go_sem, reduceIte, reduceCtorEq, Nat.reduceEqDiff, Nat.reduceBEq, Nat.reduceAdd, Nat.reduceLeDiff, Nat.reduceMul, Nat.reduceLT, Int.reduceEq, Int.reduceLT, Int.reduceLE, k2]
    refine (c_hasClass t cl _ _).det ?_
    cases e1 : hasF t x.a
    · simp +contextual -dsimp -implicitDefEqProofs (maxSteps := 5000000) only [go_sem, reduceIte, reduceCtorEq, Nat.reduceEqDiff, Nat.reduceBEq, Nat.reduceAdd, Nat.reduceLeDiff, Nat.reduceMul, Nat.reduceLT, Int.reduceEq, Int.reduceLT, Int.reduceLE, k2, e1, numOk]
    · simp +contextual -dsimp -implicitDefEqProofs (maxSteps := 5000000) only [go_sem, reduceIte, reduceCtorEq, Nat.reduceEqDiff, Nat.reduceBEq, Nat.reduceAdd, Nat.reduceLeDiff, Nat.reduceMul, Nat.reduceLT, Int.reduceEq, Int.reduceLT, Int.reduceLE, k2, e1]
      refine (c_inRange _ _ _ _).det ?_
      simp +contextual -dsimp -implicitDefEqProofs (maxSteps := 5000000) only [go_sem, reduceIte, reduceCtorEq, Nat.reduceEqDiff, Nat.reduceBEq, Nat.reduceAdd, Nat.reduceLeDiff, Nat.reduceMul, Nat.reduceLT, Int.reduceEq, Int.reduceLT, Int.reduceLE, k2, e1, numOk]
  by_cases k8 : x.kind = 8
  · simp +contextual -dsimp -implicitDefEqProofs (maxSteps := 5000000) only [go_sem, reduceIte, reduceCtorEq, Nat.reduceEqDiff, Nat.reduceBEq, Nat.reduceAdd, Nat.reduceLeDiff, Nat.reduceMul, Nat.reduceLT, Int.reduceEq, Int.reduceLT, Int.reduceLE, k8]
    refine (c_hasClass t cl _ _).det ?_
    cases e1 : hasF t x.a <;> simp +contextual -dsimp -implicitDefEqProofs (maxSteps := 5000000) only [go_sem, reduceIte, reduceCtorEq, Nat.reduceEqDiff, Nat.reduceBEq, Nat.reduceAdd, Nat.reduceLeDiff, Nat.reduceMul, Nat.reduceLT, Int.reduceEq, Int.reduceLT, Int.reduceLE, k8, e1, numOk]
  by_cases k11 : x.kind = 11
  · simp +contextual -dsimp -implicitDefEqProofs (maxSteps := 5000000) only [go_sem, reduceIte, reduceCtorEq, Nat.reduceEqDiff, Nat.reduceBEq, Nat.reduceAdd, Nat.reduceLeDiff, Nat.reduceMul, Nat.reduceLT, Int.reduceEq, Int.reduceLT, Int.reduceLE, k11]
    refine (c_inRange _ _ _ _).det ?_
    cases e1 : inR x.a 0 9
    · simp +contextual -dsimp -implicitDefEqProofs (maxSteps := 5000000) only [go_sem, reduceIte, reduceCtorEq, Nat.reduceEqDiff, Nat.reduceBEq, Nat.reduceAdd, Nat.reduceLeDiff, Nat.reduceMul, Nat.reduceLT, Int.reduceEq, Int.reduceLT, Int.reduceLE, k11, e1, numOk]
    · simp +contextual -dsimp -implicitDefEqProofs (maxSteps := 5000000) only [go_sem, reduceIte, reduceCtorEq, Nat.reduceEqDiff, Nat.reduceBEq, Nat.reduceAdd, Nat.reduceLeDiff, Nat.reduceMul, Nat.reduceLT, Int.reduceEq, Int.reduceLT, Int.reduceLE, k11, e1]
      refine (c_inRange _ _ _ _).det ?_
      simp +contextual -dsimp -implicitDefEqProofs (maxSteps := 5000000) only [go_sem, reduceIte, reduceCtorEq, Nat.reduceEqDiff, Nat.reduceBEq, Nat.reduceAdd, Nat.reduceLeDiff, Nat.reduceMul, Nat.reduceLT, Int.reduceEq, Int.reduceLT, Int.reduceLE, k11, e1, numOk]
  by_cases k12 : x.kind = 12
  · simp +contextual -dsimp -implicitDefEqProofs (maxSteps := 5000000) only [go_sem, reduceIte, reduceCtorEq, Nat.reduceEqDiff, Nat.reduceBEq, Nat.reduceAdd, Nat.reduceLeDiff, Nat.reduceMul, Nat.reduceLT, Int.reduceEq, Int.reduceLT, Int.reduceLE, k12]
    refine (c_inRange _ _ _ _).det ?_
    cases e1 : inR x.a 0 3 <;> simp +contextual -dsimp -implicitDefEqProofs (maxSteps := 5000000) only [go_sem, reduceIte, reduceCtorEq, Nat.reduceEqDiff, Nat.reduceBEq, Nat.reduceAdd, Nat.reduceLeDiff, Nat.reduceMul, Nat.reduceLT, Int.reduceEq, Int.reduceLT, Int.reduceLE, k12, e1, numOk]
  simp +contextual -dsimp -implicitDefEqProofs (maxSteps := 5000000) only [go_sem, reduceIte, reduceCtorEq, Nat.reduceEqDiff, Nat.reduceBEq, Nat.reduceAdd, Nat.reduceLeDiff, Nat.reduceMul, Nat.reduceLT, Int.reduceEq, Int.reduceLT, Int.reduceLE, k1, k2, k4, k8, k11, k12]
  refine (c_inRange _ _ _ _).det ?_
  have e : inR x.kind 0 10 = inR x.kind 0 12 := by
    unfold inR
    rw [Bool.eq_iff_iff]
    simp only [Bool.and_eq_true, decide_eq_true_eq]
    omega
  rw [e]
  cases e1 : inR x.kind 0 12 <;> simp +contextual -dsimp -implicitDefEqProofs (maxSteps := 5000000) only [go_sem, reduceIte, reduceCtorEq, Nat.reduceEqDiff, Nat.reduceBEq, Nat.reduceAdd, Nat.reduceLeDiff, Nat.reduceMul, Nat.reduceLT, Int.reduceEq, Int.reduceLT, Int.reduceLE, k1, k2, k4, k8, k11, k12, e1, numOk, or_self]
end Go.Proofs.YtbjgilehnlpmaaaGreat
end
