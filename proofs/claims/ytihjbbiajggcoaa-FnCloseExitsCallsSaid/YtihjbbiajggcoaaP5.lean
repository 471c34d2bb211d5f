/- The law FnCloseExitsCalls answers true at every input. No condition. -/
import Derived.Test.YtihjbbiajggcoaaP4
import Derived.Test.YtihjbbiajggcoaaRows
import Derived.WalkKit
import Derived.ProofKit
import Derived.OpenShut
import Derived.ShutString
import Derived.ChangeOld
import Derived.Below
section
set_option linter.unusedVariables false
set_option linter.unusedSimpArgs false
namespace Go.Proofs.Ytihjbbiajggcoaa
open Go Go.Sim
set_option maxRecDepth 100000
attribute [local go_sem ↓] aw_skip aw_ret aw_exit aw_region aw_draw aw_seq aw_block aw_loop aw_cond frz_nil frz_cons sq_normal sq_ret sq_exit exB_normal exB_ret exB_same exB_other retQ_ret retQ_normal ret0_ret ret0_normal ao_nil go1 g_move g_assign g_pick g_build g_load g_binOp g_unOp g_convert g_fieldAddr g_field g_indexAddr g_index g_extract g_slice g_nilCheck g_len g_makeFunc h_call h_append h_alloc h_box h_buildSlice h_makeSlice h_store gV i_box i_buildSlice i_move i_assign i_build i_load i_binOp i_unOp i_convert i_fieldAddr i_field i_indexAddr i_index i_extract i_slice i_nilCheck i_makeFunc i_len i_max i_min i_alloc i_makeSlice i_store i_append i_call i_pick boxI boxA buildSliceI buildSliceA makeSliceA allocA storeA p_move p_assign p_pick p_build p_load p_binOp p_unOp p_convert p_fieldAddr p_field p_indexAddr p_index p_extract p_slice p_nilCheck p_makeFunc p_len p_max p_min p_alloc p_box p_buildSlice p_makeSlice p_store p_append p_call x_nil x_go1 x_g0 x_g1 x_g2 x_g3 x_s0 x_s1 x_s2 x_s3 u_move u_assign u_pick u_build u_load u_binOp u_unOp u_convert u_fieldAddr u_field u_indexAddr u_index u_extract u_slice u_nilCheck u_makeFunc u_len u_buildSlice x_s4 x_g4 rq_normal rq_ret rq_exit aw_range
attribute [local go_sem] frzV_sl frzK_some set_none set_other AHeap.set_self set_del set_set cnd_t cnd_f cnd_b retA_one retA_two retA_three retA_four retA_nil gIf_b mrgV_b mrgV_wh mrgV_U gIf_U gIf_wh mrgB_f mrgB_some mrgB_if wh_true wh_false keepA_some keepA_if gD_zero gD_succ gT_some bxA_t bxA_f callA_fn ev_tmp ev_const ev_global ev_func oc_bool oc_int oc_string oc_nil oc_nilptr oc_nilfunc cl_bool cl_int cl_string cl_nil updO_some updO_none upd_same upd_other init_at pickA_b pickA_wh selA_t selA_f selA_and selA_or selA_orn selA_orm selA_bb selA_ii beqt b_add b_sub b_mul b_and b_or b_xor b_eql b_neq b_lss b_leq b_gtr b_geq b_quo b_rem b_shr b_seql b_sneq b_sadd b_beql b_bneq b_aeql b_aneq u_not u_neg isConstOp eqA eqCellV List.getD_cons_zero List.getD_cons_succ List.map_cons List.map_nil List.nil_append List.cons_append List.append_nil if_true if_false Option.map_some Option.map_none ne_eq not_false_eq_true oneA ldv ld1v ld1s wr1s ldRow stRow row_lit row_agg row_vsl row_sl row_ptr row_fn one_I one_B one_S one_vsl one_sl one_ptr one_fn extractA okA rI rS rU rClass rFault rExit rStart rLine Int.toNat_natCast List.length_cons List.length_nil List.length_map List.all_cons List.all_nil Bool.and_true Nat.zero_add List.getElem?_cons_zero List.getElem?_cons_succ List.take_succ_cons List.take_zero List.drop_succ_cons List.drop_zero and_self true_and and_true implies_true decide_eq_true_eq decide_eq_false_iff_not Bool.or_eq_true Bool.or_eq_false_iff Bool.and_eq_true Bool.not_eq_true' Bool.not_eq_false' beq_false decide_true decide_false Int.ofNat_lt Int.ofNat_le Int.natCast_nonneg Bool.or_true Bool.or_false Bool.true_or Bool.false_or beq_self_eq_true List.drop_one Bool.not_true Bool.not_false Bool.not_not Bool.false_eq_true Bool.true_eq_false false_implies true_implies Bool.true_and Bool.false_and Bool.and_false not_true_eq_false Int.natCast_eq_zero Int.natCast_pos Int.natCast_zero false_and and_false or_false false_or or_true true_or Bool.or_self none_le_iff List.replicate_zero Int.toNat_zero List.replicate_succ buildRows List.set_cons_zero List.set_cons_succ List.set_nil List.mapM_nil maxLen_eq Nat.zero_le Nat.mul_one Nat.one_mul bldA fillA spliceA List.take_nil List.drop_nil List.getElem?_nil ld1o wr1o bldSliceA le_same cv_i cvI_t quietT_fn qvd_some ld_o ldO_1 ldO_l wr_o wrO_1 set_2 set_3 set_4 putL_nil putL_cons List.zip_cons_cons List.zip_nil_left List.zip_nil_right List.toList_toArray frzV_set ti1 ti2 tk2 ti3 te3 ts3 tk3 tz3 ti4 tb4 ti5 tk5 tz5 ti9 te9 ts9 tk9 tz9 ti12 tk12 ti13 tp13 tf13_0 tf13_1 ti20 ti21 tk21 tz21 ti22 te22 tz22 ti23 te23 ti24 tp24 tf24_0 ti25 tp25 tf25_0 ti26 te26 ti27 tq27 tp27 tf27_0 tf27_1 tf27_2 ti28 tq28 tp28 tf28_0 tf28_1 tf28_2 ti30 ti31 te31 ti32 te32 ti33 tp33 tf33_0 ti34 tp34 tf34_0 ti35 tp35 tf35_0 tf35_1 tf35_2 tf35_3 ti36 tp36 tf36_0 tf36_1 tf36_2 tf36_3 ti37 ti38 ti39 ti40 tq40 tp40 tf40_0 tf40_1 tf40_2 ti41 tq41 tp41 tf41_0 tf41_1 tf41_2 ti42 ti43 ti44 ti45 ti47 ti48 ti49 ti50 ti51 ti52 ti53 ti54 ti55 tp55 tf55_0 tf55_1 ti56 tp56 tf56_0 tf56_1 ti57 ti58 ti59 ti60 ti61 ti62 ti63 ti64 ti65 ti66 ti67 tq67 tp67 tf67_0 tf67_1 ti68 tq68 tp68 tf68_0 tf68_1 ti69 tq69 tp69 tf69_0 tf69_1 tf69_2 tf69_3 tf69_4 ti70 tq70 tp70 tf70_0 tf70_1 tf70_2 tf70_3 tf70_4 ti71 ti72 tp72 tf72_0 tf72_1 tf72_2 ti73 tp73 tf73_0 tf73_1 tf73_2 ti74 ti75 ti77 ti78 tq78 tp78 tf78_0 tf78_1 ti79 tq79 tp79 tf79_0 tf79_1 ti80 ti81 ti82 ti83 ti84 ti85 te85 ti86 ti87 te87 ti88 tp88 tf88_0 tf88_1 tf88_2 tf88_3 tf88_4 ti89 tp89 tf89_0 tf89_1 tf89_2 tf89_3 tf89_4 ti90 ti91 ti92 ti93 ti94 ti95 ti96 ti97 ti98 ti99 ti100 ti101 ti102 ti103 ti104 ti105 ti106 ti107 ti108 ti109 ti110 ti111 ti112 ti113 ti114 ti115 ti116 tk116 tz116 ti117 ti118 tk118 ti120 ti121 ti122 ti124 ti125 ti126 tk126 tz126 ti127 ti128 tk128 tz128 ti129 tk129 ti130 ti131 ti132 ti133 ti134 ti135 ti137 ti138 ti144 ti148 ti153 ti154 tq154 tp154 tf154_0 tf154_1 tf154_2 tf154_3 ti155 tq155 tp155 tf155_0 tf155_1 tf155_2 tf155_3 ti157 fp13_0 fv13_0 fp13_1 fv13_1 fp24_0 fv24_0 fp25_0 fv25_0 fp27_0 fv27_0 fp27_1 fv27_1 fp27_2 fv27_2 fp28_0 fv28_0 fp28_1 fv28_1 fp28_2 fv28_2 fp33_0 fv33_0 fp34_0 fv34_0 fp35_0 fv35_0 fp35_1 fv35_1 fp35_2 fv35_2 fp35_3 fv35_3 fp36_0 fv36_0 fp36_1 fv36_1 fp36_2 fv36_2 fp36_3 fv36_3 fp40_0 fv40_0 fp40_1 fv40_1 fp40_2 fv40_2 fp41_0 fv41_0 fp41_1 fv41_1 fp41_2 fv41_2 fp55_0 fv55_0 fp55_1 fv55_1 fp56_0 fv56_0 fp56_1 fv56_1 fp67_0 fv67_0 fp67_1 fv67_1 fp68_0 fv68_0 fp68_1 fv68_1 fp69_0 fv69_0 fp69_1 fv69_1 fp69_2 fv69_2 fp69_3 fv69_3 fp69_4 fv69_4 fp70_0 fv70_0 fp70_1 fv70_1 fp70_2 fv70_2 fp70_3 fv70_3 fp70_4 fv70_4 fp72_0 fv72_0 fp72_1 fv72_1 fp72_2 fv72_2 fp73_0 fv73_0 fp73_1 fv73_1 fp73_2 fv73_2 fp78_0 fv78_0 fp78_1 fv78_1 fp79_0 fv79_0 fp79_1 fv79_1 fp88_0 fv88_0 fp88_1 fv88_1 fp88_2 fv88_2 fp88_3 fv88_3 fp88_4 fv88_4 fp89_0 fv89_0 fp89_1 fv89_1 fp89_2 fv89_2 fp89_3 fv89_3 fp89_4 fv89_4 fp154_0 fv154_0 fp154_1 fv154_1 fp154_2 fv154_2 fp154_3 fv154_3 fp155_0 fv155_0 fp155_1 fv155_1 fp155_2 fv155_2 fp155_3 fv155_3 lv22 ll22 is22 ix22 sh22 so22 sb22 sm22 sp22 lv23 ll23 is23 ix23 sh23 so23 sb23 sm23 sp23 lv26 ll26 is26 ix26 sh26 so26 sb26 sm26 sp26 lv31 ll31 is31 ix31 sh31 so31 sb31 sm31 sp31 lv32 ll32 is32 ix32 sh32 so32 sb32 sm32 sp32 lv85 ll85 is85 ix85 sh85 so85 sb85 sm85 sp85 lv87 ll87 is87 ix87 sh87 so87 sb87 sm87 sp87 xs9 ls9 sx9 sy9 sz9

theorem xor64 (x y : Nat) (hx : x < 4611686018427387904) (hy : y < 4611686018427387904) : ∃ z : Nat, bits .xor .i64 (x : Int) (y : Int) = z ∧ z < 4611686018427387904 := by
  refine ⟨x ^^^ y, ?_, Nat.xor_lt_two_pow (n := 62) hx hy⟩
  have hz : x ^^^ y < 4611686018427387904 := Nat.xor_lt_two_pow (n := 62) hx hy
  show IntKind.i64.wrap ((BitVec.ofInt 64 (x : Int) ^^^ BitVec.ofInt 64 (y : Int)).toNat : Int) = _
  have h1 : (BitVec.ofInt 64 (x : Int)).toNat = x := by rw [BitVec.ofInt_natCast, BitVec.toNat_ofNat]; exact Nat.mod_eq_of_lt (by omega)
  have h2 : (BitVec.ofInt 64 (y : Int)).toNat = y := by rw [BitVec.ofInt_natCast, BitVec.toNat_ofNat]; exact Nat.mod_eq_of_lt (by omega)
  rw [BitVec.toNat_xor, h1, h2, w64 (by omega) (by omega)]

/-- A reader that has been asked at most n times, in a block of its own. -/
def Rd (F H : AHeap) (br : Nat) (n : Nat) : Prop := ∃ (bs : List UInt8) (cb : Bool) (p : Nat), bs.length ≤ 2000 ∧ p ≤ n ∧ F br = none ∧ H = F.set br ⟨2, 56, [[.vsl (bs.map rU) cb, I p]]⟩
section
variable {F H : AHeap} {br n m c : Nat} {K : ABlk}
theorem rd_mono (h : Rd F H br n) (hm : n ≤ m) : Rd F H br m := by
  obtain ⟨bs, cb, p, h1, h2, h3, h4⟩ := h
  exact ⟨bs, cb, p, h1, Nat.le_trans h2 hm, h3, h4⟩
theorem rd_in (h : Rd F H br n) (hc : H c = none) : Rd (F.set c K) (H.set c K) br n := by
  obtain ⟨bs, cb, p, h1, h2, h3, rfl⟩ := h
  rw [set_none] at hc
  exact ⟨bs, cb, p, h1, h2, by rw [set_other hc.2.1]; exact h3, set_comm hc.2.1⟩
theorem rd_out (h : Rd (F.set c K) H br n) (hc : F c = none) : ∃ H', H = H'.set c K ∧ Rd F H' br n ∧ H' c = none := by
  obtain ⟨bs, cb, p, h1, h2, h3, rfl⟩ := h
  rw [set_none] at h3
  exact ⟨_, set_comm h3.2.1, ⟨bs, cb, p, h1, h2, h3.2.2, rfl⟩, by rw [set_other h3.2.1]; exact hc⟩
theorem rd_none (h : Rd F H br n) (hc : H c = none) : F c = none ∧ c ≠ br := by
  obtain ⟨bs, cb, p, h1, h2, h3, rfl⟩ := h
  rw [set_none] at hc
  exact ⟨hc.2.2, hc.1⟩
end
theorem pick_val (a b p l k : Int) (ha : 0 ≤ a) (ha' : a ≤ 255) (hb : 0 ≤ b) (hb' : b ≤ 255) (hp : 0 ≤ p) (hp' : p ≤ 1000000000) (hl : 0 < l) (hk : 0 < k) :
    ∃ z : Int, (bits .xor .i64 (a * 131 + b * 1117 + p * 29 + p.tdiv l * 53) ((a * 131 + b * 1117 + p * 29 + p.tdiv l * 53).tdiv 64)).tmod k = z ∧ 0 ≤ z ∧ z < k := by
  have hd : 0 ≤ p.tdiv l ∧ p.tdiv l ≤ p := ⟨Int.tdiv_nonneg hp (by omega), Int.tdiv_le_self _ hp⟩
  generalize p.tdiv l = q at hd
  have h0 : 0 ≤ a * 131 + b * 1117 + p * 29 + q * 53 ∧ a * 131 + b * 1117 + p * 29 + q * 53 ≤ 1000000000000 := by omega
  generalize a * 131 + b * 1117 + p * 29 + q * 53 = x at h0
  obtain ⟨y, rfl⟩ := Int.eq_ofNat_of_zero_le h0.1
  have hdiv : ((y : Int)).tdiv 64 = ((y / 64 : Nat) : Int) := rfl
  rw [hdiv]
  obtain ⟨z, hz, hz'⟩ := xor64 y (y / 64) (by omega) (by omega)
  rw [hz]
  exact ⟨_, rfl, Int.tmod_nonneg _ (by omega), Int.tmod_lt_of_pos _ hk⟩

theorem c_pick (F H : AHeap) (br n : Nat) (k : Int) (h : Rd F H br n) (hn : n < 1000000000) : ACalls Try.prog 26 [.ptr br 2 0 0, I k] H fun r H' => ∃ v : Int, r = I v ∧ 0 ≤ v ∧ (0 < k → v < k) ∧ (k ≤ 0 → v = 0) ∧ Rd F H' br (n + 1) := by
  obtain ⟨bs, cb, p, h1, h2, h3, rfl⟩ := h
  refine acalls_of0 Try.func26 rfl (by kernel_rfl) rfl rfl (awp_sound (fz := fun _ => []) (im := fun _ => false) mixed _ _ _ _ (by kernel_rfl) ?_)
  simp +contextual -dsimp -implicitDefEqProofs (maxSteps := 5000000) only [go_sem, reduceIte, reduceCtorEq, Nat.reduceEqDiff, Nat.reduceBEq, Nat.reduceAdd, Nat.reduceLeDiff, Nat.reduceMul, Nat.reduceLT, Int.reduceEq, Int.reduceLT, Int.reduceLE]
  have hw : IntKind.i64.wrap ((p : Int) + 1) = ((p + 1 : Nat) : Int) := by rw [w64 (by omega) (by omega)]; simp
  have hRd : ∀ v : Int, 0 ≤ v → (0 < k → v < k) → (k ≤ 0 → v = 0) → ∃ v' : Int, I v = I v' ∧ 0 ≤ v' ∧ (0 < k → v' < k) ∧ (k ≤ 0 → v' = 0) ∧ Rd F (F.set br ⟨2, 56, [[.vsl (bs.map rU) cb, I (IntKind.i64.wrap ((p : Int) + 1))]]⟩) br (n + 1) :=
    fun v q1 q2 q3 => ⟨v, rfl, q1, q2, q3, bs, cb, p + 1, h1, by omega, h3, by rw [hw]⟩
  have hw2 : IntKind.i64.wrap (IntKind.i64.wrap ((p : Int) + 1) - 1) = (p : Int) := by rw [hw, w64 (by omega) (by omega)]; simp
  simp only [hw2, Int.toNat_natCast]
  refine ⟨fun q => hRd 0 (by omega) (fun h => h) (fun _ => rfl), fun q => ⟨fun hlt => ?_, fun hge => ?_⟩⟩
  · have hpl : p < bs.length := by omega
    have hb := (bs.getD p default).toNat_lt
    simp +contextual -dsimp -implicitDefEqProofs (maxSteps := 5000000) only [go_sem, reduceIte, reduceCtorEq, Nat.reduceEqDiff, Nat.reduceBEq, Nat.reduceAdd, Nat.reduceLeDiff, Nat.reduceMul, Nat.reduceLT, Int.reduceEq, Int.reduceLT, Int.reduceLE, hpl]
    refine ⟨by omega, ?_⟩
    rw [w64 (by omega) (by omega)]
    exact hRd _ (Int.tmod_nonneg _ (by omega)) (fun h => Int.tmod_lt_of_pos _ h) (fun h => by omega)
  · refine draw_intro [0, 0, 0, 0, 0, 0, 0, 0, 0, 0, 0, 0, 0, 0, 0, 0, 0, 0, 0, 0, 0, 0, 0, 0, 0, 0, 0, 0, 0, 0, 0, 0, 0, 0, 0, 0, 0, 0, 0, 0, 0, 0, 0, 0, 0, 0] AHeap.none (by kernel_rfl) none_le ?_
    have hl0 : ¬ (bs.length : Int) = 0 := by omega
    have hlp : (0 : Int) < bs.length := by omega
    have e1 : IntKind.i64.wrap ((p : Int) * 7) = (p : Int) * 7 := w64 (by omega) (by omega)
    have e2 : IntKind.i64.wrap ((p : Int) * 7 + 3) = (p : Int) * 7 + 3 := w64 (by omega) (by omega)
    have j1 := Int.tmod_nonneg (bs.length : Int) (show 0 ≤ (p : Int) by omega)
    have j2 := Int.tmod_lt_of_pos (p : Int) hlp
    have j3 := Int.tmod_nonneg (bs.length : Int) (show 0 ≤ (p : Int) * 7 + 3 by omega)
    have j4 := Int.tmod_lt_of_pos ((p : Int) * 7 + 3) hlp
    have j5 : ((p : Int).tmod bs.length).toNat < bs.length := by omega
    have j6 : (((p : Int) * 7 + 3).tmod bs.length).toNat < bs.length := by omega
    simp +contextual -dsimp -implicitDefEqProofs (maxSteps := 5000000) only [go_sem, reduceIte, reduceCtorEq, Nat.reduceEqDiff, Nat.reduceBEq, Nat.reduceAdd, Nat.reduceLeDiff, Nat.reduceMul, Nat.reduceLT, Int.reduceEq, Int.reduceLT, Int.reduceLE, hw2, hl0, e1, e2, j1, j2, j3, j4, j5, j6]
    have ha := (bs.getD ((p : Int).tmod bs.length).toNat default).toNat_lt
    have hb := (bs.getD (((p : Int) * 7 + 3).tmod bs.length).toNat default).toNat_lt
    generalize (bs.getD ((p : Int).tmod bs.length).toNat default).toNat = a at ha
    generalize (bs.getD (((p : Int) * 7 + 3).tmod bs.length).toNat default).toNat = b at hb
    have hk : 0 < k := by omega
    obtain ⟨z, hz, z0, z1⟩ := pick_val a b p bs.length k (by omega) (by omega) (by omega) (by omega) (by omega) (by omega) hlp hk
    have hd : 0 ≤ (p : Int).tdiv bs.length ∧ (p : Int).tdiv bs.length ≤ p := ⟨Int.tdiv_nonneg (by omega) (by omega), Int.tdiv_le_self _ (by omega)⟩
    generalize (p : Int).tdiv bs.length = q2 at hd hz
    rw [w64 (a := (a : Int)) (by omega) (by omega), w64 (a := (b : Int)) (by omega) (by omega), w64 (a := (a : Int) * 131) (by omega) (by omega), w64 (a := (b : Int) * 1117) (by omega) (by omega),
      w64 (a := (a : Int) * 131 + (b : Int) * 1117) (by omega) (by omega), w64 (a := (p : Int) * 29) (by omega) (by omega), w64 (a := (a : Int) * 131 + (b : Int) * 1117 + (p : Int) * 29) (by omega) (by omega),
      w64 (a := q2) (by omega) (by omega), w64 (a := q2 * 53) (by omega) (by omega), w64 (a := (a : Int) * 131 + (b : Int) * 1117 + (p : Int) * 29 + q2 * 53) (by omega) (by omega)]
    have hd2 : 0 ≤ ((a : Int) * 131 + (b : Int) * 1117 + (p : Int) * 29 + q2 * 53).tdiv 64 ∧ ((a : Int) * 131 + (b : Int) * 1117 + (p : Int) * 29 + q2 * 53).tdiv 64 ≤ (a : Int) * 131 + (b : Int) * 1117 + (p : Int) * 29 + q2 * 53 := ⟨Int.tdiv_nonneg (by omega) (by omega), Int.tdiv_le_self _ (by omega)⟩
    rw [w64 (a := ((a : Int) * 131 + (b : Int) * 1117 + (p : Int) * 29 + q2 * 53).tdiv 64) (by omega) (by omega), hz]
    exact ⟨by omega, hRd z z0 (fun _ => z1) (fun h => by omega)⟩
theorem c_newReader (bs : List UInt8) (cb : Bool) (H : AHeap) : ACalls Try.prog 11 [.vsl (bs.map rU) cb] H fun r H' => ∃ br, r = .ptr br 2 0 0 ∧ Rd H H' br 0 := by
  refine acalls_of0 Try.func11 rfl (by kernel_rfl) rfl rfl (awp_sound (fz := fun _ => []) (im := fun _ => false) mixed _ _ _ _ (by kernel_rfl) ?_)
  simp +contextual -dsimp -implicitDefEqProofs (maxSteps := 5000000) only [go_sem, reduceIte, reduceCtorEq, Nat.reduceEqDiff, Nat.reduceBEq, Nat.reduceAdd, Nat.reduceLeDiff, Nat.reduceMul, Nat.reduceLT, Int.reduceEq, Int.reduceLT, Int.reduceLE]
  refine ⟨fun h => ⟨by omega, fun b hb => ⟨b, rfl, _, _, 0, ?_, Nat.le_refl _, hb, rfl⟩⟩, fun h b hb => ⟨b, rfl, _, _, 0, by omega, Nat.le_refl _, hb, rfl⟩⟩
  simp; omega
theorem c_one (F H : AHeap) (br n : Nat) (l : List Int) (cl : Bool) (h : Rd F H br n) (hn : n < 1000000000) (hl : l ≠ []) : ACalls Try.prog 27 [.ptr br 2 0 0, .vsl (l.map rI) cl] H fun r H' => ∃ v, r = I v ∧ v ∈ l ∧ Rd F H' br (n + 1) := by
  have hp : 0 < l.length := List.length_pos_iff.2 hl
  refine acalls_of0 Try.func27 rfl (by kernel_rfl) rfl rfl (awp_sound (fz := fun _ => []) (im := fun _ => false) mixed _ _ _ _ (by kernel_rfl) ?_)
  simp +contextual -dsimp -implicitDefEqProofs (maxSteps := 5000000) only [go_sem, reduceIte, reduceCtorEq, Nat.reduceEqDiff, Nat.reduceBEq, Nat.reduceAdd, Nat.reduceLeDiff, Nat.reduceMul, Nat.reduceLT, Int.reduceEq, Int.reduceLT, Int.reduceLE]
  refine (c_pick F H br n l.length h hn).mono ?_
  rintro _ H' ⟨v, rfl, v0, v1, v2, hR⟩
  have v3 := v1 (by omega)
  simp +contextual -dsimp -implicitDefEqProofs (maxSteps := 5000000) only [go_sem, reduceIte, reduceCtorEq, Nat.reduceEqDiff, Nat.reduceBEq, Nat.reduceAdd, Nat.reduceLeDiff, Nat.reduceMul, Nat.reduceLT, Int.reduceEq, Int.reduceLT, Int.reduceLE, v0, v3]
  have i1 : v.toNat < l.length := by omega
  refine ⟨i1, l.getD v.toNat default, rfl, ?_, hR⟩
  rw [List.getD_eq_getElem?_getD, List.getElem?_eq_getElem i1]; exact List.getElem_mem i1
theorem c_of (F H : AHeap) (br n : Nat) (l : List Str) (cl : Bool) (h : Rd F H br n) (hn : n < 1000000000) (hl : l ≠ []) : ACalls Try.prog 44 [.ptr br 2 0 0, .vsl (l.map rS) cl] H fun r H' => ∃ v, r = S v ∧ v ∈ l ∧ Rd F H' br (n + 1) := by
  have hp : 0 < l.length := List.length_pos_iff.2 hl
  refine acalls_of0 Try.func44 rfl (by kernel_rfl) rfl rfl (awp_sound (fz := fun _ => []) (im := fun _ => false) mixed _ _ _ _ (by kernel_rfl) ?_)
  simp +contextual -dsimp -implicitDefEqProofs (maxSteps := 5000000) only [go_sem, reduceIte, reduceCtorEq, Nat.reduceEqDiff, Nat.reduceBEq, Nat.reduceAdd, Nat.reduceLeDiff, Nat.reduceMul, Nat.reduceLT, Int.reduceEq, Int.reduceLT, Int.reduceLE]
  refine (c_pick F H br n l.length h hn).mono ?_
  rintro _ H' ⟨v, rfl, v0, v1, v2, hR⟩
  have v3 := v1 (by omega)
  simp +contextual -dsimp -implicitDefEqProofs (maxSteps := 5000000) only [go_sem, reduceIte, reduceCtorEq, Nat.reduceEqDiff, Nat.reduceBEq, Nat.reduceAdd, Nat.reduceLeDiff, Nat.reduceMul, Nat.reduceLT, Int.reduceEq, Int.reduceLT, Int.reduceLE, v0, v3]
  have i1 : v.toNat < l.length := by omega
  refine ⟨i1, l.getD v.toNat default, rfl, ?_, hR⟩
  rw [List.getD_eq_getElem?_getD, List.getElem?_eq_getElem i1]; exact List.getElem_mem i1
end Go.Proofs.Ytihjbbiajggcoaa
end
section
set_option linter.unusedVariables false
set_option linter.unusedSimpArgs false
namespace Go.Proofs.Ytihjbbiajggcoaa
open Go Go.Sim
set_option maxRecDepth 100000
attribute [local go_sem ↓] aw_skip aw_ret aw_exit aw_region aw_draw aw_seq aw_block aw_loop aw_cond frz_nil frz_cons sq_normal sq_ret sq_exit exB_normal exB_ret exB_same exB_other retQ_ret retQ_normal ret0_ret ret0_normal ao_nil go1 g_move g_assign g_pick g_build g_load g_binOp g_unOp g_convert g_fieldAddr g_field g_indexAddr g_index g_extract g_slice g_nilCheck g_len g_makeFunc h_call h_append h_alloc h_box h_buildSlice h_makeSlice h_store gV i_box i_buildSlice i_move i_assign i_build i_load i_binOp i_unOp i_convert i_fieldAddr i_field i_indexAddr i_index i_extract i_slice i_nilCheck i_makeFunc i_len i_max i_min i_alloc i_makeSlice i_store i_append i_call i_pick boxI boxA buildSliceI buildSliceA makeSliceA allocA storeA p_move p_assign p_pick p_build p_load p_binOp p_unOp p_convert p_fieldAddr p_field p_indexAddr p_index p_extract p_slice p_nilCheck p_makeFunc p_len p_max p_min p_alloc p_box p_buildSlice p_makeSlice p_store p_append p_call x_nil x_go1 x_g0 x_g1 x_g2 x_g3 x_s0 x_s1 x_s2 x_s3 u_move u_assign u_pick u_build u_load u_binOp u_unOp u_convert u_fieldAddr u_field u_indexAddr u_index u_extract u_slice u_nilCheck u_makeFunc u_len u_buildSlice x_s4 x_g4 rq_normal rq_ret rq_exit aw_range
attribute [local go_sem] frzV_sl frzK_some set_none set_other AHeap.set_self set_del set_set cnd_t cnd_f cnd_b retA_one retA_two retA_three retA_four retA_nil gIf_b mrgV_b mrgV_wh mrgV_U gIf_U gIf_wh mrgB_f mrgB_some mrgB_if wh_true wh_false keepA_some keepA_if gD_zero gD_succ gT_some bxA_t bxA_f callA_fn ev_tmp ev_const ev_global ev_func oc_bool oc_int oc_string oc_nil oc_nilptr oc_nilfunc cl_bool cl_int cl_string cl_nil updO_some updO_none upd_same upd_other init_at pickA_b pickA_wh selA_t selA_f selA_and selA_or selA_orn selA_orm selA_bb selA_ii beqt b_add b_sub b_mul b_and b_or b_xor b_eql b_neq b_lss b_leq b_gtr b_geq b_quo b_rem b_shr b_seql b_sneq b_sadd b_beql b_bneq b_aeql b_aneq u_not u_neg isConstOp eqA eqCellV List.getD_cons_zero List.getD_cons_succ List.map_cons List.map_nil List.nil_append List.cons_append List.append_nil if_true if_false Option.map_some Option.map_none ne_eq not_false_eq_true oneA ldv ld1v ld1s wr1s ldRow stRow row_lit row_agg row_vsl row_sl row_ptr row_fn one_I one_B one_S one_vsl one_sl one_ptr one_fn extractA okA rI rS rU rClass rFault rExit rStart rLine Int.toNat_natCast List.length_cons List.length_nil List.length_map List.all_cons List.all_nil Bool.and_true Nat.zero_add List.getElem?_cons_zero List.getElem?_cons_succ List.take_succ_cons List.take_zero List.drop_succ_cons List.drop_zero and_self true_and and_true implies_true decide_eq_true_eq decide_eq_false_iff_not Bool.or_eq_true Bool.or_eq_false_iff Bool.and_eq_true Bool.not_eq_true' Bool.not_eq_false' beq_false decide_true decide_false Int.ofNat_lt Int.ofNat_le Int.natCast_nonneg Bool.or_true Bool.or_false Bool.true_or Bool.false_or beq_self_eq_true List.drop_one Bool.not_true Bool.not_false Bool.not_not Bool.false_eq_true Bool.true_eq_false false_implies true_implies Bool.true_and Bool.false_and Bool.and_false not_true_eq_false Int.natCast_eq_zero Int.natCast_pos Int.natCast_zero false_and and_false or_false false_or or_true true_or Bool.or_self none_le_iff List.replicate_zero Int.toNat_zero List.replicate_succ buildRows List.set_cons_zero List.set_cons_succ List.set_nil List.mapM_nil maxLen_eq Nat.zero_le Nat.mul_one Nat.one_mul bldA fillA spliceA List.take_nil List.drop_nil List.getElem?_nil ld1o wr1o bldSliceA le_same cv_i cvI_t quietT_fn qvd_some ld_o ldO_1 ldO_l wr_o wrO_1 set_2 set_3 set_4 putL_nil putL_cons List.zip_cons_cons List.zip_nil_left List.zip_nil_right List.toList_toArray frzV_set ti1 ti2 tk2 ti3 te3 ts3 tk3 tz3 ti4 tb4 ti5 tk5 tz5 ti9 te9 ts9 tk9 tz9 ti12 tk12 ti13 tp13 tf13_0 tf13_1 ti20 ti21 tk21 tz21 ti22 te22 tz22 ti23 te23 ti24 tp24 tf24_0 ti25 tp25 tf25_0 ti26 te26 ti27 tq27 tp27 tf27_0 tf27_1 tf27_2 ti28 tq28 tp28 tf28_0 tf28_1 tf28_2 ti30 ti31 te31 ti32 te32 ti33 tp33 tf33_0 ti34 tp34 tf34_0 ti35 tp35 tf35_0 tf35_1 tf35_2 tf35_3 ti36 tp36 tf36_0 tf36_1 tf36_2 tf36_3 ti37 ti38 ti39 ti40 tq40 tp40 tf40_0 tf40_1 tf40_2 ti41 tq41 tp41 tf41_0 tf41_1 tf41_2 ti42 ti43 ti44 ti45 ti47 ti48 ti49 ti50 ti51 ti52 ti53 ti54 ti55 tp55 tf55_0 tf55_1 ti56 tp56 tf56_0 tf56_1 ti57 ti58 ti59 ti60 ti61 ti62 ti63 ti64 ti65 ti66 ti67 tq67 tp67 tf67_0 tf67_1 ti68 tq68 tp68 tf68_0 tf68_1 ti69 tq69 tp69 tf69_0 tf69_1 tf69_2 tf69_3 tf69_4 ti70 tq70 tp70 tf70_0 tf70_1 tf70_2 tf70_3 tf70_4 ti71 ti72 tp72 tf72_0 tf72_1 tf72_2 ti73 tp73 tf73_0 tf73_1 tf73_2 ti74 ti75 ti77 ti78 tq78 tp78 tf78_0 tf78_1 ti79 tq79 tp79 tf79_0 tf79_1 ti80 ti81 ti82 ti83 ti84 ti85 te85 ti86 ti87 te87 ti88 tp88 tf88_0 tf88_1 tf88_2 tf88_3 tf88_4 ti89 tp89 tf89_0 tf89_1 tf89_2 tf89_3 tf89_4 ti90 ti91 ti92 ti93 ti94 ti95 ti96 ti97 ti98 ti99 ti100 ti101 ti102 ti103 ti104 ti105 ti106 ti107 ti108 ti109 ti110 ti111 ti112 ti113 ti114 ti115 ti116 tk116 tz116 ti117 ti118 tk118 ti120 ti121 ti122 ti124 ti125 ti126 tk126 tz126 ti127 ti128 tk128 tz128 ti129 tk129 ti130 ti131 ti132 ti133 ti134 ti135 ti137 ti138 ti144 ti148 ti153 ti154 tq154 tp154 tf154_0 tf154_1 tf154_2 tf154_3 ti155 tq155 tp155 tf155_0 tf155_1 tf155_2 tf155_3 ti157 fp13_0 fv13_0 fp13_1 fv13_1 fp24_0 fv24_0 fp25_0 fv25_0 fp27_0 fv27_0 fp27_1 fv27_1 fp27_2 fv27_2 fp28_0 fv28_0 fp28_1 fv28_1 fp28_2 fv28_2 fp33_0 fv33_0 fp34_0 fv34_0 fp35_0 fv35_0 fp35_1 fv35_1 fp35_2 fv35_2 fp35_3 fv35_3 fp36_0 fv36_0 fp36_1 fv36_1 fp36_2 fv36_2 fp36_3 fv36_3 fp40_0 fv40_0 fp40_1 fv40_1 fp40_2 fv40_2 fp41_0 fv41_0 fp41_1 fv41_1 fp41_2 fv41_2 fp55_0 fv55_0 fp55_1 fv55_1 fp56_0 fv56_0 fp56_1 fv56_1 fp67_0 fv67_0 fp67_1 fv67_1 fp68_0 fv68_0 fp68_1 fv68_1 fp69_0 fv69_0 fp69_1 fv69_1 fp69_2 fv69_2 fp69_3 fv69_3 fp69_4 fv69_4 fp70_0 fv70_0 fp70_1 fv70_1 fp70_2 fv70_2 fp70_3 fv70_3 fp70_4 fv70_4 fp72_0 fv72_0 fp72_1 fv72_1 fp72_2 fv72_2 fp73_0 fv73_0 fp73_1 fv73_1 fp73_2 fv73_2 fp78_0 fv78_0 fp78_1 fv78_1 fp79_0 fv79_0 fp79_1 fv79_1 fp88_0 fv88_0 fp88_1 fv88_1 fp88_2 fv88_2 fp88_3 fv88_3 fp88_4 fv88_4 fp89_0 fv89_0 fp89_1 fv89_1 fp89_2 fv89_2 fp89_3 fv89_3 fp89_4 fv89_4 fp154_0 fv154_0 fp154_1 fv154_1 fp154_2 fv154_2 fp154_3 fv154_3 fp155_0 fv155_0 fp155_1 fv155_1 fp155_2 fv155_2 fp155_3 fv155_3 lv22 ll22 is22 ix22 sh22 so22 sb22 sm22 sp22 lv23 ll23 is23 ix23 sh23 so23 sb23 sm23 sp23 lv26 ll26 is26 ix26 sh26 so26 sb26 sm26 sp26 lv31 ll31 is31 ix31 sh31 so31 sb31 sm31 sp31 lv32 ll32 is32 ix32 sh32 so32 sb32 sm32 sp32 lv85 ll85 is85 ix85 sh85 so85 sb85 sm85 sp85 lv87 ll87 is87 ix87 sh87 so87 sb87 sm87 sp87 xs9 ls9 sx9 sy9 sz9

/-- A reader's block, asked at most n times. -/
def RdK (n : Nat) (K : ABlk) : Prop := ∃ (bs : List UInt8) (cb : Bool) (p : Nat), bs.length ≤ 2000 ∧ p ≤ n ∧ K = ⟨2, 56, [[.vsl (bs.map rU) cb, I p]]⟩
theorem rdk_mono {n m : Nat} {K : ABlk} (h : RdK n K) (hm : n ≤ m) : RdK m K := by
  obtain ⟨bs, cb, p, h1, h2, h3⟩ := h
  exact ⟨bs, cb, p, h1, Nat.le_trans h2 hm, h3⟩
theorem rd_of {F : AHeap} {br n : Nat} {K : ABlk} (h : RdK n K) (hF : F br = none) : Rd F (F.set br K) br n := by
  obtain ⟨bs, cb, p, h1, h2, rfl⟩ := h
  exact ⟨bs, cb, p, h1, h2, hF, rfl⟩
theorem rd_to {F H : AHeap} {br n : Nat} (h : Rd F H br n) : ∃ K, RdK n K ∧ H = F.set br K := by
  obtain ⟨bs, cb, p, h1, h2, h3, rfl⟩ := h
  exact ⟨_, ⟨bs, cb, p, h1, h2, rfl⟩, rfl⟩
theorem k_pick {F : AHeap} {br n : Nat} {K : ABlk} (k : Int) (h : RdK n K) (hF : F br = none) (hn : n < 1000000000) {H : AHeap} (hH : H = F.set br K) {Q : AV → AHeap → Prop}
    (k0 : ∀ (v : Int) K', 0 ≤ v → (0 < k → v < k) → (k ≤ 0 → v = 0) → RdK (n + 1) K' → Q (I v) (F.set br K')) : ACalls Try.prog 26 [.ptr br 2 0 0, I k] H Q := by
  subst hH
  refine (c_pick F _ br n k (rd_of h hF) hn).mono ?_
  rintro _ H' ⟨v, rfl, v0, v1, v2, hR⟩
  obtain ⟨K', hK, rfl⟩ := rd_to hR
  exact k0 v K' v0 v1 v2 hK
theorem k_one {F : AHeap} {br n : Nat} {K : ABlk} (l : List Int) (cl : Bool) (h : RdK n K) (hF : F br = none) (hn : n < 1000000000) (hl : l ≠ []) {H : AHeap} (hH : H = F.set br K) {Q : AV → AHeap → Prop} {es : List (List AV)} (hes : es = l.map rI)
    (k0 : ∀ (v : Int) K', v ∈ l → RdK (n + 1) K' → Q (I v) (F.set br K')) : ACalls Try.prog 27 [.ptr br 2 0 0, .vsl es cl] H Q := by
  subst hH hes
  refine (c_one F _ br n l cl (rd_of h hF) hn hl).mono ?_
  rintro _ H' ⟨v, rfl, v0, hR⟩
  obtain ⟨K', hK, rfl⟩ := rd_to hR
  exact k0 v K' v0 hK
theorem k_of {F : AHeap} {br n : Nat} {K : ABlk} (l : List Str) (cl : Bool) (h : RdK n K) (hF : F br = none) (hn : n < 1000000000) (hl : l ≠ []) {H : AHeap} (hH : H = F.set br K) {Q : AV → AHeap → Prop} {es : List (List AV)} (hes : es = l.map rS)
    (k0 : ∀ (v : Str) K', v ∈ l → RdK (n + 1) K' → Q (S v) (F.set br K')) : ACalls Try.prog 44 [.ptr br 2 0 0, .vsl es cl] H Q := by
  subst hH hes
  refine (c_of F _ br n l cl (rd_of h hF) hn hl).mono ?_
  rintro _ H' ⟨v, rfl, v0, hR⟩
  obtain ⟨K', hK, rfl⟩ := rd_to hR
  exact k0 v K' v0 hK

def treeNames : List Str := [[97, 110, 121], [105, 111], [107, 101, 121], [116, 105, 109, 101], [110, 101, 116], [100, 105, 115, 107], [116, 121, 112, 101], [111, 100, 100]]
theorem treeNames_len : treeNames.length = 8 := rfl
def shortNames (l : List Class) : Prop := ∀ c ∈ l, c.name.length ≤ 10
theorem short_ok {l : List Class} (h : shortNames l) : namesOk l := fun c hc => by have := h c hc; omega
theorem c_goodTree (F : AHeap) (br n : Nat) (K : ABlk) (h : RdK n K) (hF : F br = none) (hn : n < 900000000) : ACalls Try.prog 43 [.ptr br 2 0 0] (F.set br K) fun r H' =>
    ∃ x l G K', r = .agg [x] ∧ Grow rClass 2 79 F G x l ∧ G br = none ∧ H' = G.set br K' ∧ RdK (n + 20) K' ∧ 1 ≤ l.length ∧ l.length ≤ 8 ∧ shortNames l := by
  refine acalls_of1 Try.func43 rfl (by kernel_rfl) rfl rfl (awp_sound (fz := fun _ => []) (im := fun s => s == 7 || s == 12) mixed _ _ _ _ (by kernel_rfl) ?_)
  simp +contextual -dsimp -implicitDefEqProofs (maxSteps := 5000000) only [go_sem, reduceIte, reduceCtorEq, Nat.reduceEqDiff, Nat.reduceBEq, Nat.reduceAdd, Nat.reduceLeDiff, Nat.reduceMul, Nat.reduceLT, Int.reduceEq, Int.reduceLT, Int.reduceLE]
  rintro b2 ⟨p1, p2, hb2⟩ b9 ⟨q1, q2, q3, q4, hb9⟩ b4 ⟨m1, m2, m3, m4, m5, m6, hb4⟩
  have hg0 : Grow rClass 2 79 F (F.set b9 ⟨2, 79, [⟨[97, 110, 121], -1⟩].map rClass⟩) (.sl b9 2 0 1 true) [⟨[97, 110, 121], -1⟩] := .inr ⟨b9, true, hb9, rfl, rfl⟩
  have hH : (((F.set br K).set b2 ⟨1, 25, [[.vsl [] true]]⟩).set b9 ⟨2, 79, [[S [97, 110, 121], I (-1)]]⟩).set b4 ⟨1, 25, [[.sl b9 2 0 1 true]]⟩ =
      (((F.set b9 ⟨2, 79, [⟨[97, 110, 121], -1⟩].map rClass⟩).set b2 ⟨1, 25, [[.vsl [] true]]⟩).set b4 ⟨1, 25, [[.sl b9 2 0 1 true]]⟩).set br K := by
    rw [set_comm (H := F) (Ne.symm p1), set_comm (H := F.set b2 _) (Ne.symm q3), set_comm (H := (F.set b2 _).set b9 _) (Ne.symm m5), set_comm (H := F) (Ne.symm q1)]
    rfl
  rw [hH]
  have e2 : (F.set b9 ⟨2, 79, [⟨[97, 110, 121], -1⟩].map rClass⟩) b2 = none := by rw [set_other q2]; exact hb2
  have e4 : (F.set b9 ⟨2, 79, [⟨[97, 110, 121], -1⟩].map rClass⟩) b4 = none := by rw [set_other m1]; exact hb4
  have er : (F.set b9 ⟨2, 79, [⟨[97, 110, 121], -1⟩].map rClass⟩) br = none := by rw [set_other q4]; exact hF
  generalize F.set b9 ⟨2, 79, [⟨[97, 110, 121], -1⟩].map rClass⟩ = G0 at hg0 e2 e4 er ⊢
  generalize AV.sl b9 2 0 1 true = x0 at hg0 ⊢
  have none3 : ∀ (G : AHeap) (K2 K4 : ABlk), G br = none → ((G.set b2 K2).set b4 K4) br = none := fun G K2 K4 h => by rw [set_other m6, set_other p2]; exact h
  refine k_one [4, 5, 3, 6, 2, 1, 8] _ h (none3 _ _ _ er) (by omega) (by simp) rfl rfl fun v K1 hv hK1 => ?_
  have hv8 : 1 ≤ v ∧ v ≤ 8 := by simp at hv; omega
  clear hH
  simp +contextual -dsimp -implicitDefEqProofs (maxSteps := 5000000) only [go_sem, reduceIte, reduceCtorEq, Nat.reduceEqDiff, Nat.reduceBEq, Nat.reduceAdd, Nat.reduceLeDiff, Nat.reduceMul, Nat.reduceLT, Int.reduceEq, Int.reduceLT, Int.reduceLE]
  refine aloop mixed (fz := fun _ => []) (im := fun s => s == 7 || s == 12) (by kernel_rfl) (fun m tm H' => ∃ (i : Nat) (G : AHeap) (x : AV) (l : List Class) (K : ABlk), m = v.toNat - i ∧ 1 ≤ i ∧ i ≤ v ∧ l.length = i ∧ shortNames l ∧ Grow rClass 2 79 F G x l ∧ G b2 = none ∧ G b4 = none ∧ G br = none ∧ RdK (n + 2 + 2 * i) K ∧
    H' = ((G.set b2 ⟨1, 25, [[.vsl [] true]]⟩).set b4 ⟨1, 25, [[x]]⟩).set br K ∧ tm 0 = .ptr br 2 0 0 ∧ tm 2 = .ptr b2 1 0 0 ∧ tm 3 = .vsl (treeNames.map rS) true ∧ tm 4 = .ptr b4 1 0 0 ∧ tm 5 = I v ∧ tm 6 = I i) (v.toNat - 1) ⟨1, G0, x0, _, K1, rfl, by omega, by omega, rfl, ?_, hg0, e2, e4, er, rdk_mono hK1 (by omega), rfl, ?_⟩ ?_
  · intro c hc; simp at hc; subst hc; decide
  · simp +contextual -dsimp -implicitDefEqProofs (maxSteps := 5000000) only [go_sem, reduceIte, reduceCtorEq, Nat.reduceEqDiff, Nat.reduceBEq, Nat.reduceAdd, Nat.reduceLeDiff, Nat.reduceMul, Nat.reduceLT, Int.reduceEq, Int.reduceLT, Int.reduceLE]
    exact ⟨rfl, rfl⟩
  · rintro m tm H' ⟨i, G, x, l, K, rfl, hi1, hi, hl, hs, hg, f2, f4, fr, hK, rfl, t0, t2, t3, t4, t5, t6⟩
    obtain ⟨r1, r2⟩ := one_grow hg
    simp +contextual -dsimp -implicitDefEqProofs (maxSteps := 5000000) only [go_sem, reduceIte, reduceCtorEq, Nat.reduceEqDiff, Nat.reduceBEq, Nat.reduceAdd, Nat.reduceLeDiff, Nat.reduceMul, Nat.reduceLT, Int.reduceEq, Int.reduceLT, Int.reduceLE, t0, t2, t3, t4, t5, t6, p1, p2, m3, m4, m5, m6, r1, r2]
    refine ⟨fun hlt => ?_, fun hge => ?_⟩
    · refine draw_intro [0, 1, 0, 0, 0, 1, 0, 0, 0, 3, 0, 0, 0, 3, 0, 0, 2, 0, 2] ((G.set b2 ⟨1, 25, [[.vsl [] true]]⟩).set b4 ⟨1, 25, [[x]]⟩) (by kernel_rfl) (le_set (none3 _ _ _ fr)) ?_
      have i8 : i < 8 := by omega
      have hnm : (treeNames.getD i default).length ≤ 10 := by
        have : ∀ j, j < 8 → (treeNames.getD j default).length ≤ 10 := by decide
        exact this i i8
      simp +contextual -dsimp -implicitDefEqProofs (maxSteps := 5000000) only [go_sem, reduceIte, reduceCtorEq, Nat.reduceEqDiff, Nat.reduceBEq, Nat.reduceAdd, Nat.reduceLeDiff, Nat.reduceMul, Nat.reduceLT, Int.reduceEq, Int.reduceLT, Int.reduceLE, t0, t2, t3, t4, t5, t6, p1, p2, m3, m4, m5, m6, r1, r2, treeNames_len, i8]
      refine k_pick i hK (none3 _ _ _ fr) (by omega) rfl fun u K2 u0 u1 u2 hK2 => ⟨le_set (none3 _ _ _ fr), ?_⟩
      simp +contextual -dsimp -implicitDefEqProofs (maxSteps := 5000000) only [go_sem, reduceIte, reduceCtorEq, Nat.reduceEqDiff, Nat.reduceBEq, Nat.reduceAdd, Nat.reduceLeDiff, Nat.reduceMul, Nat.reduceLT, Int.reduceEq, Int.reduceLT, Int.reduceLE, t0, t2, t3, t4, t5, t6, p1, p2, m3, m4, m5, m6, r1, r2, treeNames_len, i8]
      refine k_one [0, u, IntKind.i64.wrap ((i : Int) - 1)] _ hK2 (none3 _ _ _ fr) (by omega) (by simp) rfl rfl fun z K3 hz hK3 => ⟨le_set (none3 _ _ _ fr), ?_⟩
      simp +contextual -dsimp -implicitDefEqProofs (maxSteps := 5000000) only [go_sem, reduceIte, reduceCtorEq, Nat.reduceEqDiff, Nat.reduceBEq, Nat.reduceAdd, Nat.reduceLeDiff, Nat.reduceMul, Nat.reduceLT, Int.reduceEq, Int.reduceLT, Int.reduceLE, t0, t2, t3, t4, t5, t6, p1, p2, m3, m4, m5, m6, r1, r2, treeNames_len, i8]
      have f4' : (G.set b2 ⟨1, 25, [[.vsl [] true]]⟩) b4 = none := by rw [set_other m3]; exact f4
      refine grow_append (m := [⟨treeNames.getD i default, z⟩]) te23 ti79 rClass_len (by decide) (grow_in (grow_in (grow_in hg f2) f4') (none3 _ _ _ fr)) (by simp; omega) (by simp; omega) rfl fun x' H' hg' => ?_
      have g2 := grow_none hg f2
      have g4 := grow_none hg f4
      have gr := grow_none hg fr
      obtain ⟨G1, hg1, rfl, u7⟩ := grow_out hg' (none3 _ _ _ gr)
      obtain ⟨G2, hg2, rfl, u6⟩ := grow_out hg1 (by rw [set_other m3]; exact g4)
      obtain ⟨G3, hg3, rfl, u5⟩ := grow_out hg2 g2
      obtain ⟨r3, r4⟩ := one_grow hg3
      rw [set_other m3] at u6
      rw [set_other m6, set_other p2] at u7
      simp +contextual -dsimp -implicitDefEqProofs (maxSteps := 5000000) only [go_sem, reduceIte, reduceCtorEq, Nat.reduceEqDiff, Nat.reduceBEq, Nat.reduceAdd, Nat.reduceLeDiff, Nat.reduceMul, Nat.reduceLT, Int.reduceEq, Int.reduceLT, Int.reduceLE, t0, t2, t3, t4, t5, t6, p1, p2, m3, m4, m5, m6, r1, r2, r3, r4, treeNames_len, i8]
      refine ⟨_, ?_, i + 1, G3, x', l ++ [⟨treeNames.getD i default, z⟩], K3, rfl, by omega, by omega, by simp [hl], ?_, hg3, u5, u6, u7, rdk_mono hK3 (by omega), rfl, I_wrap (by simp) (by omega) (by omega)⟩
      · omega
      · intro c hc
        rcases List.mem_append.1 hc with q | q
        · exact hs c q
        · simp at q; subst q; exact hnm
    · refine retR_less (l := [.agg [x]]) (H' := G.set br K) ?_ (fun c k hc => ?_) ⟨x, l, G, K, rfl, hg, fr, rfl, rdk_mono hK (by omega), by omega, by omega, hs⟩
      · simp only [resA, go_sem, reduceIte, reduceCtorEq, Nat.reduceEqDiff, Nat.reduceBEq, Nat.reduceAdd, Nat.reduceLeDiff, Nat.reduceMul, Nat.reduceLT, Int.reduceEq, Int.reduceLT, Int.reduceLE, p1, p2, m3, m4, m5, m6, t2]
      · by_cases c0 : c = br
        · subst c0; rw [AHeap.set_self] at hc ⊢; exact hc
        · rw [set_other c0] at hc
          have c1 : c ≠ b2 := fun e => by rw [e, f2] at hc; cases hc
          have c2 : c ≠ b4 := fun e => by rw [e, f4] at hc; cases hc
          rw [set_other c0, set_other c2, set_other c1]; exact hc
end Go.Proofs.Ytihjbbiajggcoaa
end
section
set_option linter.unusedVariables false
set_option linter.unusedSimpArgs false
namespace Go.Proofs.Ytihjbbiajggcoaa
open Go Go.Sim
set_option maxRecDepth 100000
attribute [local go_sem ↓] aw_skip aw_ret aw_exit aw_region aw_draw aw_seq aw_block aw_loop aw_cond frz_nil frz_cons sq_normal sq_ret sq_exit exB_normal exB_ret exB_same exB_other retQ_ret retQ_normal ret0_ret ret0_normal ao_nil go1 g_move g_assign g_pick g_build g_load g_binOp g_unOp g_convert g_fieldAddr g_field g_indexAddr g_index g_extract g_slice g_nilCheck g_len g_makeFunc h_call h_append h_alloc h_box h_buildSlice h_makeSlice h_store gV i_box i_buildSlice i_move i_assign i_build i_load i_binOp i_unOp i_convert i_fieldAddr i_field i_indexAddr i_index i_extract i_slice i_nilCheck i_makeFunc i_len i_max i_min i_alloc i_makeSlice i_store i_append i_call i_pick boxI boxA buildSliceI buildSliceA makeSliceA allocA storeA p_move p_assign p_pick p_build p_load p_binOp p_unOp p_convert p_fieldAddr p_field p_indexAddr p_index p_extract p_slice p_nilCheck p_makeFunc p_len p_max p_min p_alloc p_box p_buildSlice p_makeSlice p_store p_append p_call x_nil x_go1 x_g0 x_g1 x_g2 x_g3 x_s0 x_s1 x_s2 x_s3 u_move u_assign u_pick u_build u_load u_binOp u_unOp u_convert u_fieldAddr u_field u_indexAddr u_index u_extract u_slice u_nilCheck u_makeFunc u_len u_buildSlice x_s4 x_g4 rq_normal rq_ret rq_exit aw_range
attribute [local go_sem] frzV_sl frzK_some set_none set_other AHeap.set_self set_del set_set cnd_t cnd_f cnd_b retA_one retA_two retA_three retA_four retA_nil gIf_b mrgV_b mrgV_wh mrgV_U gIf_U gIf_wh mrgB_f mrgB_some mrgB_if wh_true wh_false keepA_some keepA_if gD_zero gD_succ gT_some bxA_t bxA_f callA_fn ev_tmp ev_const ev_global ev_func oc_bool oc_int oc_string oc_nil oc_nilptr oc_nilfunc cl_bool cl_int cl_string cl_nil updO_some updO_none upd_same upd_other init_at pickA_b pickA_wh selA_t selA_f selA_and selA_or selA_orn selA_orm selA_bb selA_ii beqt b_add b_sub b_mul b_and b_or b_xor b_eql b_neq b_lss b_leq b_gtr b_geq b_quo b_rem b_shr b_seql b_sneq b_sadd b_beql b_bneq b_aeql b_aneq u_not u_neg isConstOp eqA eqCellV List.getD_cons_zero List.getD_cons_succ List.map_cons List.map_nil List.nil_append List.cons_append List.append_nil if_true if_false Option.map_some Option.map_none ne_eq not_false_eq_true oneA ldv ld1v ld1s wr1s ldRow stRow row_lit row_agg row_vsl row_sl row_ptr row_fn one_I one_B one_S one_vsl one_sl one_ptr one_fn extractA okA rI rS rU rClass rFault rExit rStart rLine Int.toNat_natCast List.length_cons List.length_nil List.length_map List.all_cons List.all_nil Bool.and_true Nat.zero_add List.getElem?_cons_zero List.getElem?_cons_succ List.take_succ_cons List.take_zero List.drop_succ_cons List.drop_zero and_self true_and and_true implies_true decide_eq_true_eq decide_eq_false_iff_not Bool.or_eq_true Bool.or_eq_false_iff Bool.and_eq_true Bool.not_eq_true' Bool.not_eq_false' beq_false decide_true decide_false Int.ofNat_lt Int.ofNat_le Int.natCast_nonneg Bool.or_true Bool.or_false Bool.true_or Bool.false_or beq_self_eq_true List.drop_one Bool.not_true Bool.not_false Bool.not_not Bool.false_eq_true Bool.true_eq_false false_implies true_implies Bool.true_and Bool.false_and Bool.and_false not_true_eq_false Int.natCast_eq_zero Int.natCast_pos Int.natCast_zero false_and and_false or_false false_or or_true true_or Bool.or_self none_le_iff List.replicate_zero Int.toNat_zero List.replicate_succ buildRows List.set_cons_zero List.set_cons_succ List.set_nil List.mapM_nil maxLen_eq Nat.zero_le Nat.mul_one Nat.one_mul bldA fillA spliceA List.take_nil List.drop_nil List.getElem?_nil ld1o wr1o bldSliceA le_same cv_i cvI_t quietT_fn qvd_some ld_o ldO_1 ldO_l wr_o wrO_1 set_2 set_3 set_4 putL_nil putL_cons List.zip_cons_cons List.zip_nil_left List.zip_nil_right List.toList_toArray frzV_set ti1 ti2 tk2 ti3 te3 ts3 tk3 tz3 ti4 tb4 ti5 tk5 tz5 ti9 te9 ts9 tk9 tz9 ti12 tk12 ti13 tp13 tf13_0 tf13_1 ti20 ti21 tk21 tz21 ti22 te22 tz22 ti23 te23 ti24 tp24 tf24_0 ti25 tp25 tf25_0 ti26 te26 ti27 tq27 tp27 tf27_0 tf27_1 tf27_2 ti28 tq28 tp28 tf28_0 tf28_1 tf28_2 ti30 ti31 te31 ti32 te32 ti33 tp33 tf33_0 ti34 tp34 tf34_0 ti35 tp35 tf35_0 tf35_1 tf35_2 tf35_3 ti36 tp36 tf36_0 tf36_1 tf36_2 tf36_3 ti37 ti38 ti39 ti40 tq40 tp40 tf40_0 tf40_1 tf40_2 ti41 tq41 tp41 tf41_0 tf41_1 tf41_2 ti42 ti43 ti44 ti45 ti47 ti48 ti49 ti50 ti51 ti52 ti53 ti54 ti55 tp55 tf55_0 tf55_1 ti56 tp56 tf56_0 tf56_1 ti57 ti58 ti59 ti60 ti61 ti62 ti63 ti64 ti65 ti66 ti67 tq67 tp67 tf67_0 tf67_1 ti68 tq68 tp68 tf68_0 tf68_1 ti69 tq69 tp69 tf69_0 tf69_1 tf69_2 tf69_3 tf69_4 ti70 tq70 tp70 tf70_0 tf70_1 tf70_2 tf70_3 tf70_4 ti71 ti72 tp72 tf72_0 tf72_1 tf72_2 ti73 tp73 tf73_0 tf73_1 tf73_2 ti74 ti75 ti77 ti78 tq78 tp78 tf78_0 tf78_1 ti79 tq79 tp79 tf79_0 tf79_1 ti80 ti81 ti82 ti83 ti84 ti85 te85 ti86 ti87 te87 ti88 tp88 tf88_0 tf88_1 tf88_2 tf88_3 tf88_4 ti89 tp89 tf89_0 tf89_1 tf89_2 tf89_3 tf89_4 ti90 ti91 ti92 ti93 ti94 ti95 ti96 ti97 ti98 ti99 ti100 ti101 ti102 ti103 ti104 ti105 ti106 ti107 ti108 ti109 ti110 ti111 ti112 ti113 ti114 ti115 ti116 tk116 tz116 ti117 ti118 tk118 ti120 ti121 ti122 ti124 ti125 ti126 tk126 tz126 ti127 ti128 tk128 tz128 ti129 tk129 ti130 ti131 ti132 ti133 ti134 ti135 ti137 ti138 ti144 ti148 ti153 ti154 tq154 tp154 tf154_0 tf154_1 tf154_2 tf154_3 ti155 tq155 tp155 tf155_0 tf155_1 tf155_2 tf155_3 ti157 fp13_0 fv13_0 fp13_1 fv13_1 fp24_0 fv24_0 fp25_0 fv25_0 fp27_0 fv27_0 fp27_1 fv27_1 fp27_2 fv27_2 fp28_0 fv28_0 fp28_1 fv28_1 fp28_2 fv28_2 fp33_0 fv33_0 fp34_0 fv34_0 fp35_0 fv35_0 fp35_1 fv35_1 fp35_2 fv35_2 fp35_3 fv35_3 fp36_0 fv36_0 fp36_1 fv36_1 fp36_2 fv36_2 fp36_3 fv36_3 fp40_0 fv40_0 fp40_1 fv40_1 fp40_2 fv40_2 fp41_0 fv41_0 fp41_1 fv41_1 fp41_2 fv41_2 fp55_0 fv55_0 fp55_1 fv55_1 fp56_0 fv56_0 fp56_1 fv56_1 fp67_0 fv67_0 fp67_1 fv67_1 fp68_0 fv68_0 fp68_1 fv68_1 fp69_0 fv69_0 fp69_1 fv69_1 fp69_2 fv69_2 fp69_3 fv69_3 fp69_4 fv69_4 fp70_0 fv70_0 fp70_1 fv70_1 fp70_2 fv70_2 fp70_3 fv70_3 fp70_4 fv70_4 fp72_0 fv72_0 fp72_1 fv72_1 fp72_2 fv72_2 fp73_0 fv73_0 fp73_1 fv73_1 fp73_2 fv73_2 fp78_0 fv78_0 fp78_1 fv78_1 fp79_0 fv79_0 fp79_1 fv79_1 fp88_0 fv88_0 fp88_1 fv88_1 fp88_2 fv88_2 fp88_3 fv88_3 fp88_4 fv88_4 fp89_0 fv89_0 fp89_1 fv89_1 fp89_2 fv89_2 fp89_3 fv89_3 fp89_4 fv89_4 fp154_0 fv154_0 fp154_1 fv154_1 fp154_2 fv154_2 fp154_3 fv154_3 fp155_0 fv155_0 fp155_1 fv155_1 fp155_2 fv155_2 fp155_3 fv155_3 lv22 ll22 is22 ix22 sh22 so22 sb22 sm22 sp22 lv23 ll23 is23 ix23 sh23 so23 sb23 sm23 sp23 lv26 ll26 is26 ix26 sh26 so26 sb26 sm26 sp26 lv31 ll31 is31 ix31 sh31 so31 sb31 sm31 sp31 lv32 ll32 is32 ix32 sh32 so32 sb32 sm32 sp32 lv85 ll85 is85 ix85 sh85 so85 sb85 sm85 sp85 lv87 ll87 is87 ix87 sh87 so87 sb87 sm87 sp87 xs9 ls9 sx9 sy9 sz9

theorem br_out {F : AHeap} {br b : Nat} {K K2 : ABlk} (h : b ≠ br) : (F.set br K).set b K2 = (F.set b K2).set br K := set_comm (Ne.symm h)
theorem le_ch {F G : AHeap} {br : Nat} {K : ABlk} (h : AHeap.le F G) : AHeap.le (F.set br K) (G.set br K) := by
  intro c k hc
  by_cases c0 : c = br
  · subst c0; rw [AHeap.set_self] at hc ⊢; exact hc
  · rw [set_other c0] at hc ⊢; exact h c k hc
theorem le_s1 {F G : AHeap} {b : Nat} {A : ABlk} (h : AHeap.le F G) (hb : F b = none) : AHeap.le F (G.set b A) := by
  intro c k hc
  have c1 : c ≠ b := fun e => by rw [e, hb] at hc; cases hc
  rw [set_other c1]; exact h c k hc
theorem c_aClass (F : AHeap) (br n : Nat) (K : ABlk) (t : List Class) (cl : Bool) (h : RdK n K) (hF : F br = none) (hn : n < 900000000) : ACalls Try.prog 28 [.ptr br 2 0 0, aTree t cl] (F.set br K) fun r H' => ∃ v K', r = I v ∧ RdK (n + 2) K' ∧ H' = F.set br K' := by
  refine acalls_len1 (by kernel_rfl) (List.mem_cons_of_mem _ (List.mem_cons_self ..)) fun hl => ?_
  refine acalls_of0 Try.func28 rfl (by kernel_rfl) rfl rfl (awp_sound (fz := fun _ => []) (im := fun s => s == 3 || s == 12) mixed _ _ _ _ (by kernel_rfl) ?_)
  simp +contextual -dsimp -implicitDefEqProofs (maxSteps := 5000000) only [go_sem, reduceIte, reduceCtorEq, Nat.reduceEqDiff, Nat.reduceBEq, Nat.reduceAdd, Nat.reduceLeDiff, Nat.reduceMul, Nat.reduceLT, Int.reduceEq, Int.reduceLT, Int.reduceLE]
  refine k_pick 16 h hF (by omega) rfl fun v K1 v0 v1 v2 hK1 => ?_
  simp +contextual -dsimp -implicitDefEqProofs (maxSteps := 5000000) only [go_sem, reduceIte, reduceCtorEq, Nat.reduceEqDiff, Nat.reduceBEq, Nat.reduceAdd, Nat.reduceLeDiff, Nat.reduceMul, Nat.reduceLT, Int.reduceEq, Int.reduceLT, Int.reduceLE]
  refine ⟨fun hv => ?_, fun hv => ?_⟩
  · refine k_one [-1, t.length, 8] _ hK1 hF (by omega) (by simp) rfl rfl fun v K1 hv hK1 => ?_
    simp +contextual -dsimp -implicitDefEqProofs (maxSteps := 5000000) only [go_sem, reduceIte, reduceCtorEq, Nat.reduceEqDiff, Nat.reduceBEq, Nat.reduceAdd, Nat.reduceLeDiff, Nat.reduceMul, Nat.reduceLT, Int.reduceEq, Int.reduceLT, Int.reduceLE]
    exact ⟨_, _, rfl, hK1, rfl⟩
  · refine k_pick t.length hK1 hF (by omega) rfl fun v K1 v0 v1 v2 hK1 => ?_
    simp +contextual -dsimp -implicitDefEqProofs (maxSteps := 5000000) only [go_sem, reduceIte, reduceCtorEq, Nat.reduceEqDiff, Nat.reduceBEq, Nat.reduceAdd, Nat.reduceLeDiff, Nat.reduceMul, Nat.reduceLT, Int.reduceEq, Int.reduceLT, Int.reduceLE]
    exact ⟨_, _, rfl, hK1, rfl⟩
theorem c_anExit (F : AHeap) (br n : Nat) (K : ABlk) (t : List Class) (cl : Bool) (h : RdK n K) (hF : F br = none) (hn : n < 900000000) : ACalls Try.prog 45 [.ptr br 2 0 0, aTree t cl] (F.set br K) fun r H' => ∃ e K', r = .agg (rExit e) ∧ RdK (n + 3) K' ∧ H' = F.set br K' := by
  refine acalls_len1 (by kernel_rfl) (List.mem_cons_of_mem _ (List.mem_cons_self ..)) fun hl => ?_
  refine acalls_of1 Try.func45 rfl (by kernel_rfl) rfl rfl (awp_sound (fz := fun _ => []) (im := fun s => s == 3 || s == 19 || s == 26) mixed _ _ _ _ (by kernel_rfl) ?_)
  simp +contextual -dsimp -implicitDefEqProofs (maxSteps := 5000000) only [go_sem, reduceIte, reduceCtorEq, Nat.reduceEqDiff, Nat.reduceBEq, Nat.reduceAdd, Nat.reduceLeDiff, Nat.reduceMul, Nat.reduceLT, Int.reduceEq, Int.reduceLT, Int.reduceLE]
  rintro b4 ⟨p1, p2, hb4⟩
  have n4 : ∀ K4, (F.set b4 K4) br = none := fun K4 => by rw [set_other p2]; exact hF
  refine k_pick 4 h (n4 _) (by omega) (br_out p1) fun v K1 v0 v1 v2 hK1 => ?_
  simp +contextual -dsimp -implicitDefEqProofs (maxSteps := 5000000) only [go_sem, reduceIte, reduceCtorEq, Nat.reduceEqDiff, Nat.reduceBEq, Nat.reduceAdd, Nat.reduceLeDiff, Nat.reduceMul, Nat.reduceLT, Int.reduceEq, Int.reduceLT, Int.reduceLE]
  rintro b5 ⟨q1, q2, q3, q4, hb5⟩
  rw [br_out q1]
  have n5 : ∀ K4 K5, ((F.set b4 K4).set b5 K5) br = none := fun K4 K5 => by rw [set_other q2]; exact n4 _
  have fin : ∀ (K2 K3 : ABlk) (a b : Int) (tm : Tm), RdK (n + 3) K3 → tm 4 = .ptr b4 3 0 0 → retR Try.prog [.cell 4 41] (fun r H' => ∃ e K', r = .agg (rExit e) ∧ RdK (n + 3) K' ∧ H' = F.set br K') tm (((F.set b4 ⟨3, 41, [[I v, I a, I b]]⟩).set b5 K2).set br K3) := by
    intro K2 K3 a b tm hK h4
    refine retR_less (l := [.agg [I v, I a, I b]]) (H' := F.set br K3) ?_ (le_ch (le_s1 (le_s1 (AHeap.le_refl _) hb4) hb5)) ⟨⟨v, a, b⟩, K3, rfl, hK, rfl⟩
    simp only [resA, go_sem, reduceIte, reduceCtorEq, Nat.reduceEqDiff, Nat.reduceBEq, Nat.reduceAdd, Nat.reduceLeDiff, Nat.reduceMul, Nat.reduceLT, Int.reduceEq, Int.reduceLT, Int.reduceLE, p1, p2, q1, q2, q3, q4, h4]
  refine ⟨fun hv => ?_, fun hv => ?_⟩
  · refine k_pick t.length hK1 (n5 _ _) (by omega) rfl fun a K2 _ _ _ hK2 => ?_
    simp +contextual -dsimp -implicitDefEqProofs (maxSteps := 5000000) only [go_sem, reduceIte, reduceCtorEq, Nat.reduceEqDiff, Nat.reduceBEq, Nat.reduceAdd, Nat.reduceLeDiff, Nat.reduceMul, Nat.reduceLT, Int.reduceEq, Int.reduceLT, Int.reduceLE, p1, p2, q1, q2, q3, q4]
    refine ⟨fun h3 => ?_, fun h3 => ?_⟩
    · subst h3
      refine k_one [1, 2, 3] _ hK2 (n5 _ _) (by omega) (by simp) rfl rfl fun b K3 _ hK3 => ?_
      simp +contextual -dsimp -implicitDefEqProofs (maxSteps := 5000000) only [go_sem, reduceIte, reduceCtorEq, Nat.reduceEqDiff, Nat.reduceBEq, Nat.reduceAdd, Nat.reduceLeDiff, Nat.reduceMul, Nat.reduceLT, Int.reduceEq, Int.reduceLT, Int.reduceLE, p1, p2, q1, q2, q3, q4]
      refine fin _ K3 a b _ hK3 ?_
      rfl
    · refine fin _ K2 a 0 _ (rdk_mono hK2 (by omega)) ?_
      rfl
  · refine k_one [1, 2, 3, 0, 99] _ hK1 (n5 _ _) (by omega) (by simp) rfl rfl fun a K2 _ hK2 => ?_
    simp +contextual -dsimp -implicitDefEqProofs (maxSteps := 5000000) only [go_sem, reduceIte, reduceCtorEq, Nat.reduceEqDiff, Nat.reduceBEq, Nat.reduceAdd, Nat.reduceLeDiff, Nat.reduceMul, Nat.reduceLT, Int.reduceEq, Int.reduceLT, Int.reduceLE, p1, p2, q1, q2, q3, q4]
    refine ⟨fun h3 => ?_, fun h3 => ?_⟩
    · subst h3
      refine k_one [1, 2, 3] _ hK2 (n5 _ _) (by omega) (by simp) rfl rfl fun b K3 _ hK3 => ?_
      simp +contextual -dsimp -implicitDefEqProofs (maxSteps := 5000000) only [go_sem, reduceIte, reduceCtorEq, Nat.reduceEqDiff, Nat.reduceBEq, Nat.reduceAdd, Nat.reduceLeDiff, Nat.reduceMul, Nat.reduceLT, Int.reduceEq, Int.reduceLT, Int.reduceLE, p1, p2, q1, q2, q3, q4]
      refine fin _ K3 a b _ hK3 ?_
      rfl
    · refine fin _ K2 a 0 _ (rdk_mono hK2 (by omega)) ?_
      rfl
theorem c_goodExits (F : AHeap) (br n : Nat) (K : ABlk) (t : List Class) (cl : Bool) (h : RdK n K) (hF : F br = none) (hn : n < 800000000) : ACalls Try.prog 25 [.ptr br 2 0 0, aTree t cl] (F.set br K) fun r H' =>
    ∃ (l : List Exi) (G : AHeap) (K' : ABlk), Grow rExit 3 41 F G r l ∧ G br = none ∧ H' = G.set br K' ∧ RdK (n + 30) K' ∧ l.length ≤ 8 := by
  refine acalls_of0 Try.func25 rfl (by kernel_rfl) rfl rfl (awp_sound (fz := fun _ => []) (im := fun s => s == 3 || s == 7 || s == 9 || s == 19) mixed _ _ _ _ (by kernel_rfl) ?_)
  simp +contextual -dsimp -implicitDefEqProofs (maxSteps := 5000000) only [go_sem, reduceIte, reduceCtorEq, Nat.reduceEqDiff, Nat.reduceBEq, Nat.reduceAdd, Nat.reduceLeDiff, Nat.reduceMul, Nat.reduceLT, Int.reduceEq, Int.reduceLT, Int.reduceLE]
  refine k_one [3, 4, 2, 1, 5, 0, 8] _ h hF (by omega) (by simp) rfl rfl fun v K1 hv hK1 => ?_
  have hv8 : 0 ≤ v ∧ v ≤ 8 := by simp at hv; omega
  simp +contextual -dsimp -implicitDefEqProofs (maxSteps := 5000000) only [go_sem, reduceIte, reduceCtorEq, Nat.reduceEqDiff, Nat.reduceBEq, Nat.reduceAdd, Nat.reduceLeDiff, Nat.reduceMul, Nat.reduceLT, Int.reduceEq, Int.reduceLT, Int.reduceLE]
  refine aloop mixed (fz := fun _ => []) (im := fun s => s == 3 || s == 7 || s == 9 || s == 19) (by kernel_rfl) (fun m tm H' => ∃ (l : List Exi) (G : AHeap) (x : AV) (K : ABlk) (i : Nat), m = (v - l.length).toNat ∧ i = l.length ∧ i ≤ v ∧ Grow rExit 3 41 F G x l ∧ G br = none ∧ RdK (n + 1 + 3 * i) K ∧ H' = G.set br K ∧ tm 0 = .ptr br 2 0 0 ∧ tm 3 = .vptr [[.vsl (t.map rClass) cl]] 0 0 ∧ tm 5 = x ∧ tm 6 = I (v - i)) (v - 0).toNat ⟨[], F, .vsl [] true, K1, 0, rfl, rfl, by omega, grow_nil, hF, hK1, rfl, ?_⟩ ?_
  · simp +contextual -dsimp -implicitDefEqProofs (maxSteps := 5000000) only [go_sem, reduceIte, reduceCtorEq, Nat.reduceEqDiff, Nat.reduceBEq, Nat.reduceAdd, Nat.reduceLeDiff, Nat.reduceMul, Nat.reduceLT, Int.reduceEq, Int.reduceLT, Int.reduceLE]
    simp
  · rintro m tm H' ⟨l, G, x, K, i, rfl, hi, hiv, hg, fr, hK, rfl, t0, t3, t5, t6⟩
    simp +contextual -dsimp -implicitDefEqProofs (maxSteps := 5000000) only [go_sem, reduceIte, reduceCtorEq, Nat.reduceEqDiff, Nat.reduceBEq, Nat.reduceAdd, Nat.reduceLeDiff, Nat.reduceMul, Nat.reduceLT, Int.reduceEq, Int.reduceLT, Int.reduceLE, t0, t3, t5, t6]
    refine ⟨fun hlt => ?_, fun hge => ?_⟩
    · refine (c_anExit G br _ K t cl hK fr (by omega)).mono ?_
      rintro _ H' ⟨e, K2, rfl, hK2, rfl⟩
      simp +contextual -dsimp -implicitDefEqProofs (maxSteps := 5000000) only [go_sem, reduceIte, reduceCtorEq, Nat.reduceEqDiff, Nat.reduceBEq, Nat.reduceAdd, Nat.reduceLeDiff, Nat.reduceMul, Nat.reduceLT, Int.reduceEq, Int.reduceLT, Int.reduceLE, t0, t3, t5, t6]
      refine grow_append (m := [e]) te26 ti41 rExit_len (by decide) (grow_in hg fr) (by simp; omega) (by simp; omega) rfl fun x' H' hg' => ?_
      obtain ⟨G1, hg1, rfl, u1⟩ := grow_out hg' (grow_none hg fr)
      simp +contextual -dsimp -implicitDefEqProofs (maxSteps := 5000000) only [go_sem, reduceIte, reduceCtorEq, Nat.reduceEqDiff, Nat.reduceBEq, Nat.reduceAdd, Nat.reduceLeDiff, Nat.reduceMul, Nat.reduceLT, Int.reduceEq, Int.reduceLT, Int.reduceLE, t0, t3, t5, t6]
      exact ⟨_, by simp; omega, l ++ [e], G1, x', K2, i + 1, rfl, by simp; omega, by omega, hg1, u1, rdk_mono hK2 (by omega), rfl, rfl, I_wrap (by simp; omega) (by omega) (by omega)⟩
    · exact ⟨l, G, K, hg, fr, rfl, rdk_mono hK (by omega), by omega⟩
theorem c_someTree (F : AHeap) (br n : Nat) (K : ABlk) (h : RdK n K) (hF : F br = none) (hn : n < 800000000) : ACalls Try.prog 24 [.ptr br 2 0 0] (F.set br K) fun r H' =>
    ∃ x l G K', r = .agg [x] ∧ Grow rClass 2 79 F G x l ∧ G br = none ∧ H' = G.set br K' ∧ RdK (n + 25) K' ∧ l.length ≤ 8 ∧ shortNames l := by
  refine acalls_of1 Try.func24 rfl (by kernel_rfl) rfl rfl (awp_sound (fz := fun _ => []) (im := fun _ => false) mixed _ _ _ _ (by kernel_rfl) ?_)
  simp +contextual -dsimp -implicitDefEqProofs (maxSteps := 5000000) only [go_sem, reduceIte, reduceCtorEq, Nat.reduceEqDiff, Nat.reduceBEq, Nat.reduceAdd, Nat.reduceLeDiff, Nat.reduceMul, Nat.reduceLT, Int.reduceEq, Int.reduceLT, Int.reduceLE]
  rintro b2 ⟨p1, p2, hb2⟩
  have n2 : ∀ K4, (F.set b2 K4) br = none := fun K4 => by rw [set_other p2]; exact hF
  rw [br_out p1]
  refine (c_goodTree _ br n K h (n2 _) (by omega)).mono ?_
  rintro _ _ ⟨x, l, G0, K1, rfl, hg0, hr0, rfl, hK1, hl1, hl8, hs⟩
  obtain ⟨G, hg, rfl, e2⟩ := grow_out hg0 hb2
  rw [set_other p2] at hr0
  -- the slice has a block of its own
  rcases hg with ⟨e, _, _⟩ | ⟨bx, clx, hbx, rfl, rfl⟩
  · rw [e] at hl1; simp at hl1
  simp +contextual -dsimp -implicitDefEqProofs (maxSteps := 5000000) only [go_sem, reduceIte, reduceCtorEq, Nat.reduceEqDiff, Nat.reduceBEq, Nat.reduceAdd, Nat.reduceLeDiff, Nat.reduceMul, Nat.reduceLT, Int.reduceEq, Int.reduceLT, Int.reduceLE]
  intro b3 hb3c
  obtain ⟨q1, q2, q3, q4, w1, w2, hb3f⟩ := hb3c
  have hb3 : (F.set bx ⟨2, 79, l.map rClass⟩) b3 = none := by rw [set_other w1]; exact hb3f
  rw [br_out q1]
  have n3 : ∀ (G : AHeap) (K2 K4 : ABlk), G br = none → ((G.set b2 K2).set b3 K4) br = none := fun G K2 K4 h => by rw [set_other q2, set_other p2]; exact h
  have hb3' := hb3
  have e2' := e2
  have hr' := hr0
  rw [set_none] at hb3' e2' hr'
  have w1 := hb3'.1
  have w2 := hb3'.2.1
  have w3 := e2'.1
  have w4 := e2'.2.1
  have w5 := hr'.1
  have w6 := hr'.2.1
  have fin : ∀ (l' : List Class) (K2 K3 : ABlk) (tm : Tm), l'.length = l.length → shortNames l' → RdK (n + 25) K3 → tm 2 = .ptr b2 1 0 0 → retR Try.prog [.cell 2 25] (fun r H' => ∃ x l G K', r = .agg [x] ∧ Grow rClass 2 79 F G x l ∧ G br = none ∧ H' = G.set br K' ∧ RdK (n + 25) K' ∧ l.length ≤ 8 ∧ shortNames l) tm
      ((((F.set bx ⟨2, 79, l'.map rClass⟩).set b2 ⟨1, 25, [[.sl bx 2 0 l.length clx]]⟩).set b3 K2).set br K3) := by
    intro l' K2 K3 tm hl' hs' hK h2
    have f2 : (F.set bx ⟨2, 79, l'.map rClass⟩) b2 = none := by rw [set_other w3]; exact hb2
    have f3 : (F.set bx ⟨2, 79, l'.map rClass⟩) b3 = none := by rw [set_other w1]; exact hb3'.2.2
    refine retR_less (l := [.agg [.sl bx 2 0 l.length clx]]) (H' := (F.set bx ⟨2, 79, l'.map rClass⟩).set br K3) ?_ (le_ch (le_s1 (le_s1 (AHeap.le_refl _) f2) f3)) ⟨_, l', _, K3, rfl, .inr ⟨bx, clx, hbx, by rw [hl'], rfl⟩, by rw [set_other w5]; exact hF, rfl, hK, by omega, hs'⟩
    simp only [resA, go_sem, reduceIte, reduceCtorEq, Nat.reduceEqDiff, Nat.reduceBEq, Nat.reduceAdd, Nat.reduceLeDiff, Nat.reduceMul, Nat.reduceLT, Int.reduceEq, Int.reduceLT, Int.reduceLE, p1, p2, q1, q2, q3, q4, h2]
  refine k_pick l.length hK1 (n3 _ _ _ hr0) (by omega) rfl fun v K2 v0 v1 v2 hK2 => ?_
  have vl := v1 (by omega)
  have vn : v.toNat < l.length := by omega
  simp +contextual -dsimp -implicitDefEqProofs (maxSteps := 5000000) only [go_sem, reduceIte, reduceCtorEq, Nat.reduceEqDiff, Nat.reduceBEq, Nat.reduceAdd, Nat.reduceLeDiff, Nat.reduceMul, Nat.reduceLT, Int.reduceEq, Int.reduceLT, Int.reduceLE, p1, p2, q1, q2, q3, q4, w1, w2, w3, w4, w5, w6]
  refine k_pick 24 hK2 (n3 _ _ _ hr0) (by omega) rfl fun z K3 z0 z1 z2 hK3 => ?_
  by_cases c0 : z = 0
  · simp +contextual -dsimp -implicitDefEqProofs (maxSteps := 5000000) only [go_sem, reduceIte, reduceCtorEq, Nat.reduceEqDiff, Nat.reduceBEq, Nat.reduceAdd, Nat.reduceLeDiff, Nat.reduceMul, Nat.reduceLT, Int.reduceEq, Int.reduceLT, Int.reduceLE, c0, p1, p2, q1, q2, q3, q4, w1, w2, w3, w4, w5, w6]
    refine draw_intro [0, 1, 0, 0, 0, 3, 0, 0, 2] _ (by kernel_rfl) (le_set (n3 _ _ _ hr0)) ?_
    simp +contextual -dsimp -implicitDefEqProofs (maxSteps := 5000000) only [go_sem, reduceIte, reduceCtorEq, Nat.reduceEqDiff, Nat.reduceBEq, Nat.reduceAdd, Nat.reduceLeDiff, Nat.reduceMul, Nat.reduceLT, Int.reduceEq, Int.reduceLT, Int.reduceLE, c0, p1, p2, q1, q2, q3, q4, w1, w2, w3, w4, w5, w6]
    refine k_of [[], [97, 110, 121], [65], [116, 111, 111, 108, 111, 110, 103]] _ hK3 (n3 _ _ _ hr0) (by omega) (by simp) rfl rfl fun s K4 hsm hK4 => ⟨le_set (n3 _ _ _ hr0), ?_⟩
    have hsl : s.length ≤ 10 := by simp at hsm; rcases hsm with rfl | rfl | rfl | rfl <;> decide
    simp +contextual -dsimp -implicitDefEqProofs (maxSteps := 5000000) only [go_sem, reduceIte, reduceCtorEq, Nat.reduceEqDiff, Nat.reduceBEq, Nat.reduceAdd, Nat.reduceLeDiff, Nat.reduceMul, Nat.reduceLT, Int.reduceEq, Int.reduceLT, Int.reduceLE, c0, p1, p2, q1, q2, q3, q4, w1, w2, w3, w4, w5, w6, v0, vl, vn]
    rw [wrO_y (y := { l.getD v.toNat default with name := s }) vn rfl]
    simp +contextual -dsimp -implicitDefEqProofs (maxSteps := 5000000) only [go_sem, reduceIte, reduceCtorEq, Nat.reduceEqDiff, Nat.reduceBEq, Nat.reduceAdd, Nat.reduceLeDiff, Nat.reduceMul, Nat.reduceLT, Int.reduceEq, Int.reduceLT, Int.reduceLE, c0, p1, p2, q1, q2, q3, q4, w1, w2, w3, w4, w5, w6, v0, vl, vn]
    refine fin (l.set v.toNat { l.getD v.toNat default with name := s }) _ K4 _ (by simp) (fun c hc => ?_) (rdk_mono hK4 (by omega)) ?_
    · rcases List.mem_or_eq_of_mem_set hc with q | rfl
      · exact hs c q
      · exact hsl
    · rfl
  · by_cases c1 : z = 1
    · simp +contextual -dsimp -implicitDefEqProofs (maxSteps := 5000000) only [go_sem, reduceIte, reduceCtorEq, Nat.reduceEqDiff, Nat.reduceBEq, Nat.reduceAdd, Nat.reduceLeDiff, Nat.reduceMul, Nat.reduceLT, Int.reduceEq, Int.reduceLT, Int.reduceLE, c0, c1, p1, p2, q1, q2, q3, q4, w1, w2, w3, w4, w5, w6]
      refine draw_intro [0, 1, 0, 0, 0, 0, 3, 0, 0, 2] _ (by kernel_rfl) (le_set (n3 _ _ _ hr0)) ?_
      simp +contextual -dsimp -implicitDefEqProofs (maxSteps := 5000000) only [go_sem, reduceIte, reduceCtorEq, Nat.reduceEqDiff, Nat.reduceBEq, Nat.reduceAdd, Nat.reduceLeDiff, Nat.reduceMul, Nat.reduceLT, Int.reduceEq, Int.reduceLT, Int.reduceLE, c0, p1, p2, q1, q2, q3, q4, w1, w2, w3, w4, w5, w6]
      refine k_one [v, -1, 8, -2] _ hK3 (n3 _ _ _ hr0) (by omega) (by simp) rfl rfl fun s K4 hsm hK4 => ⟨le_set (n3 _ _ _ hr0), ?_⟩
      simp +contextual -dsimp -implicitDefEqProofs (maxSteps := 5000000) only [go_sem, reduceIte, reduceCtorEq, Nat.reduceEqDiff, Nat.reduceBEq, Nat.reduceAdd, Nat.reduceLeDiff, Nat.reduceMul, Nat.reduceLT, Int.reduceEq, Int.reduceLT, Int.reduceLE, c0, p1, p2, q1, q2, q3, q4, w1, w2, w3, w4, w5, w6, v0, vl, vn]
      rw [wrO_y (y := { l.getD v.toNat default with parent := s }) vn rfl]
      simp +contextual -dsimp -implicitDefEqProofs (maxSteps := 5000000) only [go_sem, reduceIte, reduceCtorEq, Nat.reduceEqDiff, Nat.reduceBEq, Nat.reduceAdd, Nat.reduceLeDiff, Nat.reduceMul, Nat.reduceLT, Int.reduceEq, Int.reduceLT, Int.reduceLE, c0, p1, p2, q1, q2, q3, q4, w1, w2, w3, w4, w5, w6, v0, vl, vn]
      refine fin (l.set v.toNat { l.getD v.toNat default with parent := s }) _ K4 _ (by simp) (fun c hc => ?_) (rdk_mono hK4 (by omega)) ?_
      · rcases List.mem_or_eq_of_mem_set hc with q | rfl
        · exact hs c q
        · exact hs (l.getD v.toNat default) (by rw [List.getD_eq_getElem?_getD, List.getElem?_eq_getElem vn]; exact List.getElem_mem vn)
      · rfl
    · by_cases c2 : z = 2
      · simp +contextual -dsimp -implicitDefEqProofs (maxSteps := 5000000) only [go_sem, reduceIte, reduceCtorEq, Nat.reduceEqDiff, Nat.reduceBEq, Nat.reduceAdd, Nat.reduceLeDiff, Nat.reduceMul, Nat.reduceLT, Int.reduceEq, Int.reduceLT, Int.reduceLE, c0, c1, c2, p1, p2, q1, q2, q3, q4, w1, w2, w3, w4, w5, w6]
        refine retR_less (l := [.agg [.vsl [] true]]) (H' := F.set br K3) ?_ (le_ch (le_s1 (le_s1 (le_s1 (AHeap.le_refl _) hbx) hb2) hb3f)) ⟨_, [], F, K3, rfl, grow_nil, hF, rfl, rdk_mono hK3 (by omega), by simp, fun c hc => by cases hc⟩
        simp only [resA, go_sem, reduceIte, reduceCtorEq, Nat.reduceEqDiff, Nat.reduceBEq, Nat.reduceAdd, Nat.reduceLeDiff, Nat.reduceMul, Nat.reduceLT, Int.reduceEq, Int.reduceLT, Int.reduceLE, p1, p2, q1, q2, q3, q4, w1, w2, w3, w4, w5, w6]
      · simp +contextual -dsimp -implicitDefEqProofs (maxSteps := 5000000) only [go_sem, reduceIte, reduceCtorEq, Nat.reduceEqDiff, Nat.reduceBEq, Nat.reduceAdd, Nat.reduceLeDiff, Nat.reduceMul, Nat.reduceLT, Int.reduceEq, Int.reduceLT, Int.reduceLE, c0, c1, c2, p1, p2, q1, q2, q3, q4, w1, w2, w3, w4, w5, w6]
        refine fin l _ K3 _ rfl hs (rdk_mono hK3 (by omega)) ?_
        rfl
end Go.Proofs.Ytihjbbiajggcoaa
end
section
set_option linter.unusedVariables false
set_option linter.unusedSimpArgs false
namespace Go.Proofs.Ytihjbbiajggcoaa
open Go Go.Sim
set_option maxRecDepth 100000
attribute [local go_sem ↓] aw_skip aw_ret aw_exit aw_region aw_draw aw_seq aw_block aw_loop aw_cond frz_nil frz_cons sq_normal sq_ret sq_exit exB_normal exB_ret exB_same exB_other retQ_ret retQ_normal ret0_ret ret0_normal ao_nil go1 g_move g_assign g_pick g_build g_load g_binOp g_unOp g_convert g_fieldAddr g_field g_indexAddr g_index g_extract g_slice g_nilCheck g_len g_makeFunc h_call h_append h_alloc h_box h_buildSlice h_makeSlice h_store gV i_box i_buildSlice i_move i_assign i_build i_load i_binOp i_unOp i_convert i_fieldAddr i_field i_indexAddr i_index i_extract i_slice i_nilCheck i_makeFunc i_len i_max i_min i_alloc i_makeSlice i_store i_append i_call i_pick boxI boxA buildSliceI buildSliceA makeSliceA allocA storeA p_move p_assign p_pick p_build p_load p_binOp p_unOp p_convert p_fieldAddr p_field p_indexAddr p_index p_extract p_slice p_nilCheck p_makeFunc p_len p_max p_min p_alloc p_box p_buildSlice p_makeSlice p_store p_append p_call x_nil x_go1 x_g0 x_g1 x_g2 x_g3 x_s0 x_s1 x_s2 x_s3 u_move u_assign u_pick u_build u_load u_binOp u_unOp u_convert u_fieldAddr u_field u_indexAddr u_index u_extract u_slice u_nilCheck u_makeFunc u_len u_buildSlice x_s4 x_g4 rq_normal rq_ret rq_exit aw_range
attribute [local go_sem] frzV_sl frzK_some set_none set_other AHeap.set_self set_del set_set cnd_t cnd_f cnd_b retA_one retA_two retA_three retA_four retA_nil gIf_b mrgV_b mrgV_wh mrgV_U gIf_U gIf_wh mrgB_f mrgB_some mrgB_if wh_true wh_false keepA_some keepA_if gD_zero gD_succ gT_some bxA_t bxA_f callA_fn ev_tmp ev_const ev_global ev_func oc_bool oc_int oc_string oc_nil oc_nilptr oc_nilfunc cl_bool cl_int cl_string cl_nil updO_some updO_none upd_same upd_other init_at pickA_b pickA_wh selA_t selA_f selA_and selA_or selA_orn selA_orm selA_bb selA_ii beqt b_add b_sub b_mul b_and b_or b_xor b_eql b_neq b_lss b_leq b_gtr b_geq b_quo b_rem b_shr b_seql b_sneq b_sadd b_beql b_bneq b_aeql b_aneq u_not u_neg isConstOp eqA eqCellV List.getD_cons_zero List.getD_cons_succ List.map_cons List.map_nil List.nil_append List.cons_append List.append_nil if_true if_false Option.map_some Option.map_none ne_eq not_false_eq_true oneA ldv ld1v ld1s wr1s ldRow stRow row_lit row_agg row_vsl row_sl row_ptr row_fn one_I one_B one_S one_vsl one_sl one_ptr one_fn extractA okA rI rS rU rClass rFault rExit rStart rLine Int.toNat_natCast List.length_cons List.length_nil List.length_map List.all_cons List.all_nil Bool.and_true Nat.zero_add List.getElem?_cons_zero List.getElem?_cons_succ List.take_succ_cons List.take_zero List.drop_succ_cons List.drop_zero and_self true_and and_true implies_true decide_eq_true_eq decide_eq_false_iff_not Bool.or_eq_true Bool.or_eq_false_iff Bool.and_eq_true Bool.not_eq_true' Bool.not_eq_false' beq_false decide_true decide_false Int.ofNat_lt Int.ofNat_le Int.natCast_nonneg Bool.or_true Bool.or_false Bool.true_or Bool.false_or beq_self_eq_true List.drop_one Bool.not_true Bool.not_false Bool.not_not Bool.false_eq_true Bool.true_eq_false false_implies true_implies Bool.true_and Bool.false_and Bool.and_false not_true_eq_false Int.natCast_eq_zero Int.natCast_pos Int.natCast_zero false_and and_false or_false false_or or_true true_or Bool.or_self none_le_iff List.replicate_zero Int.toNat_zero List.replicate_succ buildRows List.set_cons_zero List.set_cons_succ List.set_nil List.mapM_nil maxLen_eq Nat.zero_le Nat.mul_one Nat.one_mul bldA fillA spliceA List.take_nil List.drop_nil List.getElem?_nil ld1o wr1o bldSliceA le_same cv_i cvI_t quietT_fn qvd_some ld_o ldO_1 ldO_l wr_o wrO_1 set_2 set_3 set_4 putL_nil putL_cons List.zip_cons_cons List.zip_nil_left List.zip_nil_right List.toList_toArray frzV_set ti1 ti2 tk2 ti3 te3 ts3 tk3 tz3 ti4 tb4 ti5 tk5 tz5 ti9 te9 ts9 tk9 tz9 ti12 tk12 ti13 tp13 tf13_0 tf13_1 ti20 ti21 tk21 tz21 ti22 te22 tz22 ti23 te23 ti24 tp24 tf24_0 ti25 tp25 tf25_0 ti26 te26 ti27 tq27 tp27 tf27_0 tf27_1 tf27_2 ti28 tq28 tp28 tf28_0 tf28_1 tf28_2 ti30 ti31 te31 ti32 te32 ti33 tp33 tf33_0 ti34 tp34 tf34_0 ti35 tp35 tf35_0 tf35_1 tf35_2 tf35_3 ti36 tp36 tf36_0 tf36_1 tf36_2 tf36_3 ti37 ti38 ti39 ti40 tq40 tp40 tf40_0 tf40_1 tf40_2 ti41 tq41 tp41 tf41_0 tf41_1 tf41_2 ti42 ti43 ti44 ti45 ti47 ti48 ti49 ti50 ti51 ti52 ti53 ti54 ti55 tp55 tf55_0 tf55_1 ti56 tp56 tf56_0 tf56_1 ti57 ti58 ti59 ti60 ti61 ti62 ti63 ti64 ti65 ti66 ti67 tq67 tp67 tf67_0 tf67_1 ti68 tq68 tp68 tf68_0 tf68_1 ti69 tq69 tp69 tf69_0 tf69_1 tf69_2 tf69_3 tf69_4 ti70 tq70 tp70 tf70_0 tf70_1 tf70_2 tf70_3 tf70_4 ti71 ti72 tp72 tf72_0 tf72_1 tf72_2 ti73 tp73 tf73_0 tf73_1 tf73_2 ti74 ti75 ti77 ti78 tq78 tp78 tf78_0 tf78_1 ti79 tq79 tp79 tf79_0 tf79_1 ti80 ti81 ti82 ti83 ti84 ti85 te85 ti86 ti87 te87 ti88 tp88 tf88_0 tf88_1 tf88_2 tf88_3 tf88_4 ti89 tp89 tf89_0 tf89_1 tf89_2 tf89_3 tf89_4 ti90 ti91 ti92 ti93 ti94 ti95 ti96 ti97 ti98 ti99 ti100 ti101 ti102 ti103 ti104 ti105 ti106 ti107 ti108 ti109 ti110 ti111 ti112 ti113 ti114 ti115 ti116 tk116 tz116 ti117 ti118 tk118 ti120 ti121 ti122 ti124 ti125 ti126 tk126 tz126 ti127 ti128 tk128 tz128 ti129 tk129 ti130 ti131 ti132 ti133 ti134 ti135 ti137 ti138 ti144 ti148 ti153 ti154 tq154 tp154 tf154_0 tf154_1 tf154_2 tf154_3 ti155 tq155 tp155 tf155_0 tf155_1 tf155_2 tf155_3 ti157 fp13_0 fv13_0 fp13_1 fv13_1 fp24_0 fv24_0 fp25_0 fv25_0 fp27_0 fv27_0 fp27_1 fv27_1 fp27_2 fv27_2 fp28_0 fv28_0 fp28_1 fv28_1 fp28_2 fv28_2 fp33_0 fv33_0 fp34_0 fv34_0 fp35_0 fv35_0 fp35_1 fv35_1 fp35_2 fv35_2 fp35_3 fv35_3 fp36_0 fv36_0 fp36_1 fv36_1 fp36_2 fv36_2 fp36_3 fv36_3 fp40_0 fv40_0 fp40_1 fv40_1 fp40_2 fv40_2 fp41_0 fv41_0 fp41_1 fv41_1 fp41_2 fv41_2 fp55_0 fv55_0 fp55_1 fv55_1 fp56_0 fv56_0 fp56_1 fv56_1 fp67_0 fv67_0 fp67_1 fv67_1 fp68_0 fv68_0 fp68_1 fv68_1 fp69_0 fv69_0 fp69_1 fv69_1 fp69_2 fv69_2 fp69_3 fv69_3 fp69_4 fv69_4 fp70_0 fv70_0 fp70_1 fv70_1 fp70_2 fv70_2 fp70_3 fv70_3 fp70_4 fv70_4 fp72_0 fv72_0 fp72_1 fv72_1 fp72_2 fv72_2 fp73_0 fv73_0 fp73_1 fv73_1 fp73_2 fv73_2 fp78_0 fv78_0 fp78_1 fv78_1 fp79_0 fv79_0 fp79_1 fv79_1 fp88_0 fv88_0 fp88_1 fv88_1 fp88_2 fv88_2 fp88_3 fv88_3 fp88_4 fv88_4 fp89_0 fv89_0 fp89_1 fv89_1 fp89_2 fv89_2 fp89_3 fv89_3 fp89_4 fv89_4 fp154_0 fv154_0 fp154_1 fv154_1 fp154_2 fv154_2 fp154_3 fv154_3 fp155_0 fv155_0 fp155_1 fv155_1 fp155_2 fv155_2 fp155_3 fv155_3 lv22 ll22 is22 ix22 sh22 so22 sb22 sm22 sp22 lv23 ll23 is23 ix23 sh23 so23 sb23 sm23 sp23 lv26 ll26 is26 ix26 sh26 so26 sb26 sm26 sp26 lv31 ll31 is31 ix31 sh31 so31 sb31 sm31 sp31 lv32 ll32 is32 ix32 sh32 so32 sb32 sm32 sp32 lv85 ll85 is85 ix85 sh85 so85 sb85 sm85 sp85 lv87 ll87 is87 ix87 sh87 so87 sb87 sm87 sp87 xs9 ls9 sx9 sy9 sz9

theorem c_someTreeF (F : AHeap) (br n : Nat) (K : ABlk) (h : RdK n K) (hF : F br = none) (hn : n < 800000000) : ACalls Try.prog 24 [.ptr br 2 0 0] (F.set br K) fun r H' =>
    ∃ l cl K', r = aTree l cl ∧ H' = F.set br K' ∧ RdK (n + 25) K' ∧ l.length ≤ 8 ∧ shortNames l := by
  refine acalls_fz (c_someTree F br n K h hF hn) ?_
  rintro _ _ ⟨x, l, G, K', rfl, hg, hr, rfl, hK, hl, hs⟩
  have hg' := grow_in (K := K') hg hr
  obtain ⟨cl, hz⟩ := grow_fz hg'
  exact ⟨_, F.set br K', grow_le hg', fz_agg (.cons hz .nil), l, cl, K', rfl, rfl, hK, hl, hs⟩
theorem c_someExits (F : AHeap) (br n : Nat) (K : ABlk) (h : RdK n K) (hF : F br = none) (hn : n < 700000000) : ACalls Try.prog 12 [.ptr br 2 0 0] (F.set br K) fun r H' =>
    ∃ t cl, ∃ l : List Exi, ∃ x G K', r = .tup [aTree t cl, x] ∧ Grow rExit 3 41 F G x l ∧ G br = none ∧ H' = G.set br K' ∧ RdK (n + 60) K' ∧ t.length ≤ 8 ∧ shortNames t ∧ l.length ≤ 8 := by
  refine acalls_of1 Try.func12 rfl (by kernel_rfl) rfl rfl (awp_sound (fz := fun r => if r = 1 then [4] else []) (im := fun s => s == 26 || s == 35 || s == 44) mixed _ _ _ _ (by kernel_rfl) ?_)
  simp +contextual -dsimp -implicitDefEqProofs (maxSteps := 5000000) only [go_sem, reduceIte, reduceCtorEq, Nat.reduceEqDiff, Nat.reduceBEq, Nat.reduceAdd, Nat.reduceLeDiff, Nat.reduceMul, Nat.reduceLT, Int.reduceEq, Int.reduceLT, Int.reduceLE]
  rintro b2 ⟨p1, p2, hb2⟩
  have n2 : ∀ (G : AHeap) K4, G br = none → (G.set b2 K4) br = none := fun G K4 h => by rw [set_other p2]; exact h
  rw [br_out p1]
  refine (c_someTreeF _ br n K h (n2 _ _ hF) (by omega)).mono ?_
  rintro _ _ ⟨t, cl, K1, rfl, rfl, hK1, ht8, hs⟩
  simp +contextual -dsimp -implicitDefEqProofs (maxSteps := 5000000) only [go_sem, reduceIte, reduceCtorEq, Nat.reduceEqDiff, Nat.reduceBEq, Nat.reduceAdd, Nat.reduceLeDiff, Nat.reduceMul, Nat.reduceLT, Int.reduceEq, Int.reduceLT, Int.reduceLE]
  rintro b4 ⟨q1, q2, q3, q4, hb4⟩
  refine (c_goodExits _ br _ K1 t cl hK1 (n2 _ _ hF) (by omega)).mono ?_
  rintro x _ ⟨l, G0, K2, hg0, hr0, rfl, hK2, hl8⟩
  obtain ⟨G, hg, rfl, e2⟩ := grow_out hg0 hb2
  rw [set_other p2] at hr0
  have hlen := grow_len te26 hg
  simp +contextual -dsimp -implicitDefEqProofs (maxSteps := 5000000) only [go_sem, reduceIte, reduceCtorEq, Nat.reduceEqDiff, Nat.reduceBEq, Nat.reduceAdd, Nat.reduceLeDiff, Nat.reduceMul, Nat.reduceLT, Int.reduceEq, Int.reduceLT, Int.reduceLE, hlen]
  have fin : ∀ (G : AHeap) (l' : List Exi) (x : AV) (K3 : ABlk) (tm : Tm), l'.length = l.length → Grow rExit 3 41 F G x l' → G b2 = none → G br = none → RdK (n + 60) K3 → tm 2 = .ptr b2 1 0 0 → tm 3 = x →
      retR Try.prog [.cell 2 25, .tmp 3] (fun r H' => ∃ t cl l x G K', r = .tup [.agg [.vsl (t.map rClass) cl], x] ∧ Grow rExit 3 41 F G x l ∧ G br = none ∧ H' = G.set br K' ∧ RdK (n + 60) K' ∧ t.length ≤ 8 ∧ shortNames t ∧ l.length ≤ 8) tm
      ((G.set b2 ⟨1, 25, [[.vsl (t.map rClass) cl]]⟩).set br K3) := by
    intro G l' x K3 tm hl' hg e2 er hK h2 h3
    refine retR_less (l := [aTree t cl, x]) (H' := G.set br K3) ?_ (le_ch (le_s1 (AHeap.le_refl _) e2)) ⟨t, cl, l', x, G, K3, rfl, hg, er, rfl, hK, ht8, hs, by omega⟩
    simp only [resA, go_sem, reduceIte, reduceCtorEq, Nat.reduceEqDiff, Nat.reduceBEq, Nat.reduceAdd, Nat.reduceLeDiff, Nat.reduceMul, Nat.reduceLT, Int.reduceEq, Int.reduceLT, Int.reduceLE, p1, p2, h2, h3]
  refine ⟨fun hl0 => ?_, fun hl0 => ?_⟩
  · have hl0' : 0 < l.length := by omega
    refine k_pick l.length hK2 (n2 _ _ hr0) (by omega) rfl fun v K3 v0 v1 v2 hK3 => ?_
    have vl := v1 (by omega)
    have vn : v.toNat < l.length := by omega
    simp +contextual -dsimp -implicitDefEqProofs (maxSteps := 5000000) only [go_sem, reduceIte, reduceCtorEq, Nat.reduceEqDiff, Nat.reduceBEq, Nat.reduceAdd, Nat.reduceLeDiff, Nat.reduceMul, Nat.reduceLT, Int.reduceEq, Int.reduceLT, Int.reduceLE, hlen]
    refine k_pick 24 hK3 (n2 _ _ hr0) (by omega) rfl fun z K4 z0 z1 z2 hK4 => ?_
    rcases hg with ⟨e, _, _⟩ | ⟨bx, clx, hbx, rfl, rfl⟩
    · rw [e] at hl0'; simp at hl0'
    have e2' := e2
    have hr' := hr0
    rw [set_none] at e2' hr'
    have w3 := e2'.1
    have w4 := e2'.2.1
    have w5 := hr'.1
    have w6 := hr'.2.1
    have upd1 : ∀ y : Exi, Grow rExit 3 41 F (F.set bx ⟨3, 41, (l.set v.toNat y).map rExit⟩) (.sl bx 3 0 l.length clx) (l.set v.toNat y) := fun y => .inr ⟨bx, clx, hbx, by rw [List.length_set], rfl⟩
    have f2 : ∀ k : ABlk, (F.set bx k) b2 = none := fun k => by rw [set_other w3]; exact hb2
    have fr : ∀ k : ABlk, (F.set bx k) br = none := fun k => by rw [set_other w5]; exact hF
    by_cases c0 : z = 0
    · simp +contextual -dsimp -implicitDefEqProofs (maxSteps := 5000000) only [go_sem, reduceIte, reduceCtorEq, Nat.reduceEqDiff, Nat.reduceBEq, Nat.reduceAdd, Nat.reduceLeDiff, Nat.reduceMul, Nat.reduceLT, Int.reduceEq, Int.reduceLT, Int.reduceLE, c0]
      refine k_one [-1, 4, 2] _ hK4 (n2 _ _ hr0) (by omega) (by simp) rfl rfl fun s K5 _ hK5 => ?_
      simp +contextual -dsimp -implicitDefEqProofs (maxSteps := 5000000) only [go_sem, reduceIte, reduceCtorEq, Nat.reduceEqDiff, Nat.reduceBEq, Nat.reduceAdd, Nat.reduceLeDiff, Nat.reduceMul, Nat.reduceLT, Int.reduceEq, Int.reduceLT, Int.reduceLE, c0, p1, p2, w3, w4, w5, w6, v0, vl, vn]
      rw [wrO_y (y := { l.getD v.toNat default with kind := s }) vn rfl]
      simp +contextual -dsimp -implicitDefEqProofs (maxSteps := 5000000) only [go_sem, reduceIte, reduceCtorEq, Nat.reduceEqDiff, Nat.reduceBEq, Nat.reduceAdd, Nat.reduceLeDiff, Nat.reduceMul, Nat.reduceLT, Int.reduceEq, Int.reduceLT, Int.reduceLE, c0, p1, p2, w3, w4, w5, w6, v0, vl, vn]
      refine fin _ (l.set v.toNat _) _ K5 _ (by simp) (upd1 _) (f2 _) (fr _) (rdk_mono hK5 (by omega)) ?_ ?_
      · rfl
      · rfl
    · by_cases c1 : z = 1
      · simp +contextual -dsimp -implicitDefEqProofs (maxSteps := 5000000) only [go_sem, reduceIte, reduceCtorEq, Nat.reduceEqDiff, Nat.reduceBEq, Nat.reduceAdd, Nat.reduceLeDiff, Nat.reduceMul, Nat.reduceLT, Int.reduceEq, Int.reduceLT, Int.reduceLE, c0, c1]
        refine k_one [-1, 100] _ hK4 (n2 _ _ hr0) (by omega) (by simp) rfl rfl fun s K5 _ hK5 => ?_
        simp +contextual -dsimp -implicitDefEqProofs (maxSteps := 5000000) only [go_sem, reduceIte, reduceCtorEq, Nat.reduceEqDiff, Nat.reduceBEq, Nat.reduceAdd, Nat.reduceLeDiff, Nat.reduceMul, Nat.reduceLT, Int.reduceEq, Int.reduceLT, Int.reduceLE, c0, c1, p1, p2, w3, w4, w5, w6, v0, vl, vn]
        rw [wrO_y (y := { l.getD v.toNat default with a := s }) vn rfl]
        simp +contextual -dsimp -implicitDefEqProofs (maxSteps := 5000000) only [go_sem, reduceIte, reduceCtorEq, Nat.reduceEqDiff, Nat.reduceBEq, Nat.reduceAdd, Nat.reduceLeDiff, Nat.reduceMul, Nat.reduceLT, Int.reduceEq, Int.reduceLT, Int.reduceLE, c0, c1, p1, p2, w3, w4, w5, w6, v0, vl, vn]
        refine fin _ (l.set v.toNat _) _ K5 _ (by simp) (upd1 _) (f2 _) (fr _) (rdk_mono hK5 (by omega)) ?_ ?_
        · rfl
        · rfl
      · by_cases c2 : z = 2
        · simp +contextual -dsimp -implicitDefEqProofs (maxSteps := 5000000) only [go_sem, reduceIte, reduceCtorEq, Nat.reduceEqDiff, Nat.reduceBEq, Nat.reduceAdd, Nat.reduceLeDiff, Nat.reduceMul, Nat.reduceLT, Int.reduceEq, Int.reduceLT, Int.reduceLE, c0, c1, c2]
          refine k_one [5, 100, -1] _ hK4 (n2 _ _ hr0) (by omega) (by simp) rfl rfl fun s K5 _ hK5 => ?_
          simp +contextual -dsimp -implicitDefEqProofs (maxSteps := 5000000) only [go_sem, reduceIte, reduceCtorEq, Nat.reduceEqDiff, Nat.reduceBEq, Nat.reduceAdd, Nat.reduceLeDiff, Nat.reduceMul, Nat.reduceLT, Int.reduceEq, Int.reduceLT, Int.reduceLE, c0, c1, c2, p1, p2, w3, w4, w5, w6, v0, vl, vn]
          rw [wrO_y (y := { l.getD v.toNat default with b := s }) vn rfl]
          simp +contextual -dsimp -implicitDefEqProofs (maxSteps := 5000000) only [go_sem, reduceIte, reduceCtorEq, Nat.reduceEqDiff, Nat.reduceBEq, Nat.reduceAdd, Nat.reduceLeDiff, Nat.reduceMul, Nat.reduceLT, Int.reduceEq, Int.reduceLT, Int.reduceLE, c0, c1, c2, p1, p2, w3, w4, w5, w6, v0, vl, vn]
          refine fin _ (l.set v.toNat _) _ K5 _ (by simp) (upd1 _) (f2 _) (fr _) (rdk_mono hK5 (by omega)) ?_ ?_
          · rfl
          · rfl
        · simp +contextual -dsimp -implicitDefEqProofs (maxSteps := 5000000) only [go_sem, reduceIte, reduceCtorEq, Nat.reduceEqDiff, Nat.reduceBEq, Nat.reduceAdd, Nat.reduceLeDiff, Nat.reduceMul, Nat.reduceLT, Int.reduceEq, Int.reduceLT, Int.reduceLE, c0, c1, c2, p1, p2, w3, w4, w5, w6]
          refine fin _ l _ K4 _ rfl (.inr ⟨bx, clx, hbx, rfl, rfl⟩) e2 hr0 (rdk_mono hK4 (by omega)) ?_ ?_
          · rfl
          · rfl
  · simp +contextual -dsimp -implicitDefEqProofs (maxSteps := 5000000) only [go_sem, reduceIte, reduceCtorEq, Nat.reduceEqDiff, Nat.reduceBEq, Nat.reduceAdd, Nat.reduceLeDiff, Nat.reduceMul, Nat.reduceLT, Int.reduceEq, Int.reduceLT, Int.reduceLE, p1, p2]
    refine fin G l x K2 _ rfl hg e2 hr0 (rdk_mono hK2 (by omega)) ?_ ?_
    · rfl
    · rfl
theorem c_someExitsF (F : AHeap) (br n : Nat) (K : ABlk) (h : RdK n K) (hF : F br = none) (hn : n < 700000000) : ACalls Try.prog 12 [.ptr br 2 0 0] (F.set br K) fun r H' =>
    ∃ t cl, ∃ l : List Exi, ∃ cl' K', r = .tup [aTree t cl, .vsl (l.map rExit) cl'] ∧ H' = F.set br K' ∧ RdK (n + 60) K' ∧ t.length ≤ 8 ∧ shortNames t ∧ l.length ≤ 8 := by
  refine acalls_fz (c_someExits F br n K h hF hn) ?_
  rintro _ _ ⟨t, cl, l, x, G, K', rfl, hg, hr, rfl, hK, ht, hs, hl⟩
  have hg' := grow_in (K := K') hg hr
  obtain ⟨cl', hz⟩ := grow_fz hg'
  exact ⟨_, F.set br K', grow_le hg', fz_tup (.cons (.same _) (.cons hz .nil)), t, cl, l, cl', K', rfl, rfl, hK, ht, hs, hl⟩
theorem c_aStart (F : AHeap) (br n : Nat) (K : ABlk) (t : List Class) (cl : Bool) (h : RdK n K) (hF : F br = none) (hn : n < 700000000) : ACalls Try.prog 13 [.ptr br 2 0 0, aTree t cl] (F.set br K) fun r H' =>
    ∃ x : Sta, ∃ K', r = .agg (rStart x) ∧ H' = F.set br K' := by
  refine acalls_len1 (by kernel_rfl) (List.mem_cons_of_mem _ (List.mem_cons_self ..)) fun hl => ?_
  refine acalls_of1 Try.func13 rfl (by kernel_rfl) rfl rfl (awp_sound (fz := fun _ => []) (im := fun s => s == 3 || s == 29) mixed _ _ _ _ (by kernel_rfl) ?_)
  simp +contextual -dsimp -implicitDefEqProofs (maxSteps := 5000000) only [go_sem, reduceIte, reduceCtorEq, Nat.reduceEqDiff, Nat.reduceBEq, Nat.reduceAdd, Nat.reduceLeDiff, Nat.reduceMul, Nat.reduceLT, Int.reduceEq, Int.reduceLT, Int.reduceLE]
  rintro b4 ⟨p1, p2, hb4⟩
  have n4 : ∀ K4, (F.set b4 K4) br = none := fun K4 => by rw [set_other p2]; exact hF
  rw [br_out p1]
  have fin : ∀ (x : Sta) (K3 : ABlk) (tm : Tm), tm 4 = .ptr b4 3 0 0 → retR Try.prog [.cell 4 28] (fun r H' => ∃ x : Sta, ∃ K', r = .agg [B x.has, I x.cls, I x.code] ∧ H' = F.set br K') tm ((F.set b4 ⟨3, 28, [[B x.has, I x.cls, I x.code]]⟩).set br K3) := by
    intro x K3 tm h4
    refine retR_less (l := [.agg (rStart x)]) (H' := F.set br K3) ?_ (le_ch (le_s1 (AHeap.le_refl _) hb4)) ⟨x, K3, rfl, rfl⟩
    simp only [resA, go_sem, reduceIte, reduceCtorEq, Nat.reduceEqDiff, Nat.reduceBEq, Nat.reduceAdd, Nat.reduceLeDiff, Nat.reduceMul, Nat.reduceLT, Int.reduceEq, Int.reduceLT, Int.reduceLE, p1, p2, h4]
  refine k_pick 5 h (n4 _) (by omega) rfl fun v K1 v0 v1 v2 hK1 => ?_
  by_cases c0 : v = 0
  · simp +contextual -dsimp -implicitDefEqProofs (maxSteps := 5000000) only [go_sem, reduceIte, reduceCtorEq, Nat.reduceEqDiff, Nat.reduceBEq, Nat.reduceAdd, Nat.reduceLeDiff, Nat.reduceMul, Nat.reduceLT, Int.reduceEq, Int.reduceLT, Int.reduceLE, c0, p1, p2]
    refine fin ⟨false, 0, 0⟩ K1 _ ?_
    rfl
  · by_cases c1 : v = 1
    · simp +contextual -dsimp -implicitDefEqProofs (maxSteps := 5000000) only [go_sem, reduceIte, reduceCtorEq, Nat.reduceEqDiff, Nat.reduceBEq, Nat.reduceAdd, Nat.reduceLeDiff, Nat.reduceMul, Nat.reduceLT, Int.reduceEq, Int.reduceLT, Int.reduceLE, c0, c1, p1, p2]
      refine fin ⟨false, 0, 0⟩ K1 _ ?_
      rfl
    · by_cases c2 : v = 2
      · simp +contextual -dsimp -implicitDefEqProofs (maxSteps := 5000000) only [go_sem, reduceIte, reduceCtorEq, Nat.reduceEqDiff, Nat.reduceBEq, Nat.reduceAdd, Nat.reduceLeDiff, Nat.reduceMul, Nat.reduceLT, Int.reduceEq, Int.reduceLT, Int.reduceLE, c0, c1, c2, p1, p2]
        refine draw_intro [0, 3, 0, 0, 1, 2, 0, 0, 2, 0, 2] _ (by kernel_rfl) (le_set (n4 _)) ?_
        simp +contextual -dsimp -implicitDefEqProofs (maxSteps := 5000000) only [go_sem, reduceIte, reduceCtorEq, Nat.reduceEqDiff, Nat.reduceBEq, Nat.reduceAdd, Nat.reduceLeDiff, Nat.reduceMul, Nat.reduceLT, Int.reduceEq, Int.reduceLT, Int.reduceLE, c0, c1, c2, p1, p2]
        refine k_pick 8 hK1 (n4 _) (by omega) rfl fun a K2 a0 _ _ hK2 => ?_
        refine ⟨le_set (n4 _), ?_⟩
        simp +contextual -dsimp -implicitDefEqProofs (maxSteps := 5000000) only [go_sem, reduceIte, reduceCtorEq, Nat.reduceEqDiff, Nat.reduceBEq, Nat.reduceAdd, Nat.reduceLeDiff, Nat.reduceMul, Nat.reduceLT, Int.reduceEq, Int.reduceLT, Int.reduceLE, c0, c1, c2, p1, p2]
        refine (c_aClass _ br _ K2 t cl hK2 (n4 _) (by omega)).mono ?_
        rintro _ _ ⟨z, K3, rfl, hK3, rfl⟩
        simp +contextual -dsimp -implicitDefEqProofs (maxSteps := 5000000) only [go_sem, reduceIte, reduceCtorEq, Nat.reduceEqDiff, Nat.reduceBEq, Nat.reduceAdd, Nat.reduceLeDiff, Nat.reduceMul, Nat.reduceLT, Int.reduceEq, Int.reduceLT, Int.reduceLE, c0, c1, c2, p1, p2]
        refine k_one [1, 0, 100] _ hK3 (n4 _) (by omega) (by simp) rfl rfl fun y K4 _ hK4 => ?_
        simp +contextual -dsimp -implicitDefEqProofs (maxSteps := 5000000) only [go_sem, reduceIte, reduceCtorEq, Nat.reduceEqDiff, Nat.reduceBEq, Nat.reduceAdd, Nat.reduceLeDiff, Nat.reduceMul, Nat.reduceLT, Int.reduceEq, Int.reduceLT, Int.reduceLE, c0, c1, c2, p1, p2]
        refine fin ⟨decide (0 < a), z, y⟩ K4 _ ?_
        rfl
      · simp +contextual -dsimp -implicitDefEqProofs (maxSteps := 5000000) only [go_sem, reduceIte, reduceCtorEq, Nat.reduceEqDiff, Nat.reduceBEq, Nat.reduceAdd, Nat.reduceLeDiff, Nat.reduceMul, Nat.reduceLT, Int.reduceEq, Int.reduceLT, Int.reduceLE, c0, c1, c2, p1, p2]
        refine k_pick t.length hK1 (n4 _) (by omega) rfl fun a K2 _ _ _ hK2 => ?_
        simp +contextual -dsimp -implicitDefEqProofs (maxSteps := 5000000) only [go_sem, reduceIte, reduceCtorEq, Nat.reduceEqDiff, Nat.reduceBEq, Nat.reduceAdd, Nat.reduceLeDiff, Nat.reduceMul, Nat.reduceLT, Int.reduceEq, Int.reduceLT, Int.reduceLE, c0, c1, c2, p1, p2]
        refine k_one [1, 2] _ hK2 (n4 _) (by omega) (by simp) rfl rfl fun b K3 _ hK3 => ?_
        simp +contextual -dsimp -implicitDefEqProofs (maxSteps := 5000000) only [go_sem, reduceIte, reduceCtorEq, Nat.reduceEqDiff, Nat.reduceBEq, Nat.reduceAdd, Nat.reduceLeDiff, Nat.reduceMul, Nat.reduceLT, Int.reduceEq, Int.reduceLT, Int.reduceLE, c0, c1, c2, p1, p2]
        refine fin ⟨true, a, b⟩ K3 _ ?_
        rfl
theorem c_DrawCloseExits (F : AHeap) (bs : List UInt8) (cb : Bool) : ACalls Try.prog 5 [.vsl (bs.map rU) cb] F fun r H' =>
    ∃ t cl, ∃ l : List Exi, ∃ cl', ∃ x : Sta, r = .tup [aTree t cl, .vsl (l.map rExit) cl', .agg (rStart x)] ∧ H' = F ∧ shortNames t ∧ t.length ≤ 8 ∧ l.length ≤ 8 := by
  refine acalls_of1 Try.func5 rfl (by kernel_rfl) rfl rfl (awp_sound (fz := fun _ => []) (im := fun _ => false) mixed _ _ _ _ (by kernel_rfl) ?_)
  simp +contextual -dsimp -implicitDefEqProofs (maxSteps := 5000000) only [go_sem, reduceIte, reduceCtorEq, Nat.reduceEqDiff, Nat.reduceBEq, Nat.reduceAdd, Nat.reduceLeDiff, Nat.reduceMul, Nat.reduceLT, Int.reduceEq, Int.reduceLT, Int.reduceLE]
  rintro b2 h2 b4 ⟨p1, p2, h4⟩
  refine (c_newReader bs cb _).mono ?_
  rintro _ H' ⟨br, rfl, hR⟩
  obtain ⟨K1, hK1, rfl⟩ := rd_to hR
  have f4 : ∀ K2 K4, ((F.set b2 K2).set b4 K4) br = none := by
    have q := hR; obtain ⟨_, _, _, _, _, q, _⟩ := q
    rw [set_none, set_none] at q
    intro K2 K4; rw [set_none, set_none]; exact q
  have q1 := f4 ⟨1, 0, []⟩ ⟨1, 0, []⟩
  rw [set_none, set_none] at q1
  obtain ⟨u1, u2, u3, u4, hr⟩ := q1
  have fin0 : AHeap.le F (((F.set b2 ⟨1, 25, [[.vsl [] true]]⟩).set b4 ⟨3, 28, [[B false, I 0, I 0]]⟩)) := le_s1 (le_s1 (AHeap.le_refl _) h2) h4
  simp +contextual -dsimp -implicitDefEqProofs (maxSteps := 5000000) only [go_sem, reduceIte, reduceCtorEq, Nat.reduceEqDiff, Nat.reduceBEq, Nat.reduceAdd, Nat.reduceLeDiff, Nat.reduceMul, Nat.reduceLT, Int.reduceEq, Int.reduceLT, Int.reduceLE]
  refine (c_someExitsF _ br 0 K1 hK1 (f4 _ _) (by omega)).mono ?_
  rintro _ _ ⟨t, cl, l, cl', K2, rfl, rfl, hK2, ht8, hs, hl8⟩
  simp +contextual -dsimp -implicitDefEqProofs (maxSteps := 5000000) only [go_sem, reduceIte, reduceCtorEq, Nat.reduceEqDiff, Nat.reduceBEq, Nat.reduceAdd, Nat.reduceLeDiff, Nat.reduceMul, Nat.reduceLT, Int.reduceEq, Int.reduceLT, Int.reduceLE]
  intro b6 hb6
  obtain ⟨v1, v2, v3, v4, v5, v6, hb6⟩ := hb6
  rw [br_out v1]
  have n6 : ∀ K3 K4 K5, (((F.set b2 K3).set b4 K4).set b6 K5) br = none := fun K3 K4 K5 => by rw [set_other v2]; exact f4 _ _
  refine draw_intro [1, 0, 0, 0, 3, 2, 0, 2] _ (by kernel_rfl) (le_set (n6 _ _ _)) ?_
  simp +contextual -dsimp -implicitDefEqProofs (maxSteps := 5000000) only [go_sem, reduceIte, reduceCtorEq, Nat.reduceEqDiff, Nat.reduceBEq, Nat.reduceAdd, Nat.reduceLeDiff, Nat.reduceMul, Nat.reduceLT, Int.reduceEq, Int.reduceLT, Int.reduceLE, p1, p2, v1, v2, v3, v4, v5, v6]
  refine (c_aStart _ br _ K2 t cl hK2 (n6 _ _ _) (by omega)).mono ?_
  rintro _ _ ⟨x, K3, rfl, rfl⟩
  refine ⟨le_set (n6 _ _ _), ?_⟩
  simp +contextual -dsimp -implicitDefEqProofs (maxSteps := 5000000) only [go_sem, reduceIte, reduceCtorEq, Nat.reduceEqDiff, Nat.reduceBEq, Nat.reduceAdd, Nat.reduceLeDiff, Nat.reduceMul, Nat.reduceLT, Int.reduceEq, Int.reduceLT, Int.reduceLE, p1, p2, u1, u2, u3, u4, v1, v2, v3, v4, v5, v6]
  refine retR_less (l := [aTree t cl, .vsl (l.map rExit) cl', .agg (rStart x)]) (H' := F) ?_ (le_s1 (le_s1 (le_s1 (le_s1 (AHeap.le_refl _) h2) h4) hb6) hr) ⟨t, cl, l, cl', x, rfl, rfl, hs, ht8, hl8⟩
  simp only [resA, go_sem, reduceIte, reduceCtorEq, Nat.reduceEqDiff, Nat.reduceBEq, Nat.reduceAdd, Nat.reduceLeDiff, Nat.reduceMul, Nat.reduceLT, Int.reduceEq, Int.reduceLT, Int.reduceLE, p1, p2, u1, u2, u3, u4, v1, v2, v3, v4, v5, v6]
end Go.Proofs.Ytihjbbiajggcoaa
end
section
set_option linter.unusedVariables false
set_option linter.unusedSimpArgs false
namespace Go.Proofs.Ytihjbbiajggcoaa
open Go Go.Sim
set_option maxRecDepth 100000

theorem bfsG_dch {h : List Fault} (ho : heapOk h) : ∀ (n : Nat) (pre : List Int) (f : Int), 0 ≤ f → f < h.length → f < n → (∀ a ∈ pre, f < a) → bfsG h n pre.length (pre ++ [f]) = pre ++ dchF h f
  | 0, pre, f, h0, h1, h2, _ => by omega
  | n + 1, pre, f, h0, h1, h2, h3 => by
    obtain ⟨o1, o2, o3⟩ := ho f.toNat (by omega)
    have e : (pre ++ [f]).getD pre.length default = f := by simp [List.getD_eq_getElem?_getD]
    have e1 : causeOf h f = -1 := o1
    have e2 : -1 ≤ ctxOf h f := o2
    have e3 : ctxOf h f < f := by have : ctxOf h f < f.toNat := o3
                                  omega
    simp only [bfsG]
    rw [if_pos (by simp), e, e1, dchF_step ho h0 h1]
    have a1 : addF (pre ++ [f]) (-1) = pre ++ [f] := by unfold addF; rw [if_neg (by omega)]
    rw [a1]
    by_cases hg : ctxOf h f < 0
    · have a2 : addF (pre ++ [f]) (ctxOf h f) = pre ++ [f] := by unfold addF; rw [if_neg (by omega)]
      rw [a2, dchF_neg hg]
      cases n with
      | zero => rfl
      | succ n => simp only [bfsG]; rw [if_neg (by simp)]
    · have a2 : addF (pre ++ [f]) (ctxOf h f) = (pre ++ [f]) ++ [ctxOf h f] := by
        have hany : ((pre ++ [f]).any fun x => decide (ctxOf h f = x)) = false := by
          rw [List.any_eq_false]
          intro a ha
          rcases List.mem_append.1 ha with q | q
          · have := h3 a q
            have : ¬ ctxOf h f = a := by omega
            simp [this]
          · simp at q
            have : ¬ ctxOf h f = a := by omega
            simp [this]
        unfold addF
        rw [if_pos ⟨by omega, hany⟩]
      rw [a2]
      have := bfsG_dch ho n (pre ++ [f]) (ctxOf h f) (by omega) (by omega) (by omega) (fun a ha => by
        rcases List.mem_append.1 ha with q | q
        · have := h3 a q; omega
        · simp at q; subst q; exact e3)
      rw [List.length_append] at this
      simpa using this
theorem bfsF_dch {h : List Fault} (ho : heapOk h) {f : Int} (h0 : 0 ≤ f) (h1 : f < h.length) : bfsF h f = dchF h f :=
  bfsG_dch ho (h.length + 1) [] f h0 h1 (by omega) (fun a ha => by cases ha)
theorem dchG_dec {h : List Fault} (ho : heapOk h) : ∀ (n : Nat) (f : Int), f < h.length → (dchG h n f).Pairwise (fun a b => b < a) ∧ ∀ a ∈ dchG h n f, a ≤ f
  | 0, f, _ => ⟨.nil, fun a ha => by cases ha⟩
  | n + 1, f, h1 => by
    simp only [dchG]
    split
    · rename_i h0
      obtain ⟨o1, o2, o3⟩ := ho f.toNat (by omega)
      have e3 : ctxOf h f < f := by have : ctxOf h f < f.toNat := o3
                                    omega
      obtain ⟨q1, q2⟩ := dchG_dec ho n (ctxOf h f) (by omega)
      refine ⟨.cons (fun a ha => by have := q2 a ha; omega) q1, fun a ha => ?_⟩
      rcases List.mem_cons.1 ha with q | q
      · omega
      · have := q2 a q; omega
    · exact ⟨.nil, fun a ha => by cases ha⟩
theorem fold_insF : ∀ (d out : List Int), d.Pairwise (fun a b => b < a) → (∀ a ∈ d, ∀ b ∈ out, a < b) → d.foldl insF out = d.reverse ++ out
  | [], out, _, _ => rfl
  | v :: d, out, hp, hm => by
    rw [List.foldl_cons]
    have hi : insF out v = v :: out := by
      have hk : insK out v = 0 := by
        cases out with
        | nil => rfl
        | cons b out => have := hm v (List.mem_cons_self ..) b (List.mem_cons_self ..)
                        have : ¬ b < v := by omega
                        simp [insK, this]
      unfold insF
      rw [hk, if_pos]
      · simp
      · cases out with
        | nil => exact .inl rfl
        | cons b out => have := hm v (List.mem_cons_self ..) b (List.mem_cons_self ..)
                        right; simp; omega
    obtain ⟨p1, p2⟩ := List.pairwise_cons.1 hp
    rw [hi, fold_insF d (v :: out) p2 (fun a ha b hb => ?_)]
    · simp
    · rcases List.mem_cons.1 hb with q | q
      · subst q; exact p1 a ha
      · exact hm a (List.mem_cons_of_mem _ ha) b q
theorem sortI_dec {d : List Int} (hp : d.Pairwise (fun a b => b < a)) : sortI d = d.reverse := by
  have s1 : (sortI d).Pairwise (fun a b => a ≤ b) := by
    have := List.pairwise_mergeSort (le := fun x y : Int => decide (x ≤ y)) (fun a b c h1 h2 => by simp at *; omega) (fun a b => by simp; omega) d
    exact this.imp (fun h => by simpa using h)
  have s2 : d.reverse.Pairwise (fun a b => a ≤ b) := by
    rw [List.pairwise_reverse]
    exact hp.imp (fun h => by omega)
  have pm : (sortI d).Perm d.reverse := (List.mergeSort_perm d _).trans (List.reverse_perm d).symm
  exact pm.eq_of_pairwise (fun a b _ _ h1 h2 => by omega) s1 s2
theorem sort_same {h : List Fault} (ho : heapOk h) {f : Int} (h0 : 0 ≤ f) (h1 : f < h.length) : sortI (bfsF h f) = sortedF (dchF h f) := by
  have hd := (dchG_dec ho (f + 1).toNat f h1).1
  rw [bfsF_dch ho h0 h1]
  unfold sortedF
  have := fold_insF (dchF h f) [] hd (fun a _ b hb => by cases hb)
  rw [this, List.append_nil]
  exact sortI_dec hd
theorem res_same {t : List Class} {s : Clo} {k : Nat} (hc : CloOk t s k) : resM s = resX s := by
  unfold resM resX
  by_cases h0 : 0 ≤ s.cur
  · rw [if_pos h0, if_pos h0]
    rw [sort_same hc.ho h0 hc.cur]
  · rw [if_neg h0, if_neg h0]
theorem resEq_refl (a : Res) : resEq a a = true := by
  simp [resEq]
theorem c_mCloseExitsF (t : List Class) (cl : Bool) (l : List Exi) (cl' : Bool) (x : Sta) (H : AHeap) (hn : namesOk t) :
    ACalls Try.prog 6 [aTree t cl, .vsl (l.map rExit) cl', .agg (rStart x)] H fun r H' => (∃ c1 c2, r = aRes (if (validX t l && startOk t x) = true then resX (closeX t l x) else res0) c1 c2) ∧ H' = H := by
  have hs : (if (validX t l && startOk t x) = true then resM (closeX t l x) else res0) = (if (validX t l && startOk t x) = true then resX (closeX t l x) else res0) := by
    split
    · rename_i h
      simp only [Bool.and_eq_true] at h
      rw [res_same (closeX_ok h.1 h.2)]
    · rfl
  rw [← hs]
  exact own_frz (c_mCloseExits t cl l cl' x H hn)
end Go.Proofs.Ytihjbbiajggcoaa
end
section
set_option linter.unusedVariables false
set_option linter.unusedSimpArgs false
namespace Go.Proofs.Ytihjbbiajggcoaa
open Go Go.Sim
set_option maxRecDepth 100000
attribute [local go_sem ↓] aw_skip aw_ret aw_exit aw_region aw_draw aw_seq aw_block aw_loop aw_cond frz_nil frz_cons sq_normal sq_ret sq_exit exB_normal exB_ret exB_same exB_other retQ_ret retQ_normal ret0_ret ret0_normal ao_nil go1 g_move g_assign g_pick g_build g_load g_binOp g_unOp g_convert g_fieldAddr g_field g_indexAddr g_index g_extract g_slice g_nilCheck g_len g_makeFunc h_call h_append h_alloc h_box h_buildSlice h_makeSlice h_store gV i_box i_buildSlice i_move i_assign i_build i_load i_binOp i_unOp i_convert i_fieldAddr i_field i_indexAddr i_index i_extract i_slice i_nilCheck i_makeFunc i_len i_max i_min i_alloc i_makeSlice i_store i_append i_call i_pick boxI boxA buildSliceI buildSliceA makeSliceA allocA storeA p_move p_assign p_pick p_build p_load p_binOp p_unOp p_convert p_fieldAddr p_field p_indexAddr p_index p_extract p_slice p_nilCheck p_makeFunc p_len p_max p_min p_alloc p_box p_buildSlice p_makeSlice p_store p_append p_call x_nil x_go1 x_g0 x_g1 x_g2 x_g3 x_s0 x_s1 x_s2 x_s3 u_move u_assign u_pick u_build u_load u_binOp u_unOp u_convert u_fieldAddr u_field u_indexAddr u_index u_extract u_slice u_nilCheck u_makeFunc u_len u_buildSlice x_s4 x_g4 rq_normal rq_ret rq_exit aw_range
attribute [local go_sem] frzV_sl frzK_some set_none set_other AHeap.set_self set_del set_set cnd_t cnd_f cnd_b retA_one retA_two retA_three retA_four retA_nil gIf_b mrgV_b mrgV_wh mrgV_U gIf_U gIf_wh mrgB_f mrgB_some mrgB_if wh_true wh_false keepA_some keepA_if gD_zero gD_succ gT_some bxA_t bxA_f callA_fn ev_tmp ev_const ev_global ev_func oc_bool oc_int oc_string oc_nil oc_nilptr oc_nilfunc cl_bool cl_int cl_string cl_nil updO_some updO_none upd_same upd_other init_at pickA_b pickA_wh selA_t selA_f selA_and selA_or selA_orn selA_orm selA_bb selA_ii beqt b_add b_sub b_mul b_and b_or b_xor b_eql b_neq b_lss b_leq b_gtr b_geq b_quo b_rem b_shr b_seql b_sneq b_sadd b_beql b_bneq b_aeql b_aneq u_not u_neg isConstOp eqA eqCellV List.getD_cons_zero List.getD_cons_succ List.map_cons List.map_nil List.nil_append List.cons_append List.append_nil if_true if_false Option.map_some Option.map_none ne_eq not_false_eq_true oneA ldv ld1v ld1s wr1s ldRow stRow row_lit row_agg row_vsl row_sl row_ptr row_fn one_I one_B one_S one_vsl one_sl one_ptr one_fn extractA okA rI rS rU rClass rFault rExit rStart rLine Int.toNat_natCast List.length_cons List.length_nil List.length_map List.all_cons List.all_nil Bool.and_true Nat.zero_add List.getElem?_cons_zero List.getElem?_cons_succ List.take_succ_cons List.take_zero List.drop_succ_cons List.drop_zero and_self true_and and_true implies_true decide_eq_true_eq decide_eq_false_iff_not Bool.or_eq_true Bool.or_eq_false_iff Bool.and_eq_true Bool.not_eq_true' Bool.not_eq_false' beq_false decide_true decide_false Int.ofNat_lt Int.ofNat_le Int.natCast_nonneg Bool.or_true Bool.or_false Bool.true_or Bool.false_or beq_self_eq_true List.drop_one Bool.not_true Bool.not_false Bool.not_not Bool.false_eq_true Bool.true_eq_false false_implies true_implies Bool.true_and Bool.false_and Bool.and_false not_true_eq_false Int.natCast_eq_zero Int.natCast_pos Int.natCast_zero false_and and_false or_false false_or or_true true_or Bool.or_self none_le_iff List.replicate_zero Int.toNat_zero List.replicate_succ buildRows List.set_cons_zero List.set_cons_succ List.set_nil List.mapM_nil maxLen_eq Nat.zero_le Nat.mul_one Nat.one_mul bldA fillA spliceA List.take_nil List.drop_nil List.getElem?_nil ld1o wr1o bldSliceA le_same cv_i cvI_t quietT_fn qvd_some ld_o ldO_1 ldO_l wr_o wrO_1 set_2 set_3 set_4 putL_nil putL_cons List.zip_cons_cons List.zip_nil_left List.zip_nil_right List.toList_toArray frzV_set ti1 ti2 tk2 ti3 te3 ts3 tk3 tz3 ti4 tb4 ti5 tk5 tz5 ti9 te9 ts9 tk9 tz9 ti12 tk12 ti13 tp13 tf13_0 tf13_1 ti20 ti21 tk21 tz21 ti22 te22 tz22 ti23 te23 ti24 tp24 tf24_0 ti25 tp25 tf25_0 ti26 te26 ti27 tq27 tp27 tf27_0 tf27_1 tf27_2 ti28 tq28 tp28 tf28_0 tf28_1 tf28_2 ti30 ti31 te31 ti32 te32 ti33 tp33 tf33_0 ti34 tp34 tf34_0 ti35 tp35 tf35_0 tf35_1 tf35_2 tf35_3 ti36 tp36 tf36_0 tf36_1 tf36_2 tf36_3 ti37 ti38 ti39 ti40 tq40 tp40 tf40_0 tf40_1 tf40_2 ti41 tq41 tp41 tf41_0 tf41_1 tf41_2 ti42 ti43 ti44 ti45 ti47 ti48 ti49 ti50 ti51 ti52 ti53 ti54 ti55 tp55 tf55_0 tf55_1 ti56 tp56 tf56_0 tf56_1 ti57 ti58 ti59 ti60 ti61 ti62 ti63 ti64 ti65 ti66 ti67 tq67 tp67 tf67_0 tf67_1 ti68 tq68 tp68 tf68_0 tf68_1 ti69 tq69 tp69 tf69_0 tf69_1 tf69_2 tf69_3 tf69_4 ti70 tq70 tp70 tf70_0 tf70_1 tf70_2 tf70_3 tf70_4 ti71 ti72 tp72 tf72_0 tf72_1 tf72_2 ti73 tp73 tf73_0 tf73_1 tf73_2 ti74 ti75 ti77 ti78 tq78 tp78 tf78_0 tf78_1 ti79 tq79 tp79 tf79_0 tf79_1 ti80 ti81 ti82 ti83 ti84 ti85 te85 ti86 ti87 te87 ti88 tp88 tf88_0 tf88_1 tf88_2 tf88_3 tf88_4 ti89 tp89 tf89_0 tf89_1 tf89_2 tf89_3 tf89_4 ti90 ti91 ti92 ti93 ti94 ti95 ti96 ti97 ti98 ti99 ti100 ti101 ti102 ti103 ti104 ti105 ti106 ti107 ti108 ti109 ti110 ti111 ti112 ti113 ti114 ti115 ti116 tk116 tz116 ti117 ti118 tk118 ti120 ti121 ti122 ti124 ti125 ti126 tk126 tz126 ti127 ti128 tk128 tz128 ti129 tk129 ti130 ti131 ti132 ti133 ti134 ti135 ti137 ti138 ti144 ti148 ti153 ti154 tq154 tp154 tf154_0 tf154_1 tf154_2 tf154_3 ti155 tq155 tp155 tf155_0 tf155_1 tf155_2 tf155_3 ti157 fp13_0 fv13_0 fp13_1 fv13_1 fp24_0 fv24_0 fp25_0 fv25_0 fp27_0 fv27_0 fp27_1 fv27_1 fp27_2 fv27_2 fp28_0 fv28_0 fp28_1 fv28_1 fp28_2 fv28_2 fp33_0 fv33_0 fp34_0 fv34_0 fp35_0 fv35_0 fp35_1 fv35_1 fp35_2 fv35_2 fp35_3 fv35_3 fp36_0 fv36_0 fp36_1 fv36_1 fp36_2 fv36_2 fp36_3 fv36_3 fp40_0 fv40_0 fp40_1 fv40_1 fp40_2 fv40_2 fp41_0 fv41_0 fp41_1 fv41_1 fp41_2 fv41_2 fp55_0 fv55_0 fp55_1 fv55_1 fp56_0 fv56_0 fp56_1 fv56_1 fp67_0 fv67_0 fp67_1 fv67_1 fp68_0 fv68_0 fp68_1 fv68_1 fp69_0 fv69_0 fp69_1 fv69_1 fp69_2 fv69_2 fp69_3 fv69_3 fp69_4 fv69_4 fp70_0 fv70_0 fp70_1 fv70_1 fp70_2 fv70_2 fp70_3 fv70_3 fp70_4 fv70_4 fp72_0 fv72_0 fp72_1 fv72_1 fp72_2 fv72_2 fp73_0 fv73_0 fp73_1 fv73_1 fp73_2 fv73_2 fp78_0 fv78_0 fp78_1 fv78_1 fp79_0 fv79_0 fp79_1 fv79_1 fp88_0 fv88_0 fp88_1 fv88_1 fp88_2 fv88_2 fp88_3 fv88_3 fp88_4 fv88_4 fp89_0 fv89_0 fp89_1 fv89_1 fp89_2 fv89_2 fp89_3 fv89_3 fp89_4 fv89_4 fp154_0 fv154_0 fp154_1 fv154_1 fp154_2 fv154_2 fp154_3 fv154_3 fp155_0 fv155_0 fp155_1 fv155_1 fp155_2 fv155_2 fp155_3 fv155_3 lv22 ll22 is22 ix22 sh22 so22 sb22 sm22 sp22 lv23 ll23 is23 ix23 sh23 so23 sb23 sm23 sp23 lv26 ll26 is26 ix26 sh26 so26 sb26 sm26 sp26 lv31 ll31 is31 ix31 sh31 so31 sb31 sm31 sp31 lv32 ll32 is32 ix32 sh32 so32 sb32 sm32 sp32 lv85 ll85 is85 ix85 sh85 so85 sb85 sm85 sp85 lv87 ll87 is87 ix87 sh87 so87 sb87 sm87 sp87 xs9 ls9 sx9 sy9 sz9

/-- The calls among exits. -/
def callsF (l : List Exi) : List Exi := l.filter fun e => decide (e.kind = 0)
theorem calls_take {l : List Exi} {k : Nat} (h : k < l.length) : callsF (l.take (k + 1)) = callsF (l.take k) ++ (if (l.getD k default).kind = 0 then [l.getD k default] else []) := by
  have e : l.getD k default = l[k] := by simp [List.getD_eq_getElem?_getD, h]
  rw [List.take_succ_eq_append_getElem h, callsF, List.filter_append, e, callsF]
  congr 1
  by_cases c : l[k].kind = 0 <;> simp [c]
theorem calls_le (l : List Exi) : (callsF l).length ≤ l.length := List.length_filter_le ..
theorem step_calm (t : List Class) (log : List Int) (fs : List Fault) (e : Exi) (h : e.kind ≠ 3) : stepX t ⟨log, fs, -1⟩ e = ⟨log ++ (callsF [e]).map (·.a), fs, -1⟩ := by
  unfold stepX callsF
  by_cases c0 : e.kind = 0
  · simp [c0]
  · by_cases c1 : e.kind = 1
    · simp [c1]
    · by_cases c2 : e.kind = 2
      · simp [c2]
      · simp [c0, c1, c2, h]
theorem fold_calm (t : List Class) : ∀ (m : List Exi) (log : List Int) (fs : List Fault), (∀ e ∈ m, e.kind ≠ 3) → m.foldl (stepX t) ⟨log, fs, -1⟩ = ⟨log ++ (callsF m).map (·.a), fs, -1⟩
  | [], log, fs, _ => by simp [callsF]
  | e :: m, log, fs, h => by
    rw [List.foldl_cons, step_calm t log fs e (h e (List.mem_cons_self ..)), fold_calm t m _ _ (fun a ha => h a (List.mem_cons_of_mem _ ha))]
    have : callsF (e :: m) = callsF [e] ++ callsF m := by rw [callsF, callsF, callsF, ← List.filter_append]; rfl
    rw [this, List.map_append, List.append_assoc]
theorem calls_rev (l : List Exi) : callsF l.reverse = (callsF l).reverse := by simp [callsF, List.filter_reverse]
/-- With no start and no raise the end is calm, and the log tells the calls backwards. -/
theorem res_calm {t : List Class} {l : List Exi} {x : Sta} (hx : x.has = false) (h : ∀ e ∈ l, e.kind ≠ 3) : resX (closeX t l x) = ⟨((callsF l).reverse).map (·.a), 0, 0, []⟩ := by
  have e : closeX t l x = ⟨((callsF l).reverse).map (·.a), [], -1⟩ := by
    unfold closeX startX
    rw [if_neg (by simp [hx]), fold_calm t _ _ _ (fun a ha => h a (List.mem_reverse.1 ha)), calls_rev, List.nil_append]
  rw [e]
  simp [resX]
theorem c_Tell (bs : List UInt8) (cb : Bool) (H : AHeap) : ACalls Try.prog 3 [.vsl (bs.map rU) cb] H fun r H' => r = B true ∧ H' = H := by
  refine acalls_of1 Try.func3 rfl (by kernel_rfl) rfl rfl (awp_sound (fz := fun _ => []) (im := fun _ => false) mixed _ _ _ _ (by kernel_rfl) ?_)
  simp +contextual -dsimp -implicitDefEqProofs (maxSteps := 5000000) only [go_sem, reduceIte, reduceCtorEq, Nat.reduceEqDiff, Nat.reduceBEq, Nat.reduceAdd, Nat.reduceLeDiff, Nat.reduceMul, Nat.reduceLT, Int.reduceEq, Int.reduceLT, Int.reduceLE]
  refine ⟨fun hbig => ?_, fun hsmall => ?_⟩
  · refine retR_less (l := [B true]) (H' := H) ?_ (AHeap.le_refl _) ⟨rfl, rfl⟩
    simp only [resA, go_sem, reduceIte, reduceCtorEq, Nat.reduceEqDiff, Nat.reduceBEq, Nat.reduceAdd, Nat.reduceLeDiff, Nat.reduceMul, Nat.reduceLT, Int.reduceEq, Int.reduceLT, Int.reduceLE]
  refine (c_DrawCloseExits H bs cb).mono ?_
  rintro _ H1 ⟨t, cl, l, cl', x, rfl, hH, hs, ht8, hl8⟩
  rw [hH]
  have hn := short_ok hs
  simp +contextual -dsimp -implicitDefEqProofs (maxSteps := 5000000) only [go_sem, reduceIte, reduceCtorEq, Nat.reduceEqDiff, Nat.reduceBEq, Nat.reduceAdd, Nat.reduceLeDiff, Nat.reduceMul, Nat.reduceLT, Int.reduceEq, Int.reduceLT, Int.reduceLE]
  rintro b3 h3 b5 ⟨p1, p2, h5⟩
  refine (c_mCloseExitsF t cl l cl' x _ hn).mono ?_
  rintro _ _ ⟨⟨c1, c2, rfl⟩, rfl⟩
  generalize hR : (if (validX t l && startOk t x) = true then resX (closeX t l x) else res0) = R
  simp +contextual -dsimp -implicitDefEqProofs (maxSteps := 5000000) only [go_sem, reduceIte, reduceCtorEq, Nat.reduceEqDiff, Nat.reduceBEq, Nat.reduceAdd, Nat.reduceLeDiff, Nat.reduceMul, Nat.reduceLT, Int.reduceEq, Int.reduceLT, Int.reduceLE, p1, p2]
  rintro b6 ⟨q1, q2, q3, q4, h6⟩
  refine draw_intro [1, 0, 0, 0, 3, 2, 0, 0, 0, 0, 2, 0, 0, 0, 0, 0, 0, 0, 0, 0, 0, 0, 0, 0, 0, 0, 0] _ (by kernel_rfl) (AHeap.le_refl _) ?_
  simp +contextual -dsimp -implicitDefEqProofs (maxSteps := 5000000) only [go_sem, reduceIte, reduceCtorEq, Nat.reduceEqDiff, Nat.reduceBEq, Nat.reduceAdd, Nat.reduceLeDiff, Nat.reduceMul, Nat.reduceLT, Int.reduceEq, Int.reduceLT, Int.reduceLE, p1, p2, q1, q2, q3, q4]
  refine (c_sCloseExits t cl l cl' x _ hn).mono ?_
  rintro _ _ ⟨⟨c3, c4, rfl⟩, rfl⟩
  rw [hR]
  simp +contextual -dsimp -implicitDefEqProofs (maxSteps := 5000000) only [go_sem, reduceIte, reduceCtorEq, Nat.reduceEqDiff, Nat.reduceBEq, Nat.reduceAdd, Nat.reduceLeDiff, Nat.reduceMul, Nat.reduceLT, Int.reduceEq, Int.reduceLT, Int.reduceLE, p1, p2, q1, q2, q3, q4]
  refine (c_equalResult R R _ _ _ _ _).det ?_
  rw [resEq_refl]
  simp +contextual -dsimp -implicitDefEqProofs (maxSteps := 5000000) only [go_sem, reduceIte, reduceCtorEq, Nat.reduceEqDiff, Nat.reduceBEq, Nat.reduceAdd, Nat.reduceLeDiff, Nat.reduceMul, Nat.reduceLT, Int.reduceEq, Int.reduceLT, Int.reduceLE, p1, p2, q1, q2, q3, q4]
  refine (c_ValidExits t cl l cl' _ hn).det ?_
  have le3 : ∀ K3 K5 K6, AHeap.le H (((H.set b3 K3).set b5 K5).set b6 K6) := fun _ _ _ => le_s1 (le_s1 (le_s1 (AHeap.le_refl _) h3) h5) h6
  simp +contextual -dsimp -implicitDefEqProofs (maxSteps := 5000000) only [go_sem, reduceIte, reduceCtorEq, Nat.reduceEqDiff, Nat.reduceBEq, Nat.reduceAdd, Nat.reduceLeDiff, Nat.reduceMul, Nat.reduceLT, Int.reduceEq, Int.reduceLT, Int.reduceLE, p1, p2, q1, q2, q3, q4]
  refine ⟨fun hc => ?_, fun hc => ?_⟩
  · refine draw_intro [1, 0, 0, 0, 3, 2, 0] _ (by kernel_rfl) (AHeap.le_refl _) ?_
    simp +contextual -dsimp -implicitDefEqProofs (maxSteps := 5000000) only [go_sem, reduceIte, reduceCtorEq, Nat.reduceEqDiff, Nat.reduceBEq, Nat.reduceAdd, Nat.reduceLeDiff, Nat.reduceMul, Nat.reduceLT, Int.reduceEq, Int.reduceLT, Int.reduceLE, p1, p2, q1, q2, q3, q4]
    refine (c_sCloseExits t cl l cl' x _ hn).mono ?_
    rintro _ _ ⟨⟨c3, c4, rfl⟩, rfl⟩
    rw [hR]
    simp +contextual -dsimp -implicitDefEqProofs (maxSteps := 5000000) only [go_sem, reduceIte, reduceCtorEq, Nat.reduceEqDiff, Nat.reduceBEq, Nat.reduceAdd, Nat.reduceLeDiff, Nat.reduceMul, Nat.reduceLT, Int.reduceEq, Int.reduceLT, Int.reduceLE, p1, p2, q1, q2, q3, q4]
    refine (c_equalResult R R _ _ _ _ _).det ?_
    rw [resEq_refl]
    simp +contextual -dsimp -implicitDefEqProofs (maxSteps := 5000000) only [go_sem, reduceIte, reduceCtorEq, Nat.reduceEqDiff, Nat.reduceBEq, Nat.reduceAdd, Nat.reduceLeDiff, Nat.reduceMul, Nat.reduceLT, Int.reduceEq, Int.reduceLT, Int.reduceLE, p1, p2, q1, q2, q3, q4]
    refine retR_less (l := [B true]) (H' := H) ?_ (le3 _ _ _) ⟨rfl, rfl⟩
    simp only [resA, go_sem, reduceIte, reduceCtorEq, Nat.reduceEqDiff, Nat.reduceBEq, Nat.reduceAdd, Nat.reduceLeDiff, Nat.reduceMul, Nat.reduceLT, Int.reduceEq, Int.reduceLT, Int.reduceLE]
  · refine aloop mixed (fz := fun r => if r = 3 then [3, 5] else if r = 4 then [6] else []) (im := fun _ => false) (by kernel_rfl) (fun m tm H' => ∃ k : Nat, m = l.length - k ∧ k ≤ l.length ∧ H' = (((H.set b3 ⟨1, 25, [[.vsl (t.map rClass) cl]]⟩).set b5 ⟨3, 28, [rStart x]⟩).set b6 ⟨4, 36, [[.vsl (R.log.map rI) c1, I R.ed, I R.val, .vsl (R.heap.map rFault) c2]]⟩) ∧ tm 4 = .vsl (l.map rExit) cl' ∧ tm 6 = .ptr b6 4 0 0 ∧ tm 7 = I (callsF (l.take k)).length ∧ tm 8 = I k ∧ ∀ e ∈ l.take k, e.kind ≠ 3) l.length ⟨0, by omega, by omega, rfl, ?_⟩ ?_
    · simp +contextual -dsimp -implicitDefEqProofs (maxSteps := 5000000) only [go_sem, reduceIte, reduceCtorEq, Nat.reduceEqDiff, Nat.reduceBEq, Nat.reduceAdd, Nat.reduceLeDiff, Nat.reduceMul, Nat.reduceLT, Int.reduceEq, Int.reduceLT, Int.reduceLE]
      exact ⟨rfl, fun e he => by cases he⟩
    · rintro m tm _ ⟨k, rfl, hk, rfl, h4, h6, h7, h8, hno⟩
      simp +contextual -dsimp -implicitDefEqProofs (maxSteps := 5000000) only [go_sem, reduceIte, reduceCtorEq, Nat.reduceEqDiff, Nat.reduceBEq, Nat.reduceAdd, Nat.reduceLeDiff, Nat.reduceMul, Nat.reduceLT, Int.reduceEq, Int.reduceLT, Int.reduceLE, h4, h6, h7, h8]
      have hno1 : ∀ k', k' = k + 1 → k < l.length → ¬ (l.getD k default).kind = 3 → ∀ e ∈ l.take k', ¬ e.kind = 3 := by
        rintro _ rfl hlt hk3 e he
        rw [List.take_succ_eq_append_getElem hlt] at he
        rcases List.mem_append.1 he with q | q
        · exact hno e q
        · simp at q; subst q; simpa [List.getD_eq_getElem?_getD, hlt] using hk3
      refine ⟨fun hlt => ⟨fun hk3 => ?_, fun hk3 => ⟨fun h0 => ⟨_, ?_, k + 1, rfl, hlt, ?_, I_wrap (by omega) (by omega) (by omega), hno1 _ rfl hlt hk3⟩, fun h0 => ⟨_, ?_, k + 1, rfl, hlt, ?_, I_wrap (by omega) (by omega) (by omega), hno1 _ rfl hlt hk3⟩⟩⟩, fun hge => ?_⟩
      · refine retR_less (l := [B true]) (H' := H) ?_ (le3 _ _ _) ⟨rfl, rfl⟩
        simp only [resA, go_sem, reduceIte, reduceCtorEq, Nat.reduceEqDiff, Nat.reduceBEq, Nat.reduceAdd, Nat.reduceLeDiff, Nat.reduceMul, Nat.reduceLT, Int.reduceEq, Int.reduceLT, Int.reduceLE]
      · omega
      · have := calls_le (l.take k)
        rw [List.length_take] at this
        rw [calls_take hlt, if_pos h0, List.length_append, List.length_singleton]
        exact I_wrap (by omega) (by omega) (by omega)
      · omega
      · rw [calls_take hlt, if_neg h0, List.append_nil]
      · have hkl : k = l.length := by omega
        subst hkl
        rw [List.take_length] at hno h7
        obtain ⟨⟨⟨hv, hx⟩, hc0⟩, hd0⟩ := hc
        have hR' : R = ⟨((callsF l).reverse).map (·.a), 0, 0, []⟩ := by
          rw [← hR, if_pos, res_calm hx hno]
          simp [hv, startOk, hx, hc0, hd0]
        refine retR_less (l := [B true]) (H' := H) ?_ (le3 _ _ _) ⟨rfl, rfl⟩
        simp only [resA, go_sem, reduceIte, reduceCtorEq, Nat.reduceEqDiff, Nat.reduceBEq, Nat.reduceAdd, Nat.reduceLeDiff, Nat.reduceMul, Nat.reduceLT, Int.reduceEq, Int.reduceLT, Int.reduceLE, hR']
        simp
end Go.Proofs.Ytihjbbiajggcoaa
end
section
set_option linter.unusedVariables false
set_option linter.unusedSimpArgs false
namespace Go.Proofs.Ytihjbbiajggcoaa
open Go Go.Sim Go.ChangeShapes Go.WideShapes Go.ChangeAt Go.RowKit
set_option maxRecDepth 100000
set_option linter.unusedVariables false

theorem own : ownKnob Try.prog.godebug = none := by kernel_rfl
theorem laidOut : laidOutB Try.prog = true := by kernel_rfl
/-- What the walk is told of bytes that came in. -/
def IsRow (k : IntKind) (w : World) (a : Option Addr) (len cap : Nat) (zs : List Int) : Prop :=
  (a = none ∧ len = 0 ∧ cap = 0 ∧ zs = []) ∨
  ∃ b off, a = some ⟨b, off, none⟩ ∧ b < w.heap.size ∧ len ≤ cap ∧ cap ≤ maxLen ∧ zs.length = cap ∧ (∀ i, i < zs.length → w.cell? ⟨b, off + i, none⟩ = some (.int k (zs.getD i 0))) ∧ ∀ n ∈ zs, (Lit.int k n).wf = true

theorem none_dom (b : Nat) : ¬ AHeap.none.dom b := fun h => h rfl
theorem hrel_none (w : World) : HRel AHeap.none w := ⟨fun b k h => by cases h⟩
theorem shape_lt {w : World} {b : Nat} {x : TypeId × Nat} (h : w.shape? b = some x) : b < w.heap.size := by
  unfold World.shape? at h
  rcases Nat.lt_or_ge b w.heap.size with q | q
  · exact q
  · rw [Array.getElem?_eq_none q] at h; cases h
theorem row_rel {w : World} {a : Option Addr} {len cap : Nat} {zs : List Int} (h : IsRow .u8 w a len cap zs) : ∃ bs : List UInt8, Rel AHeap.none.dom w (.vsl (bs.map rU) false) (.slice a len cap) := by
  rcases h with ⟨rfl, rfl, rfl, rfl⟩ | ⟨b, off, rfl, hb, hl, hm, hz, hcell, hwz⟩
  · exact ⟨[], .vnil false⟩
  · refine ⟨(zs.take len).map fun n => UInt8.ofNat n.toNat, ?_⟩
    have hlen : (((zs.take len).map fun n => UInt8.ofNat n.toNat).map rU).length = len := by simp; omega
    have row : ∀ (p : Nat) (r : List AV), (((zs.take len).map fun n => UInt8.ofNat n.toNat).map rU)[p]? = some r → p < zs.length ∧ r = [.lit (.int .u8 (zs.getD p 0))] := by
      intro p r hp
      obtain ⟨hp1, hp2⟩ := List.getElem?_eq_some_iff.1 hp
      rw [hlen] at hp1
      have hp3 : p < zs.length := by omega
      refine ⟨hp3, ?_⟩
      have hw := hwz (zs.getD p 0) (by rw [List.getD_eq_getElem?_getD, List.getElem?_eq_getElem hp3]; exact List.getElem_mem hp3)
      rw [← hp2]
      have e : zs.getD p 0 = zs[p] := by simp [List.getD_eq_getElem?_getD, hp3]
      simp only [List.getElem_map, List.getElem_take, e] at hw ⊢
      have h0 : 0 ≤ zs[p] ∧ zs[p] ≤ 255 := by simpa [Lit.wf, IntKind.min, IntKind.max, IntKind.signed, IntKind.bits] using hw
      have h1 : ((UInt8.ofNat zs[p].toNat).toNat : Int) = zs[p] := by
        rw [UInt8.toNat_ofNat']
        omega
      show [AV.lit (.int .u8 _)] = _
      rw [h1]
    have key := Rel.vsl (O := AHeap.none.dom) (w := w) (((zs.take len).map fun n => UInt8.ofNat n.toNat).map rU) false b off 1 cap (fun p _ => .int .u8 (zs.getD p 0)) (by rw [hlen]; exact hl) hm (fun h => by cases h) (none_dom b) hb ?_ ?_ ?_ ?_
    · rw [hlen] at key
      exact key
    · intro p r hp
      rw [(row p r hp).2]; rfl
    · intro p q r x hp hx
      obtain ⟨h1, rfl⟩ := row p r hp
      cases q with
      | zero => rw [Nat.mul_one, Nat.add_zero]; exact hcell p h1
      | succ q => simp at hx
    · intro p q r x hp hx; rfl
    · intro p q r x hp hx
      obtain ⟨h1, rfl⟩ := row p r hp
      cases q with
      | zero => simp at hx; subst hx; exact .lit _
      | succ q => simp at hx
/-- Behind a call over nothing of its own: what was there reads as it did. -/
theorem below_of {H' : AHeap} {w w' : World} (h : Ev AHeap.none.dom w w') : Below w.heap.size w w' :=
  ⟨h.os, h.tape, h.output, h.size, fun k hk => h.keep k hk (none_dom k)⟩
/-- A law of bytes that answers true, as the frame takes it. -/
theorem law_walk {f : FuncId} (hc : ∀ (bs : List UInt8) (cb : Bool) (H : AHeap), ACalls Try.prog f [.vsl (bs.map rU) cb] H fun r H' => r = B true ∧ H' = H)
    {a : Option Addr} {len cap : Nat} {zs : List Int} {w : World} (h : IsRow .u8 w a len cap zs) :
    Calls Try.prog f #[.slice a len cap] w fun e w' => e = .returned (.bool true) ∧ Below w.heap.size w w' := by
  obtain ⟨bs, hr⟩ := row_rel h
  refine ((hc bs false AHeap.none).2 w #[.slice a len cap] (hrel_none w) (RelL.cons hr (RelL.nil _ _))).mono ?_
  rintro e w' ⟨v, r, H', rfl, ⟨rfl, rfl⟩, hv, _, hev, _⟩
  cases hv
  exact ⟨rfl, below_of (H' := AHeap.none) hev⟩
end Go.Proofs.Ytihjbbiajggcoaa
end
