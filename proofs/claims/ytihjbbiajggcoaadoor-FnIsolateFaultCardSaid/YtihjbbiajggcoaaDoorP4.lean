/- The law FnIsolateFault answers true at every input and leaves its argument as it was, its listed tables tied to the program's text. No condition. -/
import Derived.Test.YtihjbbiajggcoaaDoorP3
section
set_option linter.unusedVariables false
set_option linter.unusedSimpArgs false
namespace Go.Proofs.YtihjbbiajggcoaaDoor
open Go Go.Sim
set_option maxRecDepth 100000
attribute [local go_sem ↓] aw_skip aw_ret aw_exit aw_region aw_draw aw_seq aw_block aw_loop aw_cond frz_nil frz_cons sq_normal sq_ret sq_exit exB_normal exB_ret exB_same exB_other retQ_ret retQ_normal ret0_ret ret0_normal ao_nil go1 g_move g_assign g_pick g_build g_load g_binOp g_unOp g_convert g_fieldAddr g_field g_indexAddr g_index g_extract g_slice g_nilCheck g_len g_makeFunc h_call h_append h_alloc h_box h_buildSlice h_makeSlice h_store gV i_box i_buildSlice i_move i_assign i_build i_load i_binOp i_unOp i_convert i_fieldAddr i_field i_indexAddr i_index i_extract i_slice i_nilCheck i_makeFunc i_len i_max i_min i_alloc i_makeSlice i_store i_append i_call i_pick boxI boxA buildSliceI buildSliceA makeSliceA allocA storeA p_move p_assign p_pick p_build p_load p_binOp p_unOp p_convert p_fieldAddr p_field p_indexAddr p_index p_extract p_slice p_nilCheck p_makeFunc p_len p_max p_min p_alloc p_box p_buildSlice p_makeSlice p_store p_append p_call x_nil x_go1 x_g0 x_g1 x_g2 x_g3 x_s0 x_s1 x_s2 x_s3 u_move u_assign u_pick u_build u_load u_binOp u_unOp u_convert u_fieldAddr u_field u_indexAddr u_index u_extract u_slice u_nilCheck u_makeFunc u_len u_buildSlice
attribute [local go_sem] frzV_ptr frzV_sl frzK_some set_none set_other AHeap.set_self set_del set_set cnd_t cnd_f cnd_b retA_one retA_two retA_three retA_four retA_nil gIf_b mrgV_b mrgV_wh mrgV_U gIf_U gIf_wh mrgB_f mrgB_some mrgB_if wh_true wh_false keepA_some keepA_if gD_zero gD_succ gT_some bxA_t bxA_f callA_fn ev_tmp ev_const ev_global ev_func oc_bool oc_int oc_string oc_nil oc_nilptr oc_nilfunc cl_bool cl_int cl_string cl_nil updO_some updO_none upd_same upd_other init_at pickA_b pickA_wh selA_t selA_f selA_and selA_or selA_orn selA_orm selA_bb selA_ii beqt b_add b_sub b_mul b_and b_or b_xor b_eql b_neq b_lss b_leq b_gtr b_geq b_quo b_rem b_shr b_seql b_sneq b_sadd b_beql b_bneq b_aeql b_aneq u_not u_neg isConstOp eqA eqCellV List.getD_cons_zero List.getD_cons_succ List.map_cons List.map_nil List.nil_append List.cons_append List.append_nil if_true if_false Option.map_some Option.map_none ne_eq not_false_eq_true oneA ldv ld1v ld1s wr1s ldRow stRow row_lit row_agg row_vsl row_sl row_ptr row_fn one_I one_B one_S one_vsl one_sl one_ptr one_fn extractA okA rI rS rU rClass rFault rExit rStart rLine Int.toNat_natCast List.length_cons List.length_nil List.length_map List.all_cons List.all_nil Bool.and_true Nat.zero_add List.getElem?_cons_zero List.getElem?_cons_succ List.take_succ_cons List.take_zero List.drop_succ_cons List.drop_zero and_self true_and and_true implies_true decide_eq_true_eq decide_eq_false_iff_not Bool.or_eq_true Bool.or_eq_false_iff Bool.and_eq_true Bool.not_eq_true' Bool.not_eq_false' beq_false decide_true decide_false Int.ofNat_lt Int.ofNat_le Int.natCast_nonneg Bool.or_true Bool.or_false Bool.true_or Bool.false_or beq_self_eq_true List.drop_one Bool.not_true Bool.not_false Bool.not_not Bool.false_eq_true Bool.true_eq_false false_implies true_implies Bool.true_and Bool.false_and Bool.and_false not_true_eq_false Int.natCast_eq_zero Int.natCast_pos Int.natCast_zero false_and and_false or_false false_or or_true true_or Bool.or_self none_le_iff List.replicate_zero Int.toNat_zero List.replicate_succ buildRows List.set_cons_zero List.set_cons_succ List.set_nil List.mapM_nil maxLen_eq Nat.zero_le Nat.mul_one Nat.one_mul bldA fillA spliceA List.take_nil List.drop_nil List.getElem?_nil ld1o wr1o bldSliceA le_same ti1 ti2 tk2 ti3 te3 ts3 tk3 tz3 ti4 tb4 ti5 tk5 tz5 ti9 te9 ts9 tk9 tz9 ti12 tk12 ti13 tp13 tf13_0 tf13_1 ti20 ti21 tk21 tz21 ti22 te22 tz22 ti23 te23 ti24 tp24 tf24_0 ti25 tp25 tf25_0 ti26 te26 ti27 tp27 tf27_0 ti28 tp28 tf28_0 ti30 ti32 ti33 ti34 tq34 tp34 tf34_0 tf34_1 tf34_2 tf34_3 tf34_4 ti35 tq35 tp35 tf35_0 tf35_1 tf35_2 tf35_3 tf35_4 ti36 ti37 te37 ti38 ti39 ti40 ti42 ti44 ti45 ti46 ti47 ti48 ti49 ti50 ti51 ti52 ti53 ti54 ti55 ti56 ti57 ti58 ti59 ti60 ti61 ti62 ti64 ti65 ti66 tp66 tf66_0 tf66_1 ti67 tp67 tf67_0 tf67_1 ti68 ti69 ti70 ti71 ti72 ti73 ti74 ti75 ti76 ti77 ti78 ti79 ti80 ti81 ti82 ti83 tq83 tp83 tf83_0 tf83_1 ti84 tq84 tp84 tf84_0 tf84_1 ti85 ti86 ti87 ti88 ti89 ti90 ti91 ti92 ti93 ti94 ti95 ti96 tk96 tz96 ti97 ti98 ti99 ti100 ti101 te101 ti102 ti103 ti104 tk104 ti106 ti107 ti108 ti110 ti111 ti112 tk112 tz112 ti113 ti114 tk114 tz114 ti115 tk115 ti116 ti117 ti118 ti119 ti120 ti121 ti122 ti124 ti125 ta125 ti126 ti128 ti129 ti130 ta130 ti131 ta131 ti132 ta132 ti133 ta133 ti134 ti140 ti144 fp13_0 fv13_0 fp13_1 fv13_1 fp24_0 fv24_0 fp25_0 fv25_0 fp27_0 fv27_0 fp28_0 fv28_0 fp34_0 fv34_0 fp34_1 fv34_1 fp34_2 fv34_2 fp34_3 fv34_3 fp34_4 fv34_4 fp35_0 fv35_0 fp35_1 fv35_1 fp35_2 fv35_2 fp35_3 fv35_3 fp35_4 fv35_4 fp66_0 fv66_0 fp66_1 fv66_1 fp67_0 fv67_0 fp67_1 fv67_1 fp83_0 fv83_0 fp83_1 fv83_1 fp84_0 fv84_0 fp84_1 fv84_1 lv22 ll22 is22 ix22 sh22 so22 sb22 sm22 sp22 lv23 ll23 is23 ix23 sh23 so23 sb23 sm23 sp23 lv26 ll26 is26 ix26 sh26 so26 sb26 sm26 sp26 lv37 ll37 is37 ix37 sh37 so37 sb37 sm37 sp37 lv101 ll101 is101 ix101 sh101 so101 sb101 sm101 sp101 xs9 ls9 sx9 sy9 sz9

def dfsF (h : List Fault) (f : Int) : List Int := dfsG h (h.length + 1) f []
theorem Nums.nil (n : Nat) : Nums n [] where
  mem a ha := absurd ha (List.not_mem_nil)
  free := by have := freeN_nil n; simpa using this
theorem c_isolated0G (h : List Fault) (cl : Bool) (f : Int) (H : AHeap) (hl : h.length ≤ 999999) (hlk : Links h) (hf : f < h.length) (hm : ∀ a ∈ sortedF (dfsF h f), 0 ≤ a ∧ a < h.length) (hll : (dfsF h f).length ≤ 1000000 ∧ (sortedF (dfsF h f)).length ≤ 1000000) :
    ACalls Tryd.prog 30 [aHeap h cl, I f] H fun r H' => ∃ x, r = .tup [.agg [x], I (idxF (fun x => decide (f = x)) (sortedF (dfsF h f)))] ∧ Grow rFault 5 35 H H' x (isoL h (sortedF (dfsF h f))) := by
  refine acalls_of1 Tryd.func30 rfl (by kernel_rfl) rfl rfl (awp_sound (fz := fun r => if r = 9 then [9] else []) (im := fun s => s == 2 || s == 12 || s == 15 || s == 44) mixed _ _ _ _ (by kernel_rfl) ?_)
  simp +contextual -dsimp -implicitDefEqProofs (maxSteps := 5000000) only [go_sem, reduceIte, reduceCtorEq, Nat.reduceEqDiff, Nat.reduceBEq, Nat.reduceAdd, Nat.reduceLeDiff, Nat.reduceMul, Nat.reduceLT, Int.reduceEq, Int.reduceLT, Int.reduceLE]
  intro b4 hb4
  refine acalls_frz (c_reachG h cl hl hlk (h.length + 1) f _ _ _ [] hf (Nums.nil _) (by have := freeN_nil h.length; omega) grow_nil) fun cl1 => ?_
  simp +contextual -dsimp -implicitDefEqProofs (maxSteps := 5000000) only [go_sem, reduceIte, reduceCtorEq, Nat.reduceEqDiff, Nat.reduceBEq, Nat.reduceAdd, Nat.reduceLeDiff, Nat.reduceMul, Nat.reduceLT, Int.reduceEq, Int.reduceLT, Int.reduceLE]
  refine (c_sorted (dfsF h f) cl1 _ hll.1).detV fun cl2 => ?_
  generalize sortedF (dfsF h f) = L at hm hll ⊢
  simp +contextual -dsimp -implicitDefEqProofs (maxSteps := 5000000) only [go_sem, reduceIte, reduceCtorEq, Nat.reduceEqDiff, Nat.reduceBEq, Nat.reduceAdd, Nat.reduceLeDiff, Nat.reduceMul, Nat.reduceLT, Int.reduceEq, Int.reduceLT, Int.reduceLE]
  rintro b7 ⟨n1, n2, hb7⟩
  refine aloop mixed (fz := fun r => if r = 9 then [9] else []) (im := fun s => s == 2 || s == 12 || s == 15 || s == 44) (by kernel_rfl) (fun m tm H' => ∃ (k : Nat) (H2 : AHeap) (x : AV), m = L.length - k ∧ k ≤ L.length ∧ Grow rFault 5 35 H H2 x ((L.take k).map (isoAt h L)) ∧ H2 b4 = none ∧ H2 b7 = none ∧ H' = (H2.set b4 ⟨1, 28, [[.vsl [] true]]⟩).set b7 ⟨1, 28, [[x]]⟩ ∧
    tm 1 = I f ∧ tm 2 = .vptr [[.vsl (h.map rFault) cl]] 0 0 ∧ tm 4 = .ptr b4 1 0 0 ∧ tm 6 = .vsl (L.map rI) cl2 ∧ tm 7 = .ptr b7 1 0 0 ∧ tm 8 = I k) L.length ⟨0, H, .vsl [] true, ?_⟩ ?_
  · simp +contextual -dsimp -implicitDefEqProofs (maxSteps := 5000000) only [go_sem, reduceIte, reduceCtorEq, Nat.reduceEqDiff, Nat.reduceBEq, Nat.reduceAdd, Nat.reduceLeDiff, Nat.reduceMul, Nat.reduceLT, Int.reduceEq, Int.reduceLT, Int.reduceLE]
    exact ⟨rfl, grow_nil, hb4, hb7⟩
  · rintro m tm H' ⟨k, H2, x, rfl, hk, hg, e4, e7, rfl, h1, h2, h4, h6, h7, h8⟩
    obtain ⟨r1, r2⟩ := one_grow hg
    simp +contextual -dsimp -implicitDefEqProofs (maxSteps := 5000000) only [go_sem, reduceIte, reduceCtorEq, Nat.reduceEqDiff, Nat.reduceBEq, Nat.reduceAdd, Nat.reduceLeDiff, Nat.reduceMul, Nat.reduceLT, Int.reduceEq, Int.reduceLT, Int.reduceLE, h1, h2, h4, h6, h7, h8, r1, r2, n1, n2]
    refine ⟨fun h0 => ?_, fun h0 => ?_⟩
    · refine draw_intro [0, 1, 0, 0, 0, 1, 0, 1, 3, 2] AHeap.none (by kernel_rfl) none_le ?_
      have hx := hm (L.getD k default) (by rw [List.getD_eq_getElem?_getD, List.getElem?_eq_getElem h0]; exact List.getElem_mem h0)
      have i1 : (L.getD k default).toNat < h.length := by omega
      simp +contextual -dsimp -implicitDefEqProofs (maxSteps := 5000000) only [go_sem, reduceIte, reduceCtorEq, Nat.reduceEqDiff, Nat.reduceBEq, Nat.reduceAdd, Nat.reduceLeDiff, Nat.reduceMul, Nat.reduceLT, Int.reduceEq, Int.reduceLT, Int.reduceLE, h1, h2, h4, h6, h7, h8, r1, r2, n1, n2, h0, hx, i1]
      rintro b9 ⟨m1, m2, m3, m4, hb9⟩
      refine (c_indexOf _ _ _ _).det ?_
      simp +contextual -dsimp -implicitDefEqProofs (maxSteps := 5000000) only [go_sem, reduceIte, reduceCtorEq, Nat.reduceEqDiff, Nat.reduceBEq, Nat.reduceAdd, Nat.reduceLeDiff, Nat.reduceMul, Nat.reduceLT, Int.reduceEq, Int.reduceLT, Int.reduceLE, h1, h2, h4, h6, h7, h8, r1, r2, n1, n2, h0, hx, i1, m1, m2, m3, m4]
      refine (c_indexOf _ _ _ _).det ?_
      simp +contextual -dsimp -implicitDefEqProofs (maxSteps := 5000000) only [go_sem, reduceIte, reduceCtorEq, Nat.reduceEqDiff, Nat.reduceBEq, Nat.reduceAdd, Nat.reduceLeDiff, Nat.reduceMul, Nat.reduceLT, Int.reduceEq, Int.reduceLT, Int.reduceLE, h1, h2, h4, h6, h7, h8, r1, r2, n1, n2, h0, hx, i1, m1, m2, m3, m4]
      have e9 : ((H2.set b4 ⟨1, 28, [[.vsl [] true]]⟩).set b7 ⟨1, 28, [[x]]⟩) b9 = none := by rw [set_other m1, set_other m3]; exact hb9
      have e74 : (H2.set b4 ⟨1, 28, [[.vsl [] true]]⟩) b7 = none := by rw [set_other n1]; exact e7
      have hlen : ((L.take k).map (isoAt h L)).length ≤ 1000000 := by simp; omega
      refine grow_append (m := [isoAt h L (L.getD k default)]) te26 ti35 rFault_len (by decide) (grow_in (grow_in (grow_in hg e4) e74) e9) (by simp only [List.length_cons, List.length_nil]; omega) (by simp only [List.length_cons, List.length_nil]; omega) rfl fun x' H' hg' => ?_
      have f4 := grow_none hg e4
      have f7 := grow_none hg e7
      have f9 := grow_none hg hb9
      obtain ⟨G1, hg1, rfl, u9⟩ := grow_out hg' (by rw [set_other m1, set_other m3]; exact f9)
      obtain ⟨G2, hg2, rfl, u7⟩ := grow_out hg1 (by rw [set_other n1]; exact f7)
      obtain ⟨G3, hg3, rfl, u4⟩ := grow_out hg2 f4
      obtain ⟨r3, r4⟩ := one_grow hg3
      rw [set_other n1] at u7
      rw [set_other m1, set_other m3] at u9
      simp +contextual -dsimp -implicitDefEqProofs (maxSteps := 5000000) only [go_sem, reduceIte, reduceCtorEq, Nat.reduceEqDiff, Nat.reduceBEq, Nat.reduceAdd, Nat.reduceLeDiff, Nat.reduceMul, Nat.reduceLT, Int.reduceEq, Int.reduceLT, Int.reduceLE, h1, h2, h4, h6, h7, h8, r1, r2, r3, r4, n1, n2, h0, hx, i1, m1, m2, m3, m4, u9]
      exact ⟨_, by omega, k + 1, G3, x', rfl, h0, by rw [List.take_succ_eq_append_getElem h0, List.map_append]; simpa [List.getD_eq_getElem?_getD, h0] using hg3, u4, u7, rfl, I_wrap (by omega) (by omega) (by omega)⟩
    · refine draw_intro [1, 0, 0, 3, 2, 0] ((H2.set b4 ⟨1, 28, [[.vsl [] true]]⟩).set b7 ⟨1, 28, [[x]]⟩) (by kernel_rfl) (AHeap.le_refl _) ?_
      simp +contextual -dsimp -implicitDefEqProofs (maxSteps := 5000000) only [go_sem, reduceIte, reduceCtorEq, Nat.reduceEqDiff, Nat.reduceBEq, Nat.reduceAdd, Nat.reduceLeDiff, Nat.reduceMul, Nat.reduceLT, Int.reduceEq, Int.reduceLT, Int.reduceLE, h1, h2, h4, h6, h7, h8, r1, r2, n1, n2]
      refine (c_indexOf _ _ _ _).det ?_
      simp +contextual -dsimp -implicitDefEqProofs (maxSteps := 5000000) only [go_sem, reduceIte, reduceCtorEq, Nat.reduceEqDiff, Nat.reduceBEq, Nat.reduceAdd, Nat.reduceLeDiff, Nat.reduceMul, Nat.reduceLT, Int.reduceEq, Int.reduceLT, Int.reduceLE, h1, h2, h4, h6, h7, h8, r1, r2, n1, n2]
      rw [List.take_of_length_le (by omega)] at hg
      refine retR_less (l := [.agg [x], I (idxF (fun x => decide (f = x)) L)]) (H' := H2) ?_ (fun c k hc => ?_) ⟨x, rfl, hg⟩
      · simp only [resA, go_sem, reduceIte, reduceCtorEq, Nat.reduceEqDiff, Nat.reduceBEq, Nat.reduceAdd, Nat.reduceLeDiff, Nat.reduceMul, Nat.reduceLT, Int.reduceEq, Int.reduceLT, Int.reduceLE, n1, n2, h4]
      · have c1 : c ≠ b4 := fun e => by rw [e, e4] at hc; cases hc
        have c2 : c ≠ b7 := fun e => by rw [e, e7] at hc; cases hc
        rw [set_other c2, set_other c1]; exact hc
theorem c_isolatedG (h : List Fault) (cl : Bool) (f : Int) (H : AHeap) (hl : h.length ≤ 999999) (hlk : Links h) (hf : f < h.length) (hm : ∀ a ∈ sortedF (dfsF h f), 0 ≤ a ∧ a < h.length) (hll : (dfsF h f).length ≤ 1000000 ∧ (sortedF (dfsF h f)).length ≤ 1000000) :
    ACalls Tryd.prog 30 [aHeap h cl, I f] H fun r H' => (∃ cl', r = .tup [aHeap (isoL h (sortedF (dfsF h f))) cl', I (idxF (fun x => decide (f = x)) (sortedF (dfsF h f)))]) ∧ H' = H := by
  refine acalls_fz (c_isolated0G h cl f H hl hlk hf hm hll) ?_
  rintro _ H' ⟨x, rfl, hg⟩
  obtain ⟨cl', hz⟩ := grow_fz hg
  exact ⟨_, H, grow_le hg, fz_tup (.cons (fz_agg (.cons hz .nil)) (.refl _)), ⟨cl', rfl⟩, rfl⟩
end Go.Proofs.YtihjbbiajggcoaaDoor
end
section
set_option linter.unusedVariables false
set_option linter.unusedSimpArgs false
namespace Go.Proofs.YtihjbbiajggcoaaDoor
open Go Go.Sim
set_option maxRecDepth 100000

def insR : List Int → Int → List Int
  | [], v => [v]
  | b :: out, v => if b < v then b :: insR out v else if b = v then b :: out else v :: b :: out
theorem insF_eq : ∀ (out : List Int) (v : Int), insF out v = insR out v
  | [], v => by simp [insF, insR, insK]
  | b :: out, v => by
    have ih := insF_eq out v
    unfold insR
    by_cases c : b < v
    · rw [if_pos c, ← ih]
      have hk : insK (b :: out) v = insK out v + 1 := by simp [insK, List.takeWhile_cons, c]
      unfold insF
      rw [hk]
      simp only [List.length_cons, List.getD_cons_succ, List.take_succ_cons, List.drop_succ_cons, Nat.add_right_cancel_iff]
      split <;> simp
    · rw [if_neg c]
      have hk : insK (b :: out) v = 0 := by simp [insK, List.takeWhile_cons, c]
      unfold insF
      rw [hk]
      by_cases e : b = v
      · rw [if_pos e, if_neg (by simp [e])]
      · rw [if_neg e, if_pos (by right; simpa using e)]
        simp
theorem insR_mem : ∀ {out : List Int} {v a : Int}, a ∈ insR out v ↔ a = v ∨ a ∈ out
  | [], v, a => by simp [insR]
  | b :: out, v, a => by
    unfold insR
    split
    · rw [List.mem_cons, insR_mem, List.mem_cons]
      constructor
      · rintro (q | q | q) <;> simp [q]
      · rintro (q | q | q) <;> simp [q]
    · split
      · rename_i e; subst e; simp
      · simp
theorem insR_asc : ∀ {out : List Int} {v : Int}, out.Pairwise (· < ·) → (insR out v).Pairwise (· < ·)
  | [], v, _ => by simp [insR]
  | b :: out, v, h => by
    obtain ⟨h1, h2⟩ := List.pairwise_cons.1 h
    unfold insR
    split
    · rename_i c
      refine .cons (fun a ha => ?_) (insR_asc h2)
      rcases insR_mem.1 ha with q | q
      · omega
      · exact h1 a q
    · split
      · exact h
      · rename_i c e
        refine .cons (fun a ha => ?_) h
        rcases List.mem_cons.1 ha with q | q
        · omega
        · have := h1 a q; omega
theorem fold_asc : ∀ (l out : List Int), out.Pairwise (· < ·) → (l.foldl insF out).Pairwise (· < ·) ∧ ∀ a, a ∈ l.foldl insF out ↔ a ∈ out ∨ a ∈ l
  | [], out, h => ⟨h, fun a => by simp⟩
  | v :: l, out, h => by
    rw [List.foldl_cons, insF_eq]
    obtain ⟨h1, h2⟩ := fold_asc l (insR out v) (insR_asc h)
    refine ⟨h1, fun a => ?_⟩
    rw [h2, insR_mem, List.mem_cons]
    constructor
    · rintro ((q | q) | q) <;> simp [q]
    · rintro (q | q | q) <;> simp [q]
theorem sortedF_asc (l : List Int) : (sortedF l).Pairwise (· < ·) := (fold_asc l [] .nil).1
theorem sortedF_iff {l : List Int} {a : Int} : a ∈ sortedF l ↔ a ∈ l := by
  have := (fold_asc l [] .nil).2 a
  simpa [sortedF] using this
/-- Numbers sorted, each once: told by what is in them. -/
theorem sort_ext {l m : List Int} (hl : l.Nodup) (h : ∀ a, a ∈ l ↔ a ∈ m) : sortI l = sortedF m := by
  have s1 : (sortI l).Pairwise (fun a b => a ≤ b) := by
    have := List.pairwise_mergeSort (le := fun x y : Int => decide (x ≤ y)) (fun a b c h1 h2 => by simp at *; omega) (fun a b => by simp; omega) l
    exact this.imp (fun h => by simpa using h)
  have a2 := sortedF_asc m
  have s2 : (sortedF m).Pairwise (fun a b => a ≤ b) := a2.imp (fun h => by omega)
  have n2 : (sortedF m).Nodup := a2.imp (fun h => by omega)
  have n1 : (sortI l).Nodup := (List.mergeSort_perm l _).nodup_iff.2 hl
  have pm : (sortI l).Perm (sortedF m) := (List.perm_ext_iff_of_nodup n1 n2).2 fun a => by rw [sortI_mem, sortedF_iff, h]
  exact pm.eq_of_pairwise (fun a b _ _ h1 h2 => by omega) s1 s2
/-- What a fault reaches. -/
inductive Rch (h : List Fault) (f : Int) : Int → Prop where
  | refl : Rch h f f
  | cause {a : Int} : Rch h f a → 0 ≤ causeOf h a → Rch h f (causeOf h a)
  | ctx {a : Int} : Rch h f a → 0 ≤ ctxOf h a → Rch h f (ctxOf h a)
theorem addF_mem {out : List Int} {g a : Int} : a ∈ addF out g ↔ a ∈ out ∨ (a = g ∧ 0 ≤ g) := by
  unfold addF
  by_cases c : 0 ≤ g ∧ (out.any fun x => decide (g = x)) = false
  · rw [if_pos c, List.mem_append, List.mem_singleton]
    constructor
    · rintro (q | q)
      · exact .inl q
      · exact .inr ⟨q, c.1⟩
    · rintro (q | q)
      · exact .inl q
      · exact .inr q.1
  · rw [if_neg c]
    refine ⟨.inl, ?_⟩
    rintro (q | ⟨rfl, q⟩)
    · exact q
    · have : ¬ (out.any fun x => decide (a = x)) = false := fun e => c ⟨q, e⟩
      simpa using this
theorem addF_nodup {out : List Int} {g : Int} (h : out.Nodup) : (addF out g).Nodup := by
  unfold addF
  split
  · rename_i c
    rw [List.nodup_append]
    refine ⟨h, by simp, fun a ha b hb => ?_⟩
    simp at hb; subst hb
    rintro rfl
    have := c.2
    rw [List.any_eq_false] at this
    exact this a ha (by simp)
  · exact h
theorem dfsG_clos {h : List Fault} (hlk : Links h) : ∀ (m : Nat) (f : Int) (out : List Int), f < h.length → Nums h.length out → freeN h.length out < m →
    (∀ a ∈ out, a ∈ dfsG h m f out) ∧ (0 ≤ f → f ∈ dfsG h m f out) ∧ (∀ a ∈ dfsG h m f out, a ∈ out ∨ ((0 ≤ causeOf h a → causeOf h a ∈ dfsG h m f out) ∧ (0 ≤ ctxOf h a → ctxOf h a ∈ dfsG h m f out))) ∧ (∀ a ∈ dfsG h m f out, a ∈ out ∨ (0 ≤ f ∧ Rch h f a))
  | 0, f, out, _, _, hfr => by omega
  | m + 1, f, out, hf, hn, hfr => by
    by_cases c : 0 ≤ f ∧ (out.any fun x => decide (f = x)) = false
    · have hk := hlk f.toNat (by omega)
      have l1 := freeN_lt c.1 hf c.2
      have n1 := hn.app c.1 hf c.2
      obtain ⟨n2, l2⟩ := dfsG_nums hlk m (causeOf h f) (out ++ [f]) hk.1 n1
      obtain ⟨a1, a2, a3, a4⟩ := dfsG_clos hlk m (causeOf h f) (out ++ [f]) hk.1 n1 (by omega)
      obtain ⟨b1, b2, b3, b4⟩ := dfsG_clos hlk m (ctxOf h f) _ hk.2 n2 (by omega)
      simp only [dfsG]
      rw [if_pos c]
      refine ⟨fun a ha => b1 a (a1 a (by simp [ha])), fun _ => b1 f (a1 f (by simp)), fun a ha => ?_, fun a ha => ?_⟩
      · rcases b3 a ha with q | q
        · rcases a3 a q with q | q
          · rcases List.mem_append.1 q with q | q
            · exact .inl q
            · simp at q; subst q
              exact .inr ⟨fun q => b1 _ (a2 q), fun q => b2 q⟩
          · exact .inr ⟨fun w => b1 _ (q.1 w), fun w => b1 _ (q.2 w)⟩
        · exact .inr q
      · have tr : ∀ {g a : Int}, Rch h f g → Rch h g a → Rch h f a := by
          intro g a r s
          induction s with
          | refl => exact r
          | cause _ q ih => exact .cause ih q
          | ctx _ q ih => exact .ctx ih q
        rcases b4 a ha with q | ⟨w, q⟩
        · rcases a4 a q with q | ⟨w, q⟩
          · rcases List.mem_append.1 q with q | q
            · exact .inl q
            · simp at q; subst q; exact .inr ⟨c.1, .refl⟩
          · exact .inr ⟨c.1, tr (.cause .refl w) q⟩
        · exact .inr ⟨c.1, tr (.ctx .refl w) q⟩
    · simp only [dfsG]
      rw [if_neg c]
      refine ⟨fun a ha => ha, fun f0 => ?_, fun a ha => .inl ha, fun a ha => .inl ha⟩
      have : ¬ (out.any fun x => decide (f = x)) = false := fun e => c ⟨f0, e⟩
      simpa using this
theorem rch_nonneg {h : List Fault} {f a : Int} (h0 : 0 ≤ f) (r : Rch h f a) : 0 ≤ a := by
  cases r with
  | refl => exact h0
  | cause _ q => exact q
  | ctx _ q => exact q
theorem dfsF_iff {h : List Fault} (hlk : Links h) {f : Int} (h0 : 0 ≤ f) (hf : f < h.length) {a : Int} : a ∈ dfsF h f ↔ Rch h f a := by
  obtain ⟨a1, a2, a3, a4⟩ := dfsG_clos hlk (h.length + 1) f [] hf (Nums.nil _) (by have := freeN_nil h.length; omega)
  constructor
  · intro ha
    rcases a4 a ha with q | q
    · cases q
    · exact q.2
  · intro r
    induction r with
    | refl => exact a2 h0
    | cause _ q ih =>
      rcases a3 _ ih with w | w
      · cases w
      · exact w.1 q
    | ctx _ q ih =>
      rcases a3 _ ih with w | w
      · cases w
      · exact w.2 q
theorem bfsG_clos {h : List Fault} (hlk : Links h) (f : Int) : ∀ (n i : Nat) (out : List Int), Nums h.length out → out.Nodup → h.length ≤ i + n → (∀ a ∈ out, Rch h f a) →
    (∀ j, j < i → j < out.length → (0 ≤ causeOf h (out.getD j default) → causeOf h (out.getD j default) ∈ out) ∧ (0 ≤ ctxOf h (out.getD j default) → ctxOf h (out.getD j default) ∈ out)) →
    (∀ a ∈ out, a ∈ bfsG h n i out) ∧ (bfsG h n i out).Nodup ∧ (∀ a ∈ bfsG h n i out, Rch h f a) ∧ (∀ a ∈ bfsG h n i out, (0 ≤ causeOf h a → causeOf h a ∈ bfsG h n i out) ∧ (0 ≤ ctxOf h a → ctxOf h a ∈ bfsG h n i out)) := by
  have stop : ∀ (i : Nat) (out : List Int), out.length ≤ i → (∀ j, j < i → j < out.length → (0 ≤ causeOf h (out.getD j default) → causeOf h (out.getD j default) ∈ out) ∧ (0 ≤ ctxOf h (out.getD j default) → ctxOf h (out.getD j default) ∈ out)) →
      ∀ a ∈ out, (0 ≤ causeOf h a → causeOf h a ∈ out) ∧ (0 ≤ ctxOf h a → ctxOf h a ∈ out) := by
    intro i out hi hj a ha
    obtain ⟨j, hj1, rfl⟩ := List.mem_iff_getElem.1 ha
    have := hj j (by omega) hj1
    simpa [List.getD_eq_getElem?_getD, hj1] using this
  intro n
  induction n with
  | zero =>
    intro i out hn hd hl hr hj
    have := hn.free
    exact ⟨fun a ha => ha, hd, hr, stop i out (by omega) hj⟩
  | succ n ih =>
    intro i out hn hd hl hr hj
    simp only [bfsG]
    by_cases c : i < out.length
    · rw [if_pos c]
      have hm : out.getD i default ∈ out := by rw [List.getD_eq_getElem?_getD, List.getElem?_eq_getElem c]; exact List.getElem_mem c
      have hmm := hn.mem _ hm
      have hk := hlk (out.getD i default).toNat (by omega)
      have hri := hr _ hm
      generalize hg : out.getD i default = v at hm hmm hk hri
      have hN := (hn.add (g := causeOf h v) hk.1).add (g := ctxOf h v) hk.2
      have keep : ∀ a ∈ out, a ∈ addF (addF out (causeOf h v)) (ctxOf h v) := fun a ha => addF_mem.2 (.inl (addF_mem.2 (.inl ha)))
      have pre : ∀ (o : List Int) (g : Int) (j : Nat), j < o.length → (addF o g).getD j default = o.getD j default := by
        intro o g j hjo
        unfold addF
        split
        · rw [getD_app hjo]
        · rfl
      have l1 := addF_len out (causeOf h v)
      obtain ⟨b1, b2, b3, b4⟩ := ih (i + 1) (addF (addF out (causeOf h v)) (ctxOf h v)) hN (addF_nodup (addF_nodup hd)) (by omega) (fun a ha => by
        rcases addF_mem.1 ha with q | ⟨e, q⟩
        · rcases addF_mem.1 q with q1 | ⟨e1, q1⟩
          · exact hr a q1
          · rw [e1]; exact .cause hri q1
        · rw [e]; exact .ctx hri q) (fun j hj1 hj2 => by
        have hjo : j < out.length := by omega
        rw [pre _ _ j (by omega), pre _ _ j hjo]
        by_cases e : j = i
        · subst e
          rw [hg]
          exact ⟨fun q => addF_mem.2 (.inl (addF_mem.2 (.inr ⟨rfl, q⟩))), fun q => addF_mem.2 (.inr ⟨rfl, q⟩)⟩
        · have := hj j (by omega) hjo
          exact ⟨fun q => keep _ (this.1 q), fun q => keep _ (this.2 q)⟩)
      exact ⟨fun a ha => b1 a (keep a ha), b2, b3, b4⟩
    · rw [if_neg c]
      exact ⟨fun a ha => ha, hd, hr, stop i out (by omega) hj⟩
theorem bfsF_iff {h : List Fault} (hlk : Links h) {f : Int} (h0 : 0 ≤ f) (hf : f < h.length) : (bfsF h f).Nodup ∧ ∀ a, a ∈ bfsF h f ↔ Rch h f a := by
  obtain ⟨b1, b2, b3, b4⟩ := bfsG_clos hlk f (h.length + 1) 0 [f] (Nums.one h0 hf) (by simp) (by omega) (fun a ha => by simp at ha; subst ha; exact .refl) (fun j hj => by omega)
  refine ⟨b2, fun a => ⟨b3 a, fun r => ?_⟩⟩
  induction r with
  | refl => exact b1 f (by simp)
  | cause _ q ih => exact (b4 _ ih).1 q
  | ctx _ q ih => exact (b4 _ ih).2 q
theorem reach_same {h : List Fault} (hlk : Links h) {f : Int} (h0 : 0 ≤ f) (hf : f < h.length) : sortI (bfsF h f) = sortedF (dfsF h f) :=
  sort_ext (bfsF_iff hlk h0 hf).1 fun a => by rw [(bfsF_iff hlk h0 hf).2, dfsF_iff hlk h0 hf]
end Go.Proofs.YtihjbbiajggcoaaDoor
end
section
set_option linter.unusedVariables false
set_option linter.unusedSimpArgs false
namespace Go.Proofs.YtihjbbiajggcoaaDoor
open Go Go.Sim
set_option maxRecDepth 100000
attribute [local go_sem ↓] aw_skip aw_ret aw_exit aw_region aw_draw aw_seq aw_block aw_loop aw_cond frz_nil frz_cons sq_normal sq_ret sq_exit exB_normal exB_ret exB_same exB_other retQ_ret retQ_normal ret0_ret ret0_normal ao_nil go1 g_move g_assign g_pick g_build g_load g_binOp g_unOp g_convert g_fieldAddr g_field g_indexAddr g_index g_extract g_slice g_nilCheck g_len g_makeFunc h_call h_append h_alloc h_box h_buildSlice h_makeSlice h_store gV i_box i_buildSlice i_move i_assign i_build i_load i_binOp i_unOp i_convert i_fieldAddr i_field i_indexAddr i_index i_extract i_slice i_nilCheck i_makeFunc i_len i_max i_min i_alloc i_makeSlice i_store i_append i_call i_pick boxI boxA buildSliceI buildSliceA makeSliceA allocA storeA p_move p_assign p_pick p_build p_load p_binOp p_unOp p_convert p_fieldAddr p_field p_indexAddr p_index p_extract p_slice p_nilCheck p_makeFunc p_len p_max p_min p_alloc p_box p_buildSlice p_makeSlice p_store p_append p_call x_nil x_go1 x_g0 x_g1 x_g2 x_g3 x_s0 x_s1 x_s2 x_s3 u_move u_assign u_pick u_build u_load u_binOp u_unOp u_convert u_fieldAddr u_field u_indexAddr u_index u_extract u_slice u_nilCheck u_makeFunc u_len u_buildSlice x_s4 x_g4 rq_normal rq_ret rq_exit aw_range
attribute [local go_sem] frzV_sl frzK_some set_none set_other AHeap.set_self set_del set_set cnd_t cnd_f cnd_b retA_one retA_two retA_three retA_four retA_nil gIf_b mrgV_b mrgV_wh mrgV_U gIf_U gIf_wh mrgB_f mrgB_some mrgB_if wh_true wh_false keepA_some keepA_if gD_zero gD_succ gT_some bxA_t bxA_f callA_fn ev_tmp ev_const ev_global ev_func oc_bool oc_int oc_string oc_nil oc_nilptr oc_nilfunc cl_bool cl_int cl_string cl_nil updO_some updO_none upd_same upd_other init_at pickA_b pickA_wh selA_t selA_f selA_and selA_or selA_orn selA_orm selA_bb selA_ii beqt b_add b_sub b_mul b_and b_or b_xor b_eql b_neq b_lss b_leq b_gtr b_geq b_quo b_rem b_shr b_seql b_sneq b_sadd b_beql b_bneq b_aeql b_aneq u_not u_neg isConstOp eqA eqCellV List.getD_cons_zero List.getD_cons_succ List.map_cons List.map_nil List.nil_append List.cons_append List.append_nil if_true if_false Option.map_some Option.map_none ne_eq not_false_eq_true oneA ldv ld1v ld1s wr1s ldRow stRow row_lit row_agg row_vsl row_sl row_ptr row_fn one_I one_B one_S one_vsl one_sl one_ptr one_fn extractA okA rI rS rU rClass rFault rExit rStart rLine Int.toNat_natCast List.length_cons List.length_nil List.length_map List.all_cons List.all_nil Bool.and_true Nat.zero_add List.getElem?_cons_zero List.getElem?_cons_succ List.take_succ_cons List.take_zero List.drop_succ_cons List.drop_zero and_self true_and and_true implies_true decide_eq_true_eq decide_eq_false_iff_not Bool.or_eq_true Bool.or_eq_false_iff Bool.and_eq_true Bool.not_eq_true' Bool.not_eq_false' beq_false decide_true decide_false Int.ofNat_lt Int.ofNat_le Int.natCast_nonneg Bool.or_true Bool.or_false Bool.true_or Bool.false_or beq_self_eq_true List.drop_one Bool.not_true Bool.not_false Bool.not_not Bool.false_eq_true Bool.true_eq_false false_implies true_implies Bool.true_and Bool.false_and Bool.and_false not_true_eq_false Int.natCast_eq_zero Int.natCast_pos Int.natCast_zero false_and and_false or_false false_or or_true true_or Bool.or_self none_le_iff List.replicate_zero Int.toNat_zero List.replicate_succ buildRows List.set_cons_zero List.set_cons_succ List.set_nil List.mapM_nil maxLen_eq Nat.zero_le Nat.mul_one Nat.one_mul bldA fillA spliceA List.take_nil List.drop_nil List.getElem?_nil ld1o wr1o bldSliceA le_same cv_i cvI_t quietT_fn qvd_some ld_o ldO_1 ldO_l wr_o wrO_1 set_2 set_3 set_4 putL_nil putL_cons List.zip_cons_cons List.zip_nil_left List.zip_nil_right List.toList_toArray frzV_set ti1 ti2 tk2 ti3 te3 ts3 tk3 tz3 ti4 tb4 ti5 tk5 tz5 ti9 te9 ts9 tk9 tz9 ti12 tk12 ti13 tp13 tf13_0 tf13_1 ti20 ti21 tk21 tz21 ti22 te22 tz22 ti23 te23 ti24 tp24 tf24_0 ti25 tp25 tf25_0 ti26 te26 ti27 tp27 tf27_0 ti28 tp28 tf28_0 ti30 ti32 ti33 ti34 tq34 tp34 tf34_0 tf34_1 tf34_2 tf34_3 tf34_4 ti35 tq35 tp35 tf35_0 tf35_1 tf35_2 tf35_3 tf35_4 ti36 ti37 te37 ti38 ti39 ti40 ti42 ti44 ti45 ti46 ti47 ti48 ti49 ti50 ti51 ti52 ti53 ti54 ti55 ti56 ti57 ti58 ti59 ti60 ti61 ti62 ti64 ti65 ti66 tp66 tf66_0 tf66_1 ti67 tp67 tf67_0 tf67_1 ti68 ti69 ti70 ti71 ti72 ti73 ti74 ti75 ti76 ti77 ti78 ti79 ti80 ti81 ti82 ti83 tq83 tp83 tf83_0 tf83_1 ti84 tq84 tp84 tf84_0 tf84_1 ti85 ti86 ti87 ti88 ti89 ti90 ti91 ti92 ti93 ti94 ti95 ti96 tk96 tz96 ti97 ti98 ti99 ti100 ti101 te101 ti102 ti103 ti104 tk104 ti106 ti107 ti108 ti110 ti111 ti112 tk112 tz112 ti113 ti114 tk114 tz114 ti115 tk115 ti116 ti117 ti118 ti119 ti120 ti121 ti122 ti124 ti125 ta125 ti126 ti128 ti129 ti130 ta130 ti131 ta131 ti132 ta132 ti133 ta133 ti134 ti140 ti144 fp13_0 fv13_0 fp13_1 fv13_1 fp24_0 fv24_0 fp25_0 fv25_0 fp27_0 fv27_0 fp28_0 fv28_0 fp34_0 fv34_0 fp34_1 fv34_1 fp34_2 fv34_2 fp34_3 fv34_3 fp34_4 fv34_4 fp35_0 fv35_0 fp35_1 fv35_1 fp35_2 fv35_2 fp35_3 fv35_3 fp35_4 fv35_4 fp66_0 fv66_0 fp66_1 fv66_1 fp67_0 fv67_0 fp67_1 fv67_1 fp83_0 fv83_0 fp83_1 fv83_1 fp84_0 fv84_0 fp84_1 fv84_1 lv22 ll22 is22 ix22 sh22 so22 sb22 sm22 sp22 lv23 ll23 is23 ix23 sh23 so23 sb23 sm23 sp23 lv26 ll26 is26 ix26 sh26 so26 sb26 sm26 sp26 lv37 ll37 is37 ix37 sh37 so37 sb37 sm37 sp37 lv101 ll101 is101 ix101 sh101 so101 sb101 sm101 sp101 xs9 ls9 sx9 sy9 sz9

theorem digits_len {n : Int} (h0 : 0 ≤ n) (h1 : n < 100) : (Lib.decDigits n.toNat).length ≤ 2 := by
  by_cases c : n.toNat < 10
  · rw [Lib.decDigits_one c]; simp
  · rw [Lib.decDigits_two c (by omega)]; simp
theorem c_itoa0 (n : Int) (h0 : 0 ≤ n) (h1 : n < 100) (H : AHeap) : ACalls Tryd.prog 93 [I n] H fun r H' => r = S (Lib.decDigits n.toNat) ∧ H' = H := by
  refine ⟨by kernel_rfl, fun w vs hh hv => ?_⟩
  have hvs : vs = #[.int .i64 (n.toNat : Int)] := by
    obtain ⟨hl, hx⟩ := hv
    have e : vs.toList.length = 1 := hl
    match hq : vs.toList, e with
    | [v], _ =>
      have := hx 0 (I n) v rfl (by rw [hq]; rfl)
      cases this
      have h2 : (n.toNat : Int) = n := by omega
      rw [h2]
      exact Array.toList_inj.1 hq
  subst hvs
  refine (Tryd.internal_strconv_Itoa_small n.toNat (by omega) w).mono ?_
  rintro e w' ⟨rfl, rfl⟩
  exact ⟨_, _, H, rfl, ⟨rfl, rfl⟩, .lit _, hh, .refl _ _, .refl _ _⟩
theorem c_Itoa (n : Int) (h0 : 0 ≤ n) (h1 : n < 100) (H : AHeap) : ACalls Tryd.prog 73 [I n] H fun r H' => r = S (Lib.decDigits n.toNat) ∧ H' = H := by
  refine acalls_of0 Tryd.func73 rfl (by kernel_rfl) rfl rfl (awp_sound (fz := fun _ => []) (im := fun _ => false) mixed _ _ _ _ (by kernel_rfl) ?_)
  simp +contextual -dsimp -implicitDefEqProofs (maxSteps := 5000000) only [go_sem, reduceIte, reduceCtorEq, Nat.reduceEqDiff, Nat.reduceBEq, Nat.reduceAdd, Nat.reduceLeDiff, Nat.reduceMul, Nat.reduceLT, Int.reduceEq, Int.reduceLT, Int.reduceLE]
  exact (c_itoa0 n h0 h1 _).det (by simp +contextual -dsimp -implicitDefEqProofs (maxSteps := 5000000) only [go_sem, reduceIte, reduceCtorEq, Nat.reduceEqDiff, Nat.reduceBEq, Nat.reduceAdd, Nat.reduceLeDiff, Nat.reduceMul, Nat.reduceLT, Int.reduceEq, Int.reduceLT, Int.reduceLE])
def shownOf (h : List Fault) (a : Int) : Int := if 0 ≤ (h.getD a.toNat default).cause then (h.getD a.toNat default).cause else if (h.getD a.toNat default).hide = true then -1 else (h.getD a.toNat default).ctx
theorem c_shown (h : List Fault) (cl : Bool) (a : Int) (H : AHeap) (h0 : 0 ≤ a) (h1 : a < h.length) : ACalls Tryd.prog 50 [aHeap h cl, I a] H fun r H' => r = I (shownOf h a) ∧ H' = H := by
  have h2 : a.toNat < h.length := by omega
  refine acalls_of0 Tryd.func50 rfl (by kernel_rfl) rfl rfl (awp_sound (fz := fun r => if r = 1 then [5] else []) (im := fun s => s == 2) mixed _ _ _ _ (by kernel_rfl) ?_)
  simp +contextual -dsimp -implicitDefEqProofs (maxSteps := 5000000) only [go_sem, reduceIte, reduceCtorEq, Nat.reduceEqDiff, Nat.reduceBEq, Nat.reduceAdd, Nat.reduceLeDiff, Nat.reduceMul, Nat.reduceLT, Int.reduceEq, Int.reduceLT, Int.reduceLE, h0, h1, h2]
  intro b hb
  unfold shownOf
  exact ⟨fun q => by rw [if_pos q], fun q => ⟨fun r => by rw [if_neg q, if_pos r], fun r => by rw [if_neg q, r, if_neg (by decide)]⟩⟩
def faultText (t : List Class) (c code : Int) : Str := (t.getD c.toNat default).name ++ [58] ++ Lib.decDigits code.toNat
theorem c_faultText (t : List Class) (cl : Bool) (c code : Int) (H : AHeap) (h0 : 0 ≤ c) (h1 : c < t.length) (h2 : 0 ≤ code) (h3 : code < 100) (hs : shortNames t) : ACalls Tryd.prog 52 [aTree t cl, I c, I code] H fun r H' => r = S (faultText t c code) ∧ H' = H := by
  have hc : c.toNat < t.length := by omega
  refine acalls_of0 Tryd.func52 rfl (by kernel_rfl) rfl rfl (awp_sound (fz := fun _ => []) (im := fun s => s == 3) mixed _ _ _ _ (by kernel_rfl) ?_)
  simp +contextual -dsimp -implicitDefEqProofs (maxSteps := 5000000) only [go_sem, reduceIte, reduceCtorEq, Nat.reduceEqDiff, Nat.reduceBEq, Nat.reduceAdd, Nat.reduceLeDiff, Nat.reduceMul, Nat.reduceLT, Int.reduceEq, Int.reduceLT, Int.reduceLE, h0, h1, hc]
  refine draw_intro [0, 1, 0, 0, 0, 1, 0, 0, 3, 0, 0] AHeap.none (by kernel_rfl) none_le ?_
  simp +contextual -dsimp -implicitDefEqProofs (maxSteps := 5000000) only [go_sem, reduceIte, reduceCtorEq, Nat.reduceEqDiff, Nat.reduceBEq, Nat.reduceAdd, Nat.reduceLeDiff, Nat.reduceMul, Nat.reduceLT, Int.reduceEq, Int.reduceLT, Int.reduceLE, h0, h1, hc]
  have hn : (t.getD c.toNat default).name.length ≤ 10 := hs _ (by rw [List.getD_eq_getElem?_getD, List.getElem?_eq_getElem hc]; exact List.getElem_mem hc)
  refine ⟨by omega, (c_Itoa code h2 h3 _).det ?_⟩
  simp +contextual -dsimp -implicitDefEqProofs (maxSteps := 5000000) only [go_sem, reduceIte, reduceCtorEq, Nat.reduceEqDiff, Nat.reduceBEq, Nat.reduceAdd, Nat.reduceLeDiff, Nat.reduceMul, Nat.reduceLT, Int.reduceEq, Int.reduceLT, Int.reduceLE, h0, h1, hc]
  have hd := digits_len h2 h3
  exact ⟨by simp only [List.length_append, List.length_singleton]; omega, rfl⟩
end Go.Proofs.YtihjbbiajggcoaaDoor
end
section
set_option linter.unusedVariables false
set_option linter.unusedSimpArgs false
namespace Go.Proofs.YtihjbbiajggcoaaDoor
open Go Go.Sim
set_option maxRecDepth 100000
attribute [local go_sem ↓] aw_skip aw_ret aw_exit aw_region aw_draw aw_seq aw_block aw_loop aw_cond frz_nil frz_cons sq_normal sq_ret sq_exit exB_normal exB_ret exB_same exB_other retQ_ret retQ_normal ret0_ret ret0_normal ao_nil go1 g_move g_assign g_pick g_build g_load g_binOp g_unOp g_convert g_fieldAddr g_field g_indexAddr g_index g_extract g_slice g_nilCheck g_len g_makeFunc h_call h_append h_alloc h_box h_buildSlice h_makeSlice h_store gV i_box i_buildSlice i_move i_assign i_build i_load i_binOp i_unOp i_convert i_fieldAddr i_field i_indexAddr i_index i_extract i_slice i_nilCheck i_makeFunc i_len i_max i_min i_alloc i_makeSlice i_store i_append i_call i_pick boxI boxA buildSliceI buildSliceA makeSliceA allocA storeA p_move p_assign p_pick p_build p_load p_binOp p_unOp p_convert p_fieldAddr p_field p_indexAddr p_index p_extract p_slice p_nilCheck p_makeFunc p_len p_max p_min p_alloc p_box p_buildSlice p_makeSlice p_store p_append p_call x_nil x_go1 x_g0 x_g1 x_g2 x_g3 x_s0 x_s1 x_s2 x_s3 u_move u_assign u_pick u_build u_load u_binOp u_unOp u_convert u_fieldAddr u_field u_indexAddr u_index u_extract u_slice u_nilCheck u_makeFunc u_len u_buildSlice x_s4 x_g4 rq_normal rq_ret rq_exit aw_range
attribute [local go_sem] frzV_sl frzK_some set_none set_other AHeap.set_self set_del set_set cnd_t cnd_f cnd_b retA_one retA_two retA_three retA_four retA_nil gIf_b mrgV_b mrgV_wh mrgV_U gIf_U gIf_wh mrgB_f mrgB_some mrgB_if wh_true wh_false keepA_some keepA_if gD_zero gD_succ gT_some bxA_t bxA_f callA_fn ev_tmp ev_const ev_global ev_func oc_bool oc_int oc_string oc_nil oc_nilptr oc_nilfunc cl_bool cl_int cl_string cl_nil updO_some updO_none upd_same upd_other init_at pickA_b pickA_wh selA_t selA_f selA_and selA_or selA_orn selA_orm selA_bb selA_ii beqt b_add b_sub b_mul b_and b_or b_xor b_eql b_neq b_lss b_leq b_gtr b_geq b_quo b_rem b_shr b_seql b_sneq b_sadd b_beql b_bneq b_aeql b_aneq u_not u_neg isConstOp eqA eqCellV List.getD_cons_zero List.getD_cons_succ List.map_cons List.map_nil List.nil_append List.cons_append List.append_nil if_true if_false Option.map_some Option.map_none ne_eq not_false_eq_true oneA ldv ld1v ld1s wr1s ldRow stRow row_lit row_agg row_vsl row_sl row_ptr row_fn one_I one_B one_S one_vsl one_sl one_ptr one_fn extractA okA rI rS rU rClass rFault rExit rStart rLine Int.toNat_natCast List.length_cons List.length_nil List.length_map List.all_cons List.all_nil Bool.and_true Nat.zero_add List.getElem?_cons_zero List.getElem?_cons_succ List.take_succ_cons List.take_zero List.drop_succ_cons List.drop_zero and_self true_and and_true implies_true decide_eq_true_eq decide_eq_false_iff_not Bool.or_eq_true Bool.or_eq_false_iff Bool.and_eq_true Bool.not_eq_true' Bool.not_eq_false' beq_false decide_true decide_false Int.ofNat_lt Int.ofNat_le Int.natCast_nonneg Bool.or_true Bool.or_false Bool.true_or Bool.false_or beq_self_eq_true List.drop_one Bool.not_true Bool.not_false Bool.not_not Bool.false_eq_true Bool.true_eq_false false_implies true_implies Bool.true_and Bool.false_and Bool.and_false not_true_eq_false Int.natCast_eq_zero Int.natCast_pos Int.natCast_zero false_and and_false or_false false_or or_true true_or Bool.or_self none_le_iff List.replicate_zero Int.toNat_zero List.replicate_succ buildRows List.set_cons_zero List.set_cons_succ List.set_nil List.mapM_nil maxLen_eq Nat.zero_le Nat.mul_one Nat.one_mul bldA fillA spliceA List.take_nil List.drop_nil List.getElem?_nil ld1o wr1o bldSliceA le_same cv_i cvI_t quietT_fn qvd_some ld_o ldO_1 ldO_l wr_o wrO_1 set_2 set_3 set_4 putL_nil putL_cons List.zip_cons_cons List.zip_nil_left List.zip_nil_right List.toList_toArray frzV_set ti1 ti2 tk2 ti3 te3 ts3 tk3 tz3 ti4 tb4 ti5 tk5 tz5 ti9 te9 ts9 tk9 tz9 ti12 tk12 ti13 tp13 tf13_0 tf13_1 ti20 ti21 tk21 tz21 ti22 te22 tz22 ti23 te23 ti24 tp24 tf24_0 ti25 tp25 tf25_0 ti26 te26 ti27 tp27 tf27_0 ti28 tp28 tf28_0 ti30 ti32 ti33 ti34 tq34 tp34 tf34_0 tf34_1 tf34_2 tf34_3 tf34_4 ti35 tq35 tp35 tf35_0 tf35_1 tf35_2 tf35_3 tf35_4 ti36 ti37 te37 ti38 ti39 ti40 ti42 ti44 ti45 ti46 ti47 ti48 ti49 ti50 ti51 ti52 ti53 ti54 ti55 ti56 ti57 ti58 ti59 ti60 ti61 ti62 ti64 ti65 ti66 tp66 tf66_0 tf66_1 ti67 tp67 tf67_0 tf67_1 ti68 ti69 ti70 ti71 ti72 ti73 ti74 ti75 ti76 ti77 ti78 ti79 ti80 ti81 ti82 ti83 tq83 tp83 tf83_0 tf83_1 ti84 tq84 tp84 tf84_0 tf84_1 ti85 ti86 ti87 ti88 ti89 ti90 ti91 ti92 ti93 ti94 ti95 ti96 tk96 tz96 ti97 ti98 ti99 ti100 ti101 te101 ti102 ti103 ti104 tk104 ti106 ti107 ti108 ti110 ti111 ti112 tk112 tz112 ti113 ti114 tk114 tz114 ti115 tk115 ti116 ti117 ti118 ti119 ti120 ti121 ti122 ti124 ti125 ta125 ti126 ti128 ti129 ti130 ta130 ti131 ta131 ti132 ta132 ti133 ta133 ti134 ti140 ti144 fp13_0 fv13_0 fp13_1 fv13_1 fp24_0 fv24_0 fp25_0 fv25_0 fp27_0 fv27_0 fp28_0 fv28_0 fp34_0 fv34_0 fp34_1 fv34_1 fp34_2 fv34_2 fp34_3 fv34_3 fp34_4 fv34_4 fp35_0 fv35_0 fp35_1 fv35_1 fp35_2 fv35_2 fp35_3 fv35_3 fp35_4 fv35_4 fp66_0 fv66_0 fp66_1 fv66_1 fp67_0 fv67_0 fp67_1 fv67_1 fp83_0 fv83_0 fp83_1 fv83_1 fp84_0 fv84_0 fp84_1 fv84_1 lv22 ll22 is22 ix22 sh22 so22 sb22 sm22 sp22 lv23 ll23 is23 ix23 sh23 so23 sb23 sm23 sp23 lv26 ll26 is26 ix26 sh26 so26 sb26 sm26 sp26 lv37 ll37 is37 ix37 sh37 so37 sb37 sm37 sp37 lv101 ll101 is101 ix101 sh101 so101 sb101 sm101 sp101 xs9 ls9 sx9 sy9 sz9

theorem it_backInt (l : List Int) (cl : Bool) (hl : l.length ≤ 9223372036854775807) : Iter Tryd.prog 72 [.vptr [[.vsl (l.map rI) cl]] 0 0] (backL (fun x => I x) l) := by
  refine back_iter (fn := Tryd.f72) (im := fun _ => false) rfl (by kernel_rfl) rfl rfl rfl (by kernel_rfl) (by kernel_rfl) (by kernel_rfl) (by kernel_rfl) rfl rfl rfl rfl ?_ ?_ ?_ ?_ ?_
  · intro tm H h1
    simp only [List.toList_toArray]
    simp +contextual -dsimp -implicitDefEqProofs (maxSteps := 5000000) only [↓aw_skip, ↓aw_ret, ↓aw_exit, ↓aw_region, ↓aw_draw, ↓aw_seq, ↓aw_block, ↓aw_loop, ↓aw_cond, ↓frz_nil, ↓frz_cons, frzV_ptr, frzV_sl, frzK_some, set_none, set_other, AHeap.set_self, set_del, set_set, cnd_t, cnd_f, cnd_b, ↓sq_normal, ↓sq_ret, ↓sq_exit, ↓exB_normal, ↓exB_ret, ↓exB_same, ↓exB_other, ↓retQ_ret, ↓retQ_normal, ↓ret0_ret, ↓ret0_normal, retA_one, retA_two, retA_three, retA_four, retA_nil, ↓ao_nil, ↓go1, ↓g_move, ↓g_assign, ↓g_pick, ↓g_build, ↓g_load, ↓g_binOp, ↓g_unOp, ↓g_convert, ↓g_fieldAddr, ↓g_field, ↓g_indexAddr, ↓g_index, ↓g_extract, ↓g_slice, ↓g_nilCheck, ↓g_len, ↓g_makeFunc, ↓h_call, ↓h_append, ↓h_alloc, ↓h_box, ↓h_buildSlice, ↓h_makeSlice, ↓h_store, gIf_b, mrgV_b, mrgV_wh, mrgV_U, gIf_U, gIf_wh, mrgB_f, mrgB_some, mrgB_if, wh_true, wh_false, keepA_some, keepA_if, ↓gV, gD_zero, gD_succ, gT_some, ↓i_box, ↓i_buildSlice, bxA_t, bxA_f, ↓i_move, ↓i_assign, ↓i_build, ↓i_load, ↓i_binOp, ↓i_unOp, ↓i_convert, ↓i_fieldAddr, ↓i_field, ↓i_indexAddr, ↓i_index, ↓i_extract, ↓i_slice, ↓i_nilCheck, ↓i_makeFunc, ↓i_len, ↓i_max, ↓i_min, ↓i_alloc, ↓i_makeSlice, ↓i_store, ↓i_append, ↓i_call, ↓i_pick, ↓boxI, ↓boxA, ↓buildSliceI, ↓buildSliceA, ↓makeSliceA, ↓allocA, ↓storeA, ↓p_move, ↓p_assign, ↓p_pick, ↓p_build, ↓p_load, ↓p_binOp, ↓p_unOp, ↓p_convert, ↓p_fieldAddr, ↓p_field, ↓p_indexAddr, ↓p_index, ↓p_extract, ↓p_slice, ↓p_nilCheck, ↓p_makeFunc, ↓p_len, ↓p_max, ↓p_min, ↓p_alloc, ↓p_box, ↓p_buildSlice, ↓p_makeSlice, ↓p_store, ↓p_append, ↓p_call, callA_fn, ev_tmp, ev_const, ev_global, ev_func, oc_bool, oc_int, oc_string, oc_nil, oc_nilptr, oc_nilfunc, cl_bool, cl_int, cl_string, cl_nil, updO_some, updO_none, upd_same, upd_other, init_at, pickA_b, pickA_wh, selA_t, selA_f, selA_and, selA_or, selA_orn, selA_orm, selA_bb, selA_ii, beqt, b_add, b_sub, b_mul, b_and, b_or, b_xor, b_eql, b_neq, b_lss, b_leq, b_gtr, b_geq, b_quo, b_rem, b_shr, b_seql, b_sneq, b_sadd, b_beql, b_bneq, b_aeql, b_aneq, u_not, u_neg, isConstOp, eqA, eqCellV, List.getD_cons_zero, List.getD_cons_succ, List.map_cons, List.map_nil, List.nil_append, List.cons_append, List.append_nil, if_true, if_false, Option.map_some, Option.map_none, reduceIte, reduceCtorEq, Nat.reduceEqDiff, ne_eq, not_false_eq_true, Nat.reduceBEq, oneA, ldv, ld1v, ld1s, wr1s, ldRow, stRow, row_lit, row_agg, row_vsl, row_sl, row_ptr, row_fn, one_I, one_B, one_S, one_vsl, one_sl, one_ptr, one_fn, extractA, okA, rI, rS, rU, rClass, rFault, rExit, rStart, rLine, Int.toNat_natCast, List.length_cons, List.length_nil, List.length_map, List.all_cons, List.all_nil, Bool.and_true, Nat.reduceAdd, Nat.zero_add, List.getElem?_cons_zero, List.getElem?_cons_succ, List.take_succ_cons, List.take_zero, List.drop_succ_cons, List.drop_zero, Nat.reduceLeDiff, and_self, true_and, and_true, implies_true, decide_eq_true_eq, decide_eq_false_iff_not, Bool.or_eq_true, Bool.or_eq_false_iff, Bool.and_eq_true, Bool.not_eq_true', Bool.not_eq_false', beq_false, decide_true, decide_false, Int.ofNat_lt, Int.ofNat_le, Int.natCast_nonneg, Bool.or_true, Bool.or_false, Bool.true_or, Bool.false_or, beq_self_eq_true, Nat.reduceMul, List.drop_one, Bool.not_true, Bool.not_false, Bool.not_not, Bool.false_eq_true, Bool.true_eq_false, false_implies, true_implies, Bool.true_and, Bool.false_and, Bool.and_false, if_true, if_false, not_true_eq_false, Nat.reduceLT, Int.natCast_eq_zero, Int.natCast_pos, Int.natCast_zero, false_and, and_false, or_false, false_or, or_true, true_or, Bool.or_self, ↓x_nil, ↓x_go1, ↓x_g0, ↓x_g1, ↓x_g2, ↓x_g3, ↓x_s0, ↓x_s1, ↓x_s2, ↓x_s3, none_le_iff, ↓u_move, ↓u_assign, ↓u_pick, ↓u_build, ↓u_load, ↓u_binOp, ↓u_unOp, ↓u_convert, ↓u_fieldAddr, ↓u_field, ↓u_indexAddr, ↓u_index, ↓u_extract, ↓u_slice, ↓u_nilCheck, ↓u_makeFunc, ↓u_len, List.replicate_zero, Int.toNat_zero, List.replicate_succ, buildRows, List.set_cons_zero, List.set_cons_succ, List.set_nil, List.mapM_nil, maxLen_eq, Nat.zero_le, Nat.mul_one, Nat.one_mul, bldA, fillA, spliceA, List.take_nil, List.drop_nil, List.getElem?_nil, Int.reduceEq, Int.reduceLT, Int.reduceLE, decide_eq_true_eq, ld1o, wr1o, ↓u_buildSlice, bldSliceA, le_same, ti1, ti2, tk2, ti3, te3, ts3, tk3, tz3, ti4, tb4, ti5, tk5, tz5, ti9, te9, ts9, tk9, tz9, ti12, tk12, ti13, tp13, tf13_0, tf13_1, ti20, ti21, tk21, tz21, ti22, te22, tz22, ti23, te23, ti24, tp24, tf24_0, ti25, tp25, tf25_0, ti26, te26, ti27, tp27, tf27_0, ti28, tp28, tf28_0, ti30, ti32, ti33, ti34, tq34, tp34, tf34_0, tf34_1, tf34_2, tf34_3, tf34_4, ti35, tq35, tp35, tf35_0, tf35_1, tf35_2, tf35_3, tf35_4, ti36, ti37, te37, ti38, ti39, ti40, ti42, ti44, ti45, ti46, ti47, ti48, ti49, ti50, ti51, ti52, ti53, ti54, ti55, ti56, ti57, ti58, ti59, ti60, ti61, ti62, ti64, ti65, ti66, tp66, tf66_0, tf66_1, ti67, tp67, tf67_0, tf67_1, ti68, ti69, ti70, ti71, ti72, ti73, ti74, ti75, ti76, ti77, ti78, ti79, ti80, ti81, ti82, ti83, tq83, tp83, tf83_0, tf83_1, ti84, tq84, tp84, tf84_0, tf84_1, ti85, ti86, ti87, ti88, ti89, ti90, ti91, ti92, ti93, ti94, ti95, ti96, tk96, tz96, ti97, ti98, ti99, ti100, ti101, te101, ti102, ti103, ti104, tk104, ti106, ti107, ti108, ti110, ti111, ti112, tk112, tz112, ti113, ti114, tk114, tz114, ti115, tk115, ti116, ti117, ti118, ti119, ti120, ti121, ti122, ti124, ti125, ta125, ti126, ti128, ti129, ti130, ta130, ti131, ta131, ti132, ta132, ti133, ta133, ti134, ti140, ti144, fp13_0, fv13_0, fp13_1, fv13_1, fp24_0, fv24_0, fp25_0, fv25_0, fp27_0, fv27_0, fp28_0, fv28_0, fp34_0, fv34_0, fp34_1, fv34_1, fp34_2, fv34_2, fp34_3, fv34_3, fp34_4, fv34_4, fp35_0, fv35_0, fp35_1, fv35_1, fp35_2, fv35_2, fp35_3, fv35_3, fp35_4, fv35_4, fp66_0, fv66_0, fp66_1, fv66_1, fp67_0, fv67_0, fp67_1, fv67_1, fp83_0, fv83_0, fp83_1, fv83_1, fp84_0, fv84_0, fp84_1, fv84_1, lv22, ll22, is22, ix22, sh22, so22, sb22, sm22, sp22, lv23, ll23, is23, ix23, sh23, so23, sb23, sm23, sp23, lv26, ll26, is26, ix26, sh26, so26, sb26, sm26, sp26, lv37, ll37, is37, ix37, sh37, so37, sb37, sm37, sp37, lv101, ll101, is101, ix101, sh101, so101, sb101, sm101, sp101, xs9, ls9, sx9, sy9, sz9, h1]
    exact I_wrap rfl (by omega) (by omega)
  · intro tm H i h3
    simp only [List.toList_toArray]
    simp +contextual -dsimp -implicitDefEqProofs (maxSteps := 5000000) only [↓aw_skip, ↓aw_ret, ↓aw_exit, ↓aw_region, ↓aw_draw, ↓aw_seq, ↓aw_block, ↓aw_loop, ↓aw_cond, ↓frz_nil, ↓frz_cons, frzV_ptr, frzV_sl, frzK_some, set_none, set_other, AHeap.set_self, set_del, set_set, cnd_t, cnd_f, cnd_b, ↓sq_normal, ↓sq_ret, ↓sq_exit, ↓exB_normal, ↓exB_ret, ↓exB_same, ↓exB_other, ↓retQ_ret, ↓retQ_normal, ↓ret0_ret, ↓ret0_normal, retA_one, retA_two, retA_three, retA_four, retA_nil, ↓ao_nil, ↓go1, ↓g_move, ↓g_assign, ↓g_pick, ↓g_build, ↓g_load, ↓g_binOp, ↓g_unOp, ↓g_convert, ↓g_fieldAddr, ↓g_field, ↓g_indexAddr, ↓g_index, ↓g_extract, ↓g_slice, ↓g_nilCheck, ↓g_len, ↓g_makeFunc, ↓h_call, ↓h_append, ↓h_alloc, ↓h_box, ↓h_buildSlice, ↓h_makeSlice, ↓h_store, gIf_b, mrgV_b, mrgV_wh, mrgV_U, gIf_U, gIf_wh, mrgB_f, mrgB_some, mrgB_if, wh_true, wh_false, keepA_some, keepA_if, ↓gV, gD_zero, gD_succ, gT_some, ↓i_box, ↓i_buildSlice, bxA_t, bxA_f, ↓i_move, ↓i_assign, ↓i_build, ↓i_load, ↓i_binOp, ↓i_unOp, ↓i_convert, ↓i_fieldAddr, ↓i_field, ↓i_indexAddr, ↓i_index, ↓i_extract, ↓i_slice, ↓i_nilCheck, ↓i_makeFunc, ↓i_len, ↓i_max, ↓i_min, ↓i_alloc, ↓i_makeSlice, ↓i_store, ↓i_append, ↓i_call, ↓i_pick, ↓boxI, ↓boxA, ↓buildSliceI, ↓buildSliceA, ↓makeSliceA, ↓allocA, ↓storeA, ↓p_move, ↓p_assign, ↓p_pick, ↓p_build, ↓p_load, ↓p_binOp, ↓p_unOp, ↓p_convert, ↓p_fieldAddr, ↓p_field, ↓p_indexAddr, ↓p_index, ↓p_extract, ↓p_slice, ↓p_nilCheck, ↓p_makeFunc, ↓p_len, ↓p_max, ↓p_min, ↓p_alloc, ↓p_box, ↓p_buildSlice, ↓p_makeSlice, ↓p_store, ↓p_append, ↓p_call, callA_fn, ev_tmp, ev_const, ev_global, ev_func, oc_bool, oc_int, oc_string, oc_nil, oc_nilptr, oc_nilfunc, cl_bool, cl_int, cl_string, cl_nil, updO_some, updO_none, upd_same, upd_other, init_at, pickA_b, pickA_wh, selA_t, selA_f, selA_and, selA_or, selA_orn, selA_orm, selA_bb, selA_ii, beqt, b_add, b_sub, b_mul, b_and, b_or, b_xor, b_eql, b_neq, b_lss, b_leq, b_gtr, b_geq, b_quo, b_rem, b_shr, b_seql, b_sneq, b_sadd, b_beql, b_bneq, b_aeql, b_aneq, u_not, u_neg, isConstOp, eqA, eqCellV, List.getD_cons_zero, List.getD_cons_succ, List.map_cons, List.map_nil, List.nil_append, List.cons_append, List.append_nil, if_true, if_false, Option.map_some, Option.map_none, reduceIte, reduceCtorEq, Nat.reduceEqDiff, ne_eq, not_false_eq_true, Nat.reduceBEq, oneA, ldv, ld1v, ld1s, wr1s, ldRow, stRow, row_lit, row_agg, row_vsl, row_sl, row_ptr, row_fn, one_I, one_B, one_S, one_vsl, one_sl, one_ptr, one_fn, extractA, okA, rI, rS, rU, rClass, rFault, rExit, rStart, rLine, Int.toNat_natCast, List.length_cons, List.length_nil, List.length_map, List.all_cons, List.all_nil, Bool.and_true, Nat.reduceAdd, Nat.zero_add, List.getElem?_cons_zero, List.getElem?_cons_succ, List.take_succ_cons, List.take_zero, List.drop_succ_cons, List.drop_zero, Nat.reduceLeDiff, and_self, true_and, and_true, implies_true, decide_eq_true_eq, decide_eq_false_iff_not, Bool.or_eq_true, Bool.or_eq_false_iff, Bool.and_eq_true, Bool.not_eq_true', Bool.not_eq_false', beq_false, decide_true, decide_false, Int.ofNat_lt, Int.ofNat_le, Int.natCast_nonneg, Bool.or_true, Bool.or_false, Bool.true_or, Bool.false_or, beq_self_eq_true, Nat.reduceMul, List.drop_one, Bool.not_true, Bool.not_false, Bool.not_not, Bool.false_eq_true, Bool.true_eq_false, false_implies, true_implies, Bool.true_and, Bool.false_and, Bool.and_false, if_true, if_false, not_true_eq_false, Nat.reduceLT, Int.natCast_eq_zero, Int.natCast_pos, Int.natCast_zero, false_and, and_false, or_false, false_or, or_true, true_or, Bool.or_self, ↓x_nil, ↓x_go1, ↓x_g0, ↓x_g1, ↓x_g2, ↓x_g3, ↓x_s0, ↓x_s1, ↓x_s2, ↓x_s3, none_le_iff, ↓u_move, ↓u_assign, ↓u_pick, ↓u_build, ↓u_load, ↓u_binOp, ↓u_unOp, ↓u_convert, ↓u_fieldAddr, ↓u_field, ↓u_indexAddr, ↓u_index, ↓u_extract, ↓u_slice, ↓u_nilCheck, ↓u_makeFunc, ↓u_len, List.replicate_zero, Int.toNat_zero, List.replicate_succ, buildRows, List.set_cons_zero, List.set_cons_succ, List.set_nil, List.mapM_nil, maxLen_eq, Nat.zero_le, Nat.mul_one, Nat.one_mul, bldA, fillA, spliceA, List.take_nil, List.drop_nil, List.getElem?_nil, Int.reduceEq, Int.reduceLT, Int.reduceLE, decide_eq_true_eq, ld1o, wr1o, ↓u_buildSlice, bldSliceA, le_same, ti1, ti2, tk2, ti3, te3, ts3, tk3, tz3, ti4, tb4, ti5, tk5, tz5, ti9, te9, ts9, tk9, tz9, ti12, tk12, ti13, tp13, tf13_0, tf13_1, ti20, ti21, tk21, tz21, ti22, te22, tz22, ti23, te23, ti24, tp24, tf24_0, ti25, tp25, tf25_0, ti26, te26, ti27, tp27, tf27_0, ti28, tp28, tf28_0, ti30, ti32, ti33, ti34, tq34, tp34, tf34_0, tf34_1, tf34_2, tf34_3, tf34_4, ti35, tq35, tp35, tf35_0, tf35_1, tf35_2, tf35_3, tf35_4, ti36, ti37, te37, ti38, ti39, ti40, ti42, ti44, ti45, ti46, ti47, ti48, ti49, ti50, ti51, ti52, ti53, ti54, ti55, ti56, ti57, ti58, ti59, ti60, ti61, ti62, ti64, ti65, ti66, tp66, tf66_0, tf66_1, ti67, tp67, tf67_0, tf67_1, ti68, ti69, ti70, ti71, ti72, ti73, ti74, ti75, ti76, ti77, ti78, ti79, ti80, ti81, ti82, ti83, tq83, tp83, tf83_0, tf83_1, ti84, tq84, tp84, tf84_0, tf84_1, ti85, ti86, ti87, ti88, ti89, ti90, ti91, ti92, ti93, ti94, ti95, ti96, tk96, tz96, ti97, ti98, ti99, ti100, ti101, te101, ti102, ti103, ti104, tk104, ti106, ti107, ti108, ti110, ti111, ti112, tk112, tz112, ti113, ti114, tk114, tz114, ti115, tk115, ti116, ti117, ti118, ti119, ti120, ti121, ti122, ti124, ti125, ta125, ti126, ti128, ti129, ti130, ta130, ti131, ta131, ti132, ta132, ti133, ta133, ti134, ti140, ti144, fp13_0, fv13_0, fp13_1, fv13_1, fp24_0, fv24_0, fp25_0, fv25_0, fp27_0, fv27_0, fp28_0, fv28_0, fp34_0, fv34_0, fp34_1, fv34_1, fp34_2, fv34_2, fp34_3, fv34_3, fp34_4, fv34_4, fp35_0, fv35_0, fp35_1, fv35_1, fp35_2, fv35_2, fp35_3, fv35_3, fp35_4, fv35_4, fp66_0, fv66_0, fp66_1, fv66_1, fp67_0, fv67_0, fp67_1, fv67_1, fp83_0, fv83_0, fp83_1, fv83_1, fp84_0, fv84_0, fp84_1, fv84_1, lv22, ll22, is22, ix22, sh22, so22, sb22, sm22, sp22, lv23, ll23, is23, ix23, sh23, so23, sb23, sm23, sp23, lv26, ll26, is26, ix26, sh26, so26, sb26, sm26, sp26, lv37, ll37, is37, ix37, sh37, so37, sb37, sm37, sp37, lv101, ll101, is101, ix101, sh101, so101, sb101, sm101, sp101, xs9, ls9, sx9, sy9, sz9, h3]
  · intro tm H i h1 h3 h0 hi
    simp only [List.toList_toArray]
    simp +contextual -dsimp -implicitDefEqProofs (maxSteps := 5000000) only [↓aw_skip, ↓aw_ret, ↓aw_exit, ↓aw_region, ↓aw_draw, ↓aw_seq, ↓aw_block, ↓aw_loop, ↓aw_cond, ↓frz_nil, ↓frz_cons, frzV_ptr, frzV_sl, frzK_some, set_none, set_other, AHeap.set_self, set_del, set_set, cnd_t, cnd_f, cnd_b, ↓sq_normal, ↓sq_ret, ↓sq_exit, ↓exB_normal, ↓exB_ret, ↓exB_same, ↓exB_other, ↓retQ_ret, ↓retQ_normal, ↓ret0_ret, ↓ret0_normal, retA_one, retA_two, retA_three, retA_four, retA_nil, ↓ao_nil, ↓go1, ↓g_move, ↓g_assign, ↓g_pick, ↓g_build, ↓g_load, ↓g_binOp, ↓g_unOp, ↓g_convert, ↓g_fieldAddr, ↓g_field, ↓g_indexAddr, ↓g_index, ↓g_extract, ↓g_slice, ↓g_nilCheck, ↓g_len, ↓g_makeFunc, ↓h_call, ↓h_append, ↓h_alloc, ↓h_box, ↓h_buildSlice, ↓h_makeSlice, ↓h_store, gIf_b, mrgV_b, mrgV_wh, mrgV_U, gIf_U, gIf_wh, mrgB_f, mrgB_some, mrgB_if, wh_true, wh_false, keepA_some, keepA_if, ↓gV, gD_zero, gD_succ, gT_some, ↓i_box, ↓i_buildSlice, bxA_t, bxA_f, ↓i_move, ↓i_assign, ↓i_build, ↓i_load, ↓i_binOp, ↓i_unOp, ↓i_convert, ↓i_fieldAddr, ↓i_field, ↓i_indexAddr, ↓i_index, ↓i_extract, ↓i_slice, ↓i_nilCheck, ↓i_makeFunc, ↓i_len, ↓i_max, ↓i_min, ↓i_alloc, ↓i_makeSlice, ↓i_store, ↓i_append, ↓i_call, ↓i_pick, ↓boxI, ↓boxA, ↓buildSliceI, ↓buildSliceA, ↓makeSliceA, ↓allocA, ↓storeA, ↓p_move, ↓p_assign, ↓p_pick, ↓p_build, ↓p_load, ↓p_binOp, ↓p_unOp, ↓p_convert, ↓p_fieldAddr, ↓p_field, ↓p_indexAddr, ↓p_index, ↓p_extract, ↓p_slice, ↓p_nilCheck, ↓p_makeFunc, ↓p_len, ↓p_max, ↓p_min, ↓p_alloc, ↓p_box, ↓p_buildSlice, ↓p_makeSlice, ↓p_store, ↓p_append, ↓p_call, callA_fn, ev_tmp, ev_const, ev_global, ev_func, oc_bool, oc_int, oc_string, oc_nil, oc_nilptr, oc_nilfunc, cl_bool, cl_int, cl_string, cl_nil, updO_some, updO_none, upd_same, upd_other, init_at, pickA_b, pickA_wh, selA_t, selA_f, selA_and, selA_or, selA_orn, selA_orm, selA_bb, selA_ii, beqt, b_add, b_sub, b_mul, b_and, b_or, b_xor, b_eql, b_neq, b_lss, b_leq, b_gtr, b_geq, b_quo, b_rem, b_shr, b_seql, b_sneq, b_sadd, b_beql, b_bneq, b_aeql, b_aneq, u_not, u_neg, isConstOp, eqA, eqCellV, List.getD_cons_zero, List.getD_cons_succ, List.map_cons, List.map_nil, List.nil_append, List.cons_append, List.append_nil, if_true, if_false, Option.map_some, Option.map_none, reduceIte, reduceCtorEq, Nat.reduceEqDiff, ne_eq, not_false_eq_true, Nat.reduceBEq, oneA, ldv, ld1v, ld1s, wr1s, ldRow, stRow, row_lit, row_agg, row_vsl, row_sl, row_ptr, row_fn, one_I, one_B, one_S, one_vsl, one_sl, one_ptr, one_fn, extractA, okA, rI, rS, rU, rClass, rFault, rExit, rStart, rLine, Int.toNat_natCast, List.length_cons, List.length_nil, List.length_map, List.all_cons, List.all_nil, Bool.and_true, Nat.reduceAdd, Nat.zero_add, List.getElem?_cons_zero, List.getElem?_cons_succ, List.take_succ_cons, List.take_zero, List.drop_succ_cons, List.drop_zero, Nat.reduceLeDiff, and_self, true_and, and_true, implies_true, decide_eq_true_eq, decide_eq_false_iff_not, Bool.or_eq_true, Bool.or_eq_false_iff, Bool.and_eq_true, Bool.not_eq_true', Bool.not_eq_false', beq_false, decide_true, decide_false, Int.ofNat_lt, Int.ofNat_le, Int.natCast_nonneg, Bool.or_true, Bool.or_false, Bool.true_or, Bool.false_or, beq_self_eq_true, Nat.reduceMul, List.drop_one, Bool.not_true, Bool.not_false, Bool.not_not, Bool.false_eq_true, Bool.true_eq_false, false_implies, true_implies, Bool.true_and, Bool.false_and, Bool.and_false, if_true, if_false, not_true_eq_false, Nat.reduceLT, Int.natCast_eq_zero, Int.natCast_pos, Int.natCast_zero, false_and, and_false, or_false, false_or, or_true, true_or, Bool.or_self, ↓x_nil, ↓x_go1, ↓x_g0, ↓x_g1, ↓x_g2, ↓x_g3, ↓x_s0, ↓x_s1, ↓x_s2, ↓x_s3, none_le_iff, ↓u_move, ↓u_assign, ↓u_pick, ↓u_build, ↓u_load, ↓u_binOp, ↓u_unOp, ↓u_convert, ↓u_fieldAddr, ↓u_field, ↓u_indexAddr, ↓u_index, ↓u_extract, ↓u_slice, ↓u_nilCheck, ↓u_makeFunc, ↓u_len, List.replicate_zero, Int.toNat_zero, List.replicate_succ, buildRows, List.set_cons_zero, List.set_cons_succ, List.set_nil, List.mapM_nil, maxLen_eq, Nat.zero_le, Nat.mul_one, Nat.one_mul, bldA, fillA, spliceA, List.take_nil, List.drop_nil, List.getElem?_nil, Int.reduceEq, Int.reduceLT, Int.reduceLE, decide_eq_true_eq, ld1o, wr1o, ↓u_buildSlice, bldSliceA, le_same, ti1, ti2, tk2, ti3, te3, ts3, tk3, tz3, ti4, tb4, ti5, tk5, tz5, ti9, te9, ts9, tk9, tz9, ti12, tk12, ti13, tp13, tf13_0, tf13_1, ti20, ti21, tk21, tz21, ti22, te22, tz22, ti23, te23, ti24, tp24, tf24_0, ti25, tp25, tf25_0, ti26, te26, ti27, tp27, tf27_0, ti28, tp28, tf28_0, ti30, ti32, ti33, ti34, tq34, tp34, tf34_0, tf34_1, tf34_2, tf34_3, tf34_4, ti35, tq35, tp35, tf35_0, tf35_1, tf35_2, tf35_3, tf35_4, ti36, ti37, te37, ti38, ti39, ti40, ti42, ti44, ti45, ti46, ti47, ti48, ti49, ti50, ti51, ti52, ti53, ti54, ti55, ti56, ti57, ti58, ti59, ti60, ti61, ti62, ti64, ti65, ti66, tp66, tf66_0, tf66_1, ti67, tp67, tf67_0, tf67_1, ti68, ti69, ti70, ti71, ti72, ti73, ti74, ti75, ti76, ti77, ti78, ti79, ti80, ti81, ti82, ti83, tq83, tp83, tf83_0, tf83_1, ti84, tq84, tp84, tf84_0, tf84_1, ti85, ti86, ti87, ti88, ti89, ti90, ti91, ti92, ti93, ti94, ti95, ti96, tk96, tz96, ti97, ti98, ti99, ti100, ti101, te101, ti102, ti103, ti104, tk104, ti106, ti107, ti108, ti110, ti111, ti112, tk112, tz112, ti113, ti114, tk114, tz114, ti115, tk115, ti116, ti117, ti118, ti119, ti120, ti121, ti122, ti124, ti125, ta125, ti126, ti128, ti129, ti130, ta130, ti131, ta131, ti132, ta132, ti133, ta133, ti134, ti140, ti144, fp13_0, fv13_0, fp13_1, fv13_1, fp24_0, fv24_0, fp25_0, fv25_0, fp27_0, fv27_0, fp28_0, fv28_0, fp34_0, fv34_0, fp34_1, fv34_1, fp34_2, fv34_2, fp34_3, fv34_3, fp34_4, fv34_4, fp35_0, fv35_0, fp35_1, fv35_1, fp35_2, fv35_2, fp35_3, fv35_3, fp35_4, fv35_4, fp66_0, fv66_0, fp66_1, fv66_1, fp67_0, fv67_0, fp67_1, fv67_1, fp83_0, fv83_0, fp83_1, fv83_1, fp84_0, fv84_0, fp84_1, fv84_1, lv22, ll22, is22, ix22, sh22, so22, sb22, sm22, sp22, lv23, ll23, is23, ix23, sh23, so23, sb23, sm23, sp23, lv26, ll26, is26, ix26, sh26, so26, sb26, sm26, sp26, lv37, ll37, is37, ix37, sh37, so37, sb37, sm37, sp37, lv101, ll101, is101, ix101, sh101, so101, sb101, sm101, sp101, xs9, ls9, sx9, sy9, sz9, h1, h3, h0, hi]
    omega
  · intro tm H b h17
    simp only [List.toList_toArray]
    simp +contextual -dsimp -implicitDefEqProofs (maxSteps := 5000000) only [↓aw_skip, ↓aw_ret, ↓aw_exit, ↓aw_region, ↓aw_draw, ↓aw_seq, ↓aw_block, ↓aw_loop, ↓aw_cond, ↓frz_nil, ↓frz_cons, frzV_ptr, frzV_sl, frzK_some, set_none, set_other, AHeap.set_self, set_del, set_set, cnd_t, cnd_f, cnd_b, ↓sq_normal, ↓sq_ret, ↓sq_exit, ↓exB_normal, ↓exB_ret, ↓exB_same, ↓exB_other, ↓retQ_ret, ↓retQ_normal, ↓ret0_ret, ↓ret0_normal, retA_one, retA_two, retA_three, retA_four, retA_nil, ↓ao_nil, ↓go1, ↓g_move, ↓g_assign, ↓g_pick, ↓g_build, ↓g_load, ↓g_binOp, ↓g_unOp, ↓g_convert, ↓g_fieldAddr, ↓g_field, ↓g_indexAddr, ↓g_index, ↓g_extract, ↓g_slice, ↓g_nilCheck, ↓g_len, ↓g_makeFunc, ↓h_call, ↓h_append, ↓h_alloc, ↓h_box, ↓h_buildSlice, ↓h_makeSlice, ↓h_store, gIf_b, mrgV_b, mrgV_wh, mrgV_U, gIf_U, gIf_wh, mrgB_f, mrgB_some, mrgB_if, wh_true, wh_false, keepA_some, keepA_if, ↓gV, gD_zero, gD_succ, gT_some, ↓i_box, ↓i_buildSlice, bxA_t, bxA_f, ↓i_move, ↓i_assign, ↓i_build, ↓i_load, ↓i_binOp, ↓i_unOp, ↓i_convert, ↓i_fieldAddr, ↓i_field, ↓i_indexAddr, ↓i_index, ↓i_extract, ↓i_slice, ↓i_nilCheck, ↓i_makeFunc, ↓i_len, ↓i_max, ↓i_min, ↓i_alloc, ↓i_makeSlice, ↓i_store, ↓i_append, ↓i_call, ↓i_pick, ↓boxI, ↓boxA, ↓buildSliceI, ↓buildSliceA, ↓makeSliceA, ↓allocA, ↓storeA, ↓p_move, ↓p_assign, ↓p_pick, ↓p_build, ↓p_load, ↓p_binOp, ↓p_unOp, ↓p_convert, ↓p_fieldAddr, ↓p_field, ↓p_indexAddr, ↓p_index, ↓p_extract, ↓p_slice, ↓p_nilCheck, ↓p_makeFunc, ↓p_len, ↓p_max, ↓p_min, ↓p_alloc, ↓p_box, ↓p_buildSlice, ↓p_makeSlice, ↓p_store, ↓p_append, ↓p_call, callA_fn, ev_tmp, ev_const, ev_global, ev_func, oc_bool, oc_int, oc_string, oc_nil, oc_nilptr, oc_nilfunc, cl_bool, cl_int, cl_string, cl_nil, updO_some, updO_none, upd_same, upd_other, init_at, pickA_b, pickA_wh, selA_t, selA_f, selA_and, selA_or, selA_orn, selA_orm, selA_bb, selA_ii, beqt, b_add, b_sub, b_mul, b_and, b_or, b_xor, b_eql, b_neq, b_lss, b_leq, b_gtr, b_geq, b_quo, b_rem, b_shr, b_seql, b_sneq, b_sadd, b_beql, b_bneq, b_aeql, b_aneq, u_not, u_neg, isConstOp, eqA, eqCellV, List.getD_cons_zero, List.getD_cons_succ, List.map_cons, List.map_nil, List.nil_append, List.cons_append, List.append_nil, if_true, if_false, Option.map_some, Option.map_none, reduceIte, reduceCtorEq, Nat.reduceEqDiff, ne_eq, not_false_eq_true, Nat.reduceBEq, oneA, ldv, ld1v, ld1s, wr1s, ldRow, stRow, row_lit, row_agg, row_vsl, row_sl, row_ptr, row_fn, one_I, one_B, one_S, one_vsl, one_sl, one_ptr, one_fn, extractA, okA, rI, rS, rU, rClass, rFault, rExit, rStart, rLine, Int.toNat_natCast, List.length_cons, List.length_nil, List.length_map, List.all_cons, List.all_nil, Bool.and_true, Nat.reduceAdd, Nat.zero_add, List.getElem?_cons_zero, List.getElem?_cons_succ, List.take_succ_cons, List.take_zero, List.drop_succ_cons, List.drop_zero, Nat.reduceLeDiff, and_self, true_and, and_true, implies_true, decide_eq_true_eq, decide_eq_false_iff_not, Bool.or_eq_true, Bool.or_eq_false_iff, Bool.and_eq_true, Bool.not_eq_true', Bool.not_eq_false', beq_false, decide_true, decide_false, Int.ofNat_lt, Int.ofNat_le, Int.natCast_nonneg, Bool.or_true, Bool.or_false, Bool.true_or, Bool.false_or, beq_self_eq_true, Nat.reduceMul, List.drop_one, Bool.not_true, Bool.not_false, Bool.not_not, Bool.false_eq_true, Bool.true_eq_false, false_implies, true_implies, Bool.true_and, Bool.false_and, Bool.and_false, if_true, if_false, not_true_eq_false, Nat.reduceLT, Int.natCast_eq_zero, Int.natCast_pos, Int.natCast_zero, false_and, and_false, or_false, false_or, or_true, true_or, Bool.or_self, ↓x_nil, ↓x_go1, ↓x_g0, ↓x_g1, ↓x_g2, ↓x_g3, ↓x_s0, ↓x_s1, ↓x_s2, ↓x_s3, none_le_iff, ↓u_move, ↓u_assign, ↓u_pick, ↓u_build, ↓u_load, ↓u_binOp, ↓u_unOp, ↓u_convert, ↓u_fieldAddr, ↓u_field, ↓u_indexAddr, ↓u_index, ↓u_extract, ↓u_slice, ↓u_nilCheck, ↓u_makeFunc, ↓u_len, List.replicate_zero, Int.toNat_zero, List.replicate_succ, buildRows, List.set_cons_zero, List.set_cons_succ, List.set_nil, List.mapM_nil, maxLen_eq, Nat.zero_le, Nat.mul_one, Nat.one_mul, bldA, fillA, spliceA, List.take_nil, List.drop_nil, List.getElem?_nil, Int.reduceEq, Int.reduceLT, Int.reduceLE, decide_eq_true_eq, ld1o, wr1o, ↓u_buildSlice, bldSliceA, le_same, ti1, ti2, tk2, ti3, te3, ts3, tk3, tz3, ti4, tb4, ti5, tk5, tz5, ti9, te9, ts9, tk9, tz9, ti12, tk12, ti13, tp13, tf13_0, tf13_1, ti20, ti21, tk21, tz21, ti22, te22, tz22, ti23, te23, ti24, tp24, tf24_0, ti25, tp25, tf25_0, ti26, te26, ti27, tp27, tf27_0, ti28, tp28, tf28_0, ti30, ti32, ti33, ti34, tq34, tp34, tf34_0, tf34_1, tf34_2, tf34_3, tf34_4, ti35, tq35, tp35, tf35_0, tf35_1, tf35_2, tf35_3, tf35_4, ti36, ti37, te37, ti38, ti39, ti40, ti42, ti44, ti45, ti46, ti47, ti48, ti49, ti50, ti51, ti52, ti53, ti54, ti55, ti56, ti57, ti58, ti59, ti60, ti61, ti62, ti64, ti65, ti66, tp66, tf66_0, tf66_1, ti67, tp67, tf67_0, tf67_1, ti68, ti69, ti70, ti71, ti72, ti73, ti74, ti75, ti76, ti77, ti78, ti79, ti80, ti81, ti82, ti83, tq83, tp83, tf83_0, tf83_1, ti84, tq84, tp84, tf84_0, tf84_1, ti85, ti86, ti87, ti88, ti89, ti90, ti91, ti92, ti93, ti94, ti95, ti96, tk96, tz96, ti97, ti98, ti99, ti100, ti101, te101, ti102, ti103, ti104, tk104, ti106, ti107, ti108, ti110, ti111, ti112, tk112, tz112, ti113, ti114, tk114, tz114, ti115, tk115, ti116, ti117, ti118, ti119, ti120, ti121, ti122, ti124, ti125, ta125, ti126, ti128, ti129, ti130, ta130, ti131, ta131, ti132, ta132, ti133, ta133, ti134, ti140, ti144, fp13_0, fv13_0, fp13_1, fv13_1, fp24_0, fv24_0, fp25_0, fv25_0, fp27_0, fv27_0, fp28_0, fv28_0, fp34_0, fv34_0, fp34_1, fv34_1, fp34_2, fv34_2, fp34_3, fv34_3, fp34_4, fv34_4, fp35_0, fv35_0, fp35_1, fv35_1, fp35_2, fv35_2, fp35_3, fv35_3, fp35_4, fv35_4, fp66_0, fv66_0, fp66_1, fv66_1, fp67_0, fv67_0, fp67_1, fv67_1, fp83_0, fv83_0, fp83_1, fv83_1, fp84_0, fv84_0, fp84_1, fv84_1, lv22, ll22, is22, ix22, sh22, so22, sb22, sm22, sp22, lv23, ll23, is23, ix23, sh23, so23, sb23, sm23, sp23, lv26, ll26, is26, ix26, sh26, so26, sb26, sm26, sp26, lv37, ll37, is37, ix37, sh37, so37, sb37, sm37, sp37, lv101, ll101, is101, ix101, sh101, so101, sb101, sm101, sp101, xs9, ls9, sx9, sy9, sz9, h17]
  · intro tm H i h3 h0 hi
    simp only [List.toList_toArray]
    simp +contextual -dsimp -implicitDefEqProofs (maxSteps := 5000000) only [↓aw_skip, ↓aw_ret, ↓aw_exit, ↓aw_region, ↓aw_draw, ↓aw_seq, ↓aw_block, ↓aw_loop, ↓aw_cond, ↓frz_nil, ↓frz_cons, frzV_ptr, frzV_sl, frzK_some, set_none, set_other, AHeap.set_self, set_del, set_set, cnd_t, cnd_f, cnd_b, ↓sq_normal, ↓sq_ret, ↓sq_exit, ↓exB_normal, ↓exB_ret, ↓exB_same, ↓exB_other, ↓retQ_ret, ↓retQ_normal, ↓ret0_ret, ↓ret0_normal, retA_one, retA_two, retA_three, retA_four, retA_nil, ↓ao_nil, ↓go1, ↓g_move, ↓g_assign, ↓g_pick, ↓g_build, ↓g_load, ↓g_binOp, ↓g_unOp, ↓g_convert, ↓g_fieldAddr, ↓g_field, ↓g_indexAddr, ↓g_index, ↓g_extract, ↓g_slice, ↓g_nilCheck, ↓g_len, ↓g_makeFunc, ↓h_call, ↓h_append, ↓h_alloc, ↓h_box, ↓h_buildSlice, ↓h_makeSlice, ↓h_store, gIf_b, mrgV_b, mrgV_wh, mrgV_U, gIf_U, gIf_wh, mrgB_f, mrgB_some, mrgB_if, wh_true, wh_false, keepA_some, keepA_if, ↓gV, gD_zero, gD_succ, gT_some, ↓i_box, ↓i_buildSlice, bxA_t, bxA_f, ↓i_move, ↓i_assign, ↓i_build, ↓i_load, ↓i_binOp, ↓i_unOp, ↓i_convert, ↓i_fieldAddr, ↓i_field, ↓i_indexAddr, ↓i_index, ↓i_extract, ↓i_slice, ↓i_nilCheck, ↓i_makeFunc, ↓i_len, ↓i_max, ↓i_min, ↓i_alloc, ↓i_makeSlice, ↓i_store, ↓i_append, ↓i_call, ↓i_pick, ↓boxI, ↓boxA, ↓buildSliceI, ↓buildSliceA, ↓makeSliceA, ↓allocA, ↓storeA, ↓p_move, ↓p_assign, ↓p_pick, ↓p_build, ↓p_load, ↓p_binOp, ↓p_unOp, ↓p_convert, ↓p_fieldAddr, ↓p_field, ↓p_indexAddr, ↓p_index, ↓p_extract, ↓p_slice, ↓p_nilCheck, ↓p_makeFunc, ↓p_len, ↓p_max, ↓p_min, ↓p_alloc, ↓p_box, ↓p_buildSlice, ↓p_makeSlice, ↓p_store, ↓p_append, ↓p_call, callA_fn, ev_tmp, ev_const, ev_global, ev_func, oc_bool, oc_int, oc_string, oc_nil, oc_nilptr, oc_nilfunc, cl_bool, cl_int, cl_string, cl_nil, updO_some, updO_none, upd_same, upd_other, init_at, pickA_b, pickA_wh, selA_t, selA_f, selA_and, selA_or, selA_orn, selA_orm, selA_bb, selA_ii, beqt, b_add, b_sub, b_mul, b_and, b_or, b_xor, b_eql, b_neq, b_lss, b_leq, b_gtr, b_geq, b_quo, b_rem, b_shr, b_seql, b_sneq, b_sadd, b_beql, b_bneq, b_aeql, b_aneq, u_not, u_neg, isConstOp, eqA, eqCellV, List.getD_cons_zero, List.getD_cons_succ, List.map_cons, List.map_nil, List.nil_append, List.cons_append, List.append_nil, if_true, if_false, Option.map_some, Option.map_none, reduceIte, reduceCtorEq, Nat.reduceEqDiff, ne_eq, not_false_eq_true, Nat.reduceBEq, oneA, ldv, ld1v, ld1s, wr1s, ldRow, stRow, row_lit, row_agg, row_vsl, row_sl, row_ptr, row_fn, one_I, one_B, one_S, one_vsl, one_sl, one_ptr, one_fn, extractA, okA, rI, rS, rU, rClass, rFault, rExit, rStart, rLine, Int.toNat_natCast, List.length_cons, List.length_nil, List.length_map, List.all_cons, List.all_nil, Bool.and_true, Nat.reduceAdd, Nat.zero_add, List.getElem?_cons_zero, List.getElem?_cons_succ, List.take_succ_cons, List.take_zero, List.drop_succ_cons, List.drop_zero, Nat.reduceLeDiff, and_self, true_and, and_true, implies_true, decide_eq_true_eq, decide_eq_false_iff_not, Bool.or_eq_true, Bool.or_eq_false_iff, Bool.and_eq_true, Bool.not_eq_true', Bool.not_eq_false', beq_false, decide_true, decide_false, Int.ofNat_lt, Int.ofNat_le, Int.natCast_nonneg, Bool.or_true, Bool.or_false, Bool.true_or, Bool.false_or, beq_self_eq_true, Nat.reduceMul, List.drop_one, Bool.not_true, Bool.not_false, Bool.not_not, Bool.false_eq_true, Bool.true_eq_false, false_implies, true_implies, Bool.true_and, Bool.false_and, Bool.and_false, if_true, if_false, not_true_eq_false, Nat.reduceLT, Int.natCast_eq_zero, Int.natCast_pos, Int.natCast_zero, false_and, and_false, or_false, false_or, or_true, true_or, Bool.or_self, ↓x_nil, ↓x_go1, ↓x_g0, ↓x_g1, ↓x_g2, ↓x_g3, ↓x_s0, ↓x_s1, ↓x_s2, ↓x_s3, none_le_iff, ↓u_move, ↓u_assign, ↓u_pick, ↓u_build, ↓u_load, ↓u_binOp, ↓u_unOp, ↓u_convert, ↓u_fieldAddr, ↓u_field, ↓u_indexAddr, ↓u_index, ↓u_extract, ↓u_slice, ↓u_nilCheck, ↓u_makeFunc, ↓u_len, List.replicate_zero, Int.toNat_zero, List.replicate_succ, buildRows, List.set_cons_zero, List.set_cons_succ, List.set_nil, List.mapM_nil, maxLen_eq, Nat.zero_le, Nat.mul_one, Nat.one_mul, bldA, fillA, spliceA, List.take_nil, List.drop_nil, List.getElem?_nil, Int.reduceEq, Int.reduceLT, Int.reduceLE, decide_eq_true_eq, ld1o, wr1o, ↓u_buildSlice, bldSliceA, le_same, ti1, ti2, tk2, ti3, te3, ts3, tk3, tz3, ti4, tb4, ti5, tk5, tz5, ti9, te9, ts9, tk9, tz9, ti12, tk12, ti13, tp13, tf13_0, tf13_1, ti20, ti21, tk21, tz21, ti22, te22, tz22, ti23, te23, ti24, tp24, tf24_0, ti25, tp25, tf25_0, ti26, te26, ti27, tp27, tf27_0, ti28, tp28, tf28_0, ti30, ti32, ti33, ti34, tq34, tp34, tf34_0, tf34_1, tf34_2, tf34_3, tf34_4, ti35, tq35, tp35, tf35_0, tf35_1, tf35_2, tf35_3, tf35_4, ti36, ti37, te37, ti38, ti39, ti40, ti42, ti44, ti45, ti46, ti47, ti48, ti49, ti50, ti51, ti52, ti53, ti54, ti55, ti56, ti57, ti58, ti59, ti60, ti61, ti62, ti64, ti65, ti66, tp66, tf66_0, tf66_1, ti67, tp67, tf67_0, tf67_1, ti68, ti69, ti70, ti71, ti72, ti73, ti74, ti75, ti76, ti77, ti78, ti79, ti80, ti81, ti82, ti83, tq83, tp83, tf83_0, tf83_1, ti84, tq84, tp84, tf84_0, tf84_1, ti85, ti86, ti87, ti88, ti89, ti90, ti91, ti92, ti93, ti94, ti95, ti96, tk96, tz96, ti97, ti98, ti99, ti100, ti101, te101, ti102, ti103, ti104, tk104, ti106, ti107, ti108, ti110, ti111, ti112, tk112, tz112, ti113, ti114, tk114, tz114, ti115, tk115, ti116, ti117, ti118, ti119, ti120, ti121, ti122, ti124, ti125, ta125, ti126, ti128, ti129, ti130, ta130, ti131, ta131, ti132, ta132, ti133, ta133, ti134, ti140, ti144, fp13_0, fv13_0, fp13_1, fv13_1, fp24_0, fv24_0, fp25_0, fv25_0, fp27_0, fv27_0, fp28_0, fv28_0, fp34_0, fv34_0, fp34_1, fv34_1, fp34_2, fv34_2, fp34_3, fv34_3, fp34_4, fv34_4, fp35_0, fv35_0, fp35_1, fv35_1, fp35_2, fv35_2, fp35_3, fv35_3, fp35_4, fv35_4, fp66_0, fv66_0, fp66_1, fv66_1, fp67_0, fv67_0, fp67_1, fv67_1, fp83_0, fv83_0, fp83_1, fv83_1, fp84_0, fv84_0, fp84_1, fv84_1, lv22, ll22, is22, ix22, sh22, so22, sb22, sm22, sp22, lv23, ll23, is23, ix23, sh23, so23, sb23, sm23, sp23, lv26, ll26, is26, ix26, sh26, so26, sb26, sm26, sp26, lv37, ll37, is37, ix37, sh37, so37, sb37, sm37, sp37, lv101, ll101, is101, ix101, sh101, so101, sb101, sm101, sp101, xs9, ls9, sx9, sy9, sz9, h3]
    exact I_wrap rfl (by omega) (by omega)
theorem c_BackInt (l : List Int) (cl : Bool) (H : AHeap) : ACalls Tryd.prog 51 [.vsl (l.map rI) cl] H fun r H' => r = .fn 72 [] [.vptr [[.vsl (l.map rI) cl]] 0 0] ∧ H' = H := by
  refine acalls_of0 Tryd.func51 rfl (by kernel_rfl) rfl rfl (awp_sound (fz := fun _ => []) (im := fun s => s == 1) mixed _ _ _ _ (by kernel_rfl) ?_)
  simp +contextual -dsimp -implicitDefEqProofs (maxSteps := 5000000) only [↓aw_skip, ↓aw_ret, ↓aw_exit, ↓aw_region, ↓aw_draw, ↓aw_seq, ↓aw_block, ↓aw_loop, ↓aw_cond, ↓frz_nil, ↓frz_cons, frzV_ptr, frzV_sl, frzK_some, set_none, set_other, AHeap.set_self, set_del, set_set, cnd_t, cnd_f, cnd_b, ↓sq_normal, ↓sq_ret, ↓sq_exit, ↓exB_normal, ↓exB_ret, ↓exB_same, ↓exB_other, ↓retQ_ret, ↓retQ_normal, ↓ret0_ret, ↓ret0_normal, retA_one, retA_two, retA_three, retA_four, retA_nil, ↓ao_nil, ↓go1, ↓g_move, ↓g_assign, ↓g_pick, ↓g_build, ↓g_load, ↓g_binOp, ↓g_unOp, ↓g_convert, ↓g_fieldAddr, ↓g_field, ↓g_indexAddr, ↓g_index, ↓g_extract, ↓g_slice, ↓g_nilCheck, ↓g_len, ↓g_makeFunc, ↓h_call, ↓h_append, ↓h_alloc, ↓h_box, ↓h_buildSlice, ↓h_makeSlice, ↓h_store, gIf_b, mrgV_b, mrgV_wh, mrgV_U, gIf_U, gIf_wh, mrgB_f, mrgB_some, mrgB_if, wh_true, wh_false, keepA_some, keepA_if, ↓gV, gD_zero, gD_succ, gT_some, ↓i_box, ↓i_buildSlice, bxA_t, bxA_f, ↓i_move, ↓i_assign, ↓i_build, ↓i_load, ↓i_binOp, ↓i_unOp, ↓i_convert, ↓i_fieldAddr, ↓i_field, ↓i_indexAddr, ↓i_index, ↓i_extract, ↓i_slice, ↓i_nilCheck, ↓i_makeFunc, ↓i_len, ↓i_max, ↓i_min, ↓i_alloc, ↓i_makeSlice, ↓i_store, ↓i_append, ↓i_call, ↓i_pick, ↓boxI, ↓boxA, ↓buildSliceI, ↓buildSliceA, ↓makeSliceA, ↓allocA, ↓storeA, ↓p_move, ↓p_assign, ↓p_pick, ↓p_build, ↓p_load, ↓p_binOp, ↓p_unOp, ↓p_convert, ↓p_fieldAddr, ↓p_field, ↓p_indexAddr, ↓p_index, ↓p_extract, ↓p_slice, ↓p_nilCheck, ↓p_makeFunc, ↓p_len, ↓p_max, ↓p_min, ↓p_alloc, ↓p_box, ↓p_buildSlice, ↓p_makeSlice, ↓p_store, ↓p_append, ↓p_call, callA_fn, ev_tmp, ev_const, ev_global, ev_func, oc_bool, oc_int, oc_string, oc_nil, oc_nilptr, oc_nilfunc, cl_bool, cl_int, cl_string, cl_nil, updO_some, updO_none, upd_same, upd_other, init_at, pickA_b, pickA_wh, selA_t, selA_f, selA_and, selA_or, selA_orn, selA_orm, selA_bb, selA_ii, beqt, b_add, b_sub, b_mul, b_and, b_or, b_xor, b_eql, b_neq, b_lss, b_leq, b_gtr, b_geq, b_quo, b_rem, b_shr, b_seql, b_sneq, b_sadd, b_beql, b_bneq, b_aeql, b_aneq, u_not, u_neg, isConstOp, eqA, eqCellV, List.getD_cons_zero, List.getD_cons_succ, List.map_cons, List.map_nil, List.nil_append, List.cons_append, List.append_nil, if_true, if_false, Option.map_some, Option.map_none, reduceIte, reduceCtorEq, Nat.reduceEqDiff, ne_eq, not_false_eq_true, Nat.reduceBEq, oneA, ldv, ld1v, ld1s, wr1s, ldRow, stRow, row_lit, row_agg, row_vsl, row_sl, row_ptr, row_fn, one_I, one_B, one_S, one_vsl, one_sl, one_ptr, one_fn, extractA, okA, rI, rS, rU, rClass, rFault, rExit, rStart, rLine, Int.toNat_natCast, List.length_cons, List.length_nil, List.length_map, List.all_cons, List.all_nil, Bool.and_true, Nat.reduceAdd, Nat.zero_add, List.getElem?_cons_zero, List.getElem?_cons_succ, List.take_succ_cons, List.take_zero, List.drop_succ_cons, List.drop_zero, Nat.reduceLeDiff, and_self, true_and, and_true, implies_true, decide_eq_true_eq, decide_eq_false_iff_not, Bool.or_eq_true, Bool.or_eq_false_iff, Bool.and_eq_true, Bool.not_eq_true', Bool.not_eq_false', beq_false, decide_true, decide_false, Int.ofNat_lt, Int.ofNat_le, Int.natCast_nonneg, Bool.or_true, Bool.or_false, Bool.true_or, Bool.false_or, beq_self_eq_true, Nat.reduceMul, List.drop_one, Bool.not_true, Bool.not_false, Bool.not_not, Bool.false_eq_true, Bool.true_eq_false, false_implies, true_implies, Bool.true_and, Bool.false_and, Bool.and_false, if_true, if_false, not_true_eq_false, Nat.reduceLT, Int.natCast_eq_zero, Int.natCast_pos, Int.natCast_zero, false_and, and_false, or_false, false_or, or_true, true_or, Bool.or_self, ↓x_nil, ↓x_go1, ↓x_g0, ↓x_g1, ↓x_g2, ↓x_g3, ↓x_s0, ↓x_s1, ↓x_s2, ↓x_s3, none_le_iff, ↓u_move, ↓u_assign, ↓u_pick, ↓u_build, ↓u_load, ↓u_binOp, ↓u_unOp, ↓u_convert, ↓u_fieldAddr, ↓u_field, ↓u_indexAddr, ↓u_index, ↓u_extract, ↓u_slice, ↓u_nilCheck, ↓u_makeFunc, ↓u_len, List.replicate_zero, Int.toNat_zero, List.replicate_succ, buildRows, List.set_cons_zero, List.set_cons_succ, List.set_nil, List.mapM_nil, maxLen_eq, Nat.zero_le, Nat.mul_one, Nat.one_mul, bldA, fillA, spliceA, List.take_nil, List.drop_nil, List.getElem?_nil, Int.reduceEq, Int.reduceLT, Int.reduceLE, decide_eq_true_eq, ld1o, wr1o, ↓u_buildSlice, bldSliceA, le_same, ti1, ti2, tk2, ti3, te3, ts3, tk3, tz3, ti4, tb4, ti5, tk5, tz5, ti9, te9, ts9, tk9, tz9, ti12, tk12, ti13, tp13, tf13_0, tf13_1, ti20, ti21, tk21, tz21, ti22, te22, tz22, ti23, te23, ti24, tp24, tf24_0, ti25, tp25, tf25_0, ti26, te26, ti27, tp27, tf27_0, ti28, tp28, tf28_0, ti30, ti32, ti33, ti34, tq34, tp34, tf34_0, tf34_1, tf34_2, tf34_3, tf34_4, ti35, tq35, tp35, tf35_0, tf35_1, tf35_2, tf35_3, tf35_4, ti36, ti37, te37, ti38, ti39, ti40, ti42, ti44, ti45, ti46, ti47, ti48, ti49, ti50, ti51, ti52, ti53, ti54, ti55, ti56, ti57, ti58, ti59, ti60, ti61, ti62, ti64, ti65, ti66, tp66, tf66_0, tf66_1, ti67, tp67, tf67_0, tf67_1, ti68, ti69, ti70, ti71, ti72, ti73, ti74, ti75, ti76, ti77, ti78, ti79, ti80, ti81, ti82, ti83, tq83, tp83, tf83_0, tf83_1, ti84, tq84, tp84, tf84_0, tf84_1, ti85, ti86, ti87, ti88, ti89, ti90, ti91, ti92, ti93, ti94, ti95, ti96, tk96, tz96, ti97, ti98, ti99, ti100, ti101, te101, ti102, ti103, ti104, tk104, ti106, ti107, ti108, ti110, ti111, ti112, tk112, tz112, ti113, ti114, tk114, tz114, ti115, tk115, ti116, ti117, ti118, ti119, ti120, ti121, ti122, ti124, ti125, ta125, ti126, ti128, ti129, ti130, ta130, ti131, ta131, ti132, ta132, ti133, ta133, ti134, ti140, ti144, fp13_0, fv13_0, fp13_1, fv13_1, fp24_0, fv24_0, fp25_0, fv25_0, fp27_0, fv27_0, fp28_0, fv28_0, fp34_0, fv34_0, fp34_1, fv34_1, fp34_2, fv34_2, fp34_3, fv34_3, fp34_4, fv34_4, fp35_0, fv35_0, fp35_1, fv35_1, fp35_2, fv35_2, fp35_3, fv35_3, fp35_4, fv35_4, fp66_0, fv66_0, fp66_1, fv66_1, fp67_0, fv67_0, fp67_1, fv67_1, fp83_0, fv83_0, fp83_1, fv83_1, fp84_0, fv84_0, fp84_1, fv84_1, lv22, ll22, is22, ix22, sh22, so22, sb22, sm22, sp22, lv23, ll23, is23, ix23, sh23, so23, sb23, sm23, sp23, lv26, ll26, is26, ix26, sh26, so26, sb26, sm26, sp26, lv37, ll37, is37, ix37, sh37, so37, sb37, sm37, sp37, lv101, ll101, is101, ix101, sh101, so101, sb101, sm101, sp101, xs9, ls9, sx9, sy9, sz9]

theorem c_walkB (n : Nat) (hN : n ≤ 1000000) (nx : Int → Int) (g : FuncId) (fs : List AV) (f : Int) (H : AHeap) (hf : f < n) (hnx : ∀ a : Int, 0 ≤ a → a < n → nx a < n)
    (hp : ∀ (a : Int) H, 0 ≤ a → a < n → ACalls Tryd.prog g (fs ++ [I a]) H fun r H' => r = I (nx a) ∧ H' = H) : ACalls Tryd.prog 49 [I f, .fn g fs []] H fun r H' => Grow rI 1 3 H H' r (walkF nx n f) := by
  refine acalls_of0 Tryd.func49 rfl (by kernel_rfl) rfl rfl (awp_sound (fz := fun _ => []) (im := fun s => s == 6 || s == 20) mixed _ _ _ _ (by kernel_rfl) ?_)
  simp +contextual -dsimp -implicitDefEqProofs (maxSteps := 5000000) only [go_sem, reduceIte, reduceCtorEq, Nat.reduceEqDiff, Nat.reduceBEq, Nat.reduceAdd, Nat.reduceLeDiff, Nat.reduceMul, Nat.reduceLT, Int.reduceEq, Int.reduceLT, Int.reduceLE]
  refine aloop mixed (fz := fun _ => []) (im := fun s => s == 6 || s == 20) (by kernel_rfl) (fun m tm H' => ∃ (out : List Int) (c : Int), c < n ∧ freeN n out < m ∧ out.length + m ≤ n + 1 ∧ tm 0 = I c ∧ tm 1 = .fn g fs [] ∧ Grow rI 1 3 H H' (tm 5) out ∧ walkG nx m out c = walkF nx n f) (n + 1) ⟨[], f, hf, ?_, ?_, ?_⟩ ?_
  · have := freeN_nil n; omega
  · simp
  · simp +contextual -dsimp -implicitDefEqProofs (maxSteps := 5000000) only [go_sem, reduceIte, reduceCtorEq, Nat.reduceEqDiff, Nat.reduceBEq, Nat.reduceAdd, Nat.reduceLeDiff, Nat.reduceMul, Nat.reduceLT, Int.reduceEq, Int.reduceLT, Int.reduceLE]
    exact ⟨grow_nil, rfl⟩
  · rintro m tm H' ⟨out, c, hc, hfr, hlen, h0, h1, hg, he⟩
    simp +contextual -dsimp -implicitDefEqProofs (maxSteps := 5000000) only [go_sem, reduceIte, reduceCtorEq, Nat.reduceEqDiff, Nat.reduceBEq, Nat.reduceAdd, Nat.reduceLeDiff, Nat.reduceMul, Nat.reduceLT, Int.reduceEq, Int.reduceLT, Int.reduceLE, h0, h1]
    have hm : m = (m - 1) + 1 := by omega
    rw [hm, walkG] at he
    have stop : ¬ (0 ≤ c ∧ (out.any fun x => decide (c = x)) = false) → out = walkF nx n f := fun h => by rw [if_neg h] at he; exact he
    refine ⟨fun h => ?_, fun h => ?_⟩
    · refine (c_ContainsG out _ c H H' hg).det ?_
      cases ha : out.any fun x => decide (c = x)
      · rw [if_pos ⟨h, ha⟩] at he
        simp +contextual -dsimp -implicitDefEqProofs (maxSteps := 5000000) only [go_sem, reduceIte, reduceCtorEq, Nat.reduceEqDiff, Nat.reduceBEq, Nat.reduceAdd, Nat.reduceLeDiff, Nat.reduceMul, Nat.reduceLT, Int.reduceEq, Int.reduceLT, Int.reduceLE, h0, h1, h]
        refine grow_append (m := [c]) te37 ti3 rI_len (by decide) hg (by simp; omega) (by simp; omega) rfl fun x' H'' hg' => ?_
        simp +contextual -dsimp -implicitDefEqProofs (maxSteps := 5000000) only [go_sem, reduceIte, reduceCtorEq, Nat.reduceEqDiff, Nat.reduceBEq, Nat.reduceAdd, Nat.reduceLeDiff, Nat.reduceMul, Nat.reduceLT, Int.reduceEq, Int.reduceLT, Int.reduceLE, h0, h1, h]
        refine ACalls.det (args := _) (by simpa using hp c H'' h hc) ?_
        simp +contextual -dsimp -implicitDefEqProofs (maxSteps := 5000000) only [go_sem, reduceIte, reduceCtorEq, Nat.reduceEqDiff, Nat.reduceBEq, Nat.reduceAdd, Nat.reduceLeDiff, Nat.reduceMul, Nat.reduceLT, Int.reduceEq, Int.reduceLT, Int.reduceLE, h0, h1, h]
        exact ⟨m - 1, by omega, out ++ [c], _, hnx c h hc, by have := freeN_lt h hc ha; omega, by simp; omega, rfl, hg', he⟩
      · simp +contextual -dsimp -implicitDefEqProofs (maxSteps := 5000000) only [go_sem, reduceIte, reduceCtorEq, Nat.reduceEqDiff, Nat.reduceBEq, Nat.reduceAdd, Nat.reduceLeDiff, Nat.reduceMul, Nat.reduceLT, Int.reduceEq, Int.reduceLT, Int.reduceLE, h0, h1, h]
        refine (c_ClipG out _ H H' hg).mono fun r H'' hg' => ?_
        simp +contextual -dsimp -implicitDefEqProofs (maxSteps := 5000000) only [go_sem, reduceIte, reduceCtorEq, Nat.reduceEqDiff, Nat.reduceBEq, Nat.reduceAdd, Nat.reduceLeDiff, Nat.reduceMul, Nat.reduceLT, Int.reduceEq, Int.reduceLT, Int.reduceLE, h0, h1, h]
        rw [← stop (fun q => by rw [ha] at q; cases q.2)]
        exact hg'
    · refine (c_ClipG out _ H H' hg).mono fun r H'' hg' => ?_
      simp +contextual -dsimp -implicitDefEqProofs (maxSteps := 5000000) only [go_sem, reduceIte, reduceCtorEq, Nat.reduceEqDiff, Nat.reduceBEq, Nat.reduceAdd, Nat.reduceLeDiff, Nat.reduceMul, Nat.reduceLT, Int.reduceEq, Int.reduceLT, Int.reduceLE, h0, h1, h]
      rw [← stop (fun q => h q.1)]
      exact hg'

/-- The sign behind a fault's text. -/
def signF (h : List Fault) (L : List Int) (i : Nat) : Str := if i + 1 < L.length then (if (h.getD (L.getD i default).toNat default).cause = L.getD (i + 1) default then [32, 62, 32] else [32, 126, 32]) else []
def pieceF (t : List Class) (h : List Fault) (L : List Int) (i : Nat) : Str := signF h L i ++ faultText t (h.getD (L.getD i default).toNat default).cls (h.getD (L.getD i default).toNat default).code
/-- The text of the last k faults of a chain, the last one first. -/
def textF (t : List Class) (h : List Fault) (L : List Int) : Nat → Str
  | 0 => []
  | k + 1 => textF t h L k ++ pieceF t h L (L.length - 1 - k)
def shownF (h : List Fault) (f : Int) : List Int := walkF (shownOf h) h.length f
theorem faultText_len {t : List Class} (hs : shortNames t) {c code : Int} (h0 : 0 ≤ c) (h1 : c < t.length) (h2 : 0 ≤ code) (h3 : code < 100) : (faultText t c code).length ≤ 13 := by
  have hd := digits_len h2 h3
  have hcn : c.toNat < t.length := by omega
  have hn : (t.getD c.toNat default).name.length ≤ 10 := hs _ (by rw [List.getD_eq_getElem?_getD, List.getElem?_eq_getElem hcn]; exact List.getElem_mem hcn)
  simp only [faultText, List.length_append, List.length_singleton]
  omega
theorem textF_len {t : List Class} {h : List Fault} {L : List Int} (hs : shortNames t) (hcl : ∀ k, k < h.length → 0 ≤ (h.getD k default).cls ∧ (h.getD k default).cls < t.length ∧ 0 ≤ (h.getD k default).code ∧ (h.getD k default).code < 100) (hL : ∀ a ∈ L, 0 ≤ a ∧ a < h.length) :
    ∀ k, k ≤ L.length → (textF t h L k).length ≤ 16 * k
  | 0, _ => by simp [textF]
  | k + 1, hk => by
    have ih := textF_len hs hcl hL k (by omega)
    have hi2 : L.length - 1 - k < L.length := by omega
    have hgm := hL (L.getD (L.length - 1 - k) default) (by rw [List.getD_eq_getElem?_getD, List.getElem?_eq_getElem hi2]; exact List.getElem_mem hi2)
    have hc := hcl (L.getD (L.length - 1 - k) default).toNat (by omega)
    have h1 := digits_len hc.2.2.1 hc.2.2.2
    have hcn : (h.getD (L.getD (L.length - 1 - k) default).toNat default).cls.toNat < t.length := by omega
    have h2 : (t.getD (h.getD (L.getD (L.length - 1 - k) default).toNat default).cls.toNat default).name.length ≤ 10 := hs _ (by rw [List.getD_eq_getElem?_getD, List.getElem?_eq_getElem hcn]; exact List.getElem_mem hcn)
    have h3 : (signF h L (L.length - 1 - k)).length ≤ 3 := by
      unfold signF
      split
      · split <;> simp
      · simp
    simp only [textF, pieceF, faultText, List.length_append, List.length_singleton]
    omega
theorem c_chainText (t : List Class) (cl : Bool) (h : List Fault) (cl' : Bool) (f : Int) (H : AHeap) (hl : h.length ≤ 1000) (hf0 : 0 ≤ f) (hf : f < h.length) (hlk : Links h) (hs : shortNames t)
    (hcl : ∀ k, k < h.length → 0 ≤ (h.getD k default).cls ∧ (h.getD k default).cls < t.length ∧ 0 ≤ (h.getD k default).code ∧ (h.getD k default).code < 100) :
    ACalls Tryd.prog 27 [aHeap h cl', aTree t cl, I f] H fun r H' => r = S (textF t h ((walkF (shownOf h) h.length f)) ((walkF (shownOf h) h.length f)).length) ∧ H' = H := by
  refine acalls_of1 Tryd.func27 rfl (by kernel_rfl) rfl rfl (awp_sound (fz := fun r => if r = 2 then [8] else []) (im := fun s => s == 3 || s == 4) mixed _ _ _ _ (by kernel_rfl) ?_)
  simp +contextual -dsimp -implicitDefEqProofs (maxSteps := 5000000) only [go_sem, reduceIte, reduceCtorEq, Nat.reduceEqDiff, Nat.reduceBEq, Nat.reduceAdd, Nat.reduceLeDiff, Nat.reduceMul, Nat.reduceLT, Int.reduceEq, Int.reduceLT, Int.reduceLE]
  intro b7 hb7
  have hwk := c_walkB h.length (by omega) (shownOf h) 50 [aHeap h cl'] f (H.set b7 ⟨1, 9, [[S []]]⟩) hf (fun a a0 a1 => by
    have := hlk a.toNat (by omega)
    unfold shownOf
    split
    · exact this.1
    · split
      · omega
      · exact this.2) (fun a H a0 a1 => c_shown h cl' a H a0 a1)
  refine acalls_frz hwk fun cl1 => ?_
  simp +contextual -dsimp -implicitDefEqProofs (maxSteps := 5000000) only [go_sem, reduceIte, reduceCtorEq, Nat.reduceEqDiff, Nat.reduceBEq, Nat.reduceAdd, Nat.reduceLeDiff, Nat.reduceMul, Nat.reduceLT, Int.reduceEq, Int.reduceLT, Int.reduceLE]
  intro b8 hb8
  have hLn : ((walkF (shownOf h) h.length f)).length ≤ 1001 := by
    have := walkG_len (shownOf h) (h.length + 1) [] f
    simp only [List.length_nil] at this
    unfold walkF
    omega
  have hLm : ∀ a ∈ (walkF (shownOf h) h.length f), 0 ≤ a ∧ a < h.length := by
    intro a ha
    have := walkG_mem (nx := shownOf h) (p := fun a => a < h.length) (fun a a0 a1 => by
      have := hlk a.toNat (by omega)
      unfold shownOf
      split
      · exact this.1
      · split
        · omega
        · exact this.2) (h.length + 1) [] f hf a ha
    simpa using this
  generalize hL : (walkF (shownOf h) h.length f) = L at hLn hLm ⊢
  refine (c_BackInt L cl1 _).det ?_
  simp +contextual -dsimp -implicitDefEqProofs (maxSteps := 5000000) only [go_sem, reduceIte, reduceCtorEq, Nat.reduceEqDiff, Nat.reduceBEq, Nat.reduceAdd, Nat.reduceLeDiff, Nat.reduceMul, Nat.reduceLT, Int.reduceEq, Int.reduceLT, Int.reduceLE]
  refine sim_rangeFunc (caps := [.vptr [[.vsl (L.map rI) cl1]] 0 0]) (by simp only [go_sem, reduceIte, reduceCtorEq, Nat.reduceEqDiff, Nat.reduceBEq, Nat.reduceAdd, Nat.reduceLeDiff, Nat.reduceMul, Nat.reduceLT, Int.reduceEq, Int.reduceLT, Int.reduceLE]) (it_backInt L cl1 (by omega)) (by decide) backL_len
    (fun k H' => H' = H.set b7 ⟨1, 9, [[S (textF t h L k)]]⟩) (fun _ _ => False) rfl ?_ ?_ (fun _ h => h.elim) (fun _ _ h => h.elim)
  · rintro k x' H' lp hx' rfl
    obtain ⟨hkl, rfl⟩ := backL_get hx'
    have hi2 : L.length - 1 - k < L.length := by omega
    refine awp_soundAt (fz := fun r => if r = 6 then [11] else []) (im := fun s => s == 3 || s == 4) mixed _ _ _ _ (by kernel_rfl) (.inr (by kernel_rfl)) ?_
    simp +contextual -dsimp -implicitDefEqProofs (maxSteps := 5000000) only [go_sem, reduceIte, reduceCtorEq, Nat.reduceEqDiff, Nat.reduceBEq, Nat.reduceAdd, Nat.reduceLeDiff, Nat.reduceMul, Nat.reduceLT, Int.reduceEq, Int.reduceLT, Int.reduceLE]
    have hgm := hLm (L.getD (L.length - 1 - k) default) (by rw [List.getD_eq_getElem?_getD, List.getElem?_eq_getElem hi2]; exact List.getElem_mem hi2)
    have hgn : (L.getD (L.length - 1 - k) default).toNat < h.length := by omega
    have hc := hcl _ hgn
    have hw1 : IntKind.i64.wrap ((L.length : Int) - 1) = (L.length : Int) - 1 := by
      have := I_wrap (a := (L.length : Int) - 1) rfl (by omega) (by omega)
      injection this with q
      injection q
    have hw2 : IntKind.i64.wrap ((L.length : Int) - 1 - k + 1) = (L.length : Int) - k := by
      have := I_wrap (a := (L.length : Int) - 1 - k + 1) (b := (L.length : Int) - k) (by omega) (by omega) (by omega)
      injection this with q
      injection q
    refine awp_soundAt (fz := fun r => if r = 6 then [11] else []) (im := fun s => s == 3 || s == 4) mixed _ _ _ _ (by kernel_rfl) (.inr (by kernel_rfl)) ?_
    simp +contextual -dsimp -implicitDefEqProofs (maxSteps := 5000000) only [go_sem, reduceIte, reduceCtorEq, Nat.reduceEqDiff, Nat.reduceBEq, Nat.reduceAdd, Nat.reduceLeDiff, Nat.reduceMul, Nat.reduceLT, Int.reduceEq, Int.reduceLT, Int.reduceLE, hgm, hgn, hw1, hw2]
    intro b11 hb11
    by_cases k0 : 0 < k
    · have c1 : (L.length : Int) - 1 - k < (L.length : Int) - 1 := by omega
      have c2 : (0 : Int) ≤ (L.length : Int) - k := by omega
      have c3 : (L.length : Int) - k < (L.length : Int) := by omega
      have c4 : ((L.length : Int) - k).toNat = L.length - k := by omega
      have c5 : L.length - k < L.length := by omega
      have tl := textF_len hs hcl hLm k (by omega)
      simp +contextual -dsimp -implicitDefEqProofs (maxSteps := 5000000) only [go_sem, reduceIte, reduceCtorEq, Nat.reduceEqDiff, Nat.reduceBEq, Nat.reduceAdd, Nat.reduceLeDiff, Nat.reduceMul, Nat.reduceLT, Int.reduceEq, Int.reduceLT, Int.reduceLE, hgm, hgn, hw1, hw2, c1]
      refine draw_intro [0, 0, 0, 0, 0, 0, 0, 0] AHeap.none (by kernel_rfl) none_le ?_
      simp +contextual -dsimp -implicitDefEqProofs (maxSteps := 5000000) only [go_sem, reduceIte, reduceCtorEq, Nat.reduceEqDiff, Nat.reduceBEq, Nat.reduceAdd, Nat.reduceLeDiff, Nat.reduceMul, Nat.reduceLT, Int.reduceEq, Int.reduceLT, Int.reduceLE, hgm, hgn, hw1, hw2, c1, c2, c3, c4, c5]
      refine ⟨fun e => ⟨by omega, ?_⟩, fun e => ⟨by omega, ?_⟩⟩
      · skip
        refine draw_intro [1, 0, 0, 0, 0, 0, 3, 0, 2] _ (by kernel_rfl) (AHeap.le_refl _) ?_
        simp +contextual -dsimp -implicitDefEqProofs (maxSteps := 5000000) only [go_sem, reduceIte, reduceCtorEq, Nat.reduceEqDiff, Nat.reduceBEq, Nat.reduceAdd, Nat.reduceLeDiff, Nat.reduceMul, Nat.reduceLT, Int.reduceEq, Int.reduceLT, Int.reduceLE, hgm, hgn, hw1, hw2, c1]
        refine (c_faultText t cl _ _ _ hc.1 hc.2.1 hc.2.2.1 hc.2.2.2 hs).det ?_
        refine ⟨AHeap.le_refl _, ?_⟩
        simp +contextual -dsimp -implicitDefEqProofs (maxSteps := 5000000) only [go_sem, reduceIte, reduceCtorEq, Nat.reduceEqDiff, Nat.reduceBEq, Nat.reduceAdd, Nat.reduceLeDiff, Nat.reduceMul, Nat.reduceLT, Int.reduceEq, Int.reduceLT, Int.reduceLE, hgm, hgn, hw1, hw2, c1]
        have ek : L.length - 1 - k + 1 = L.length - k := by omega
        have hsg : signF h L (L.length - 1 - k) = [32, 62, 32] := by
          unfold signF
          rw [if_pos (by omega), ek, if_pos e]
        have hft := faultText_len hs hc.1 hc.2.1 hc.2.2.1 hc.2.2.2
        refine ⟨by first | omega | (simp only [List.length_append, List.length_cons, List.length_nil]; omega), ?_⟩
        have htx : textF t h L (k + 1) = textF t h L k ++ [32, 62, 32] ++ faultText t (h.getD (L.getD (L.length - 1 - k) default).toNat default).cls (h.getD (L.getD (L.length - 1 - k) default).toNat default).code := by
          simp only [textF, pieceF, hsg, List.append_assoc, List.nil_append]
        rw [htx]
      · skip
        refine draw_intro [1, 0, 0, 0, 0, 0, 3, 0, 2] _ (by kernel_rfl) (AHeap.le_refl _) ?_
        simp +contextual -dsimp -implicitDefEqProofs (maxSteps := 5000000) only [go_sem, reduceIte, reduceCtorEq, Nat.reduceEqDiff, Nat.reduceBEq, Nat.reduceAdd, Nat.reduceLeDiff, Nat.reduceMul, Nat.reduceLT, Int.reduceEq, Int.reduceLT, Int.reduceLE, hgm, hgn, hw1, hw2, c1]
        refine (c_faultText t cl _ _ _ hc.1 hc.2.1 hc.2.2.1 hc.2.2.2 hs).det ?_
        refine ⟨AHeap.le_refl _, ?_⟩
        simp +contextual -dsimp -implicitDefEqProofs (maxSteps := 5000000) only [go_sem, reduceIte, reduceCtorEq, Nat.reduceEqDiff, Nat.reduceBEq, Nat.reduceAdd, Nat.reduceLeDiff, Nat.reduceMul, Nat.reduceLT, Int.reduceEq, Int.reduceLT, Int.reduceLE, hgm, hgn, hw1, hw2, c1]
        have ek : L.length - 1 - k + 1 = L.length - k := by omega
        have hsg : signF h L (L.length - 1 - k) = [32, 126, 32] := by
          unfold signF
          rw [if_pos (by omega), ek, if_neg e]
        have hft := faultText_len hs hc.1 hc.2.1 hc.2.2.1 hc.2.2.2
        refine ⟨by first | omega | (simp only [List.length_append, List.length_cons, List.length_nil]; omega), ?_⟩
        have htx : textF t h L (k + 1) = textF t h L k ++ [32, 126, 32] ++ faultText t (h.getD (L.getD (L.length - 1 - k) default).toNat default).cls (h.getD (L.getD (L.length - 1 - k) default).toNat default).code := by
          simp only [textF, pieceF, hsg, List.append_assoc, List.nil_append]
        rw [htx]
    · have c1 : ¬ (L.length : Int) - 1 - k < (L.length : Int) - 1 := by omega
      have tl := textF_len hs hcl hLm k (by omega)
      simp +contextual -dsimp -implicitDefEqProofs (maxSteps := 5000000) only [go_sem, reduceIte, reduceCtorEq, Nat.reduceEqDiff, Nat.reduceBEq, Nat.reduceAdd, Nat.reduceLeDiff, Nat.reduceMul, Nat.reduceLT, Int.reduceEq, Int.reduceLT, Int.reduceLE, hgm, hgn, hw1, hw2, c1]
      refine draw_intro [1, 0, 0, 0, 0, 0, 3, 0, 2] _ (by kernel_rfl) (AHeap.le_refl _) ?_
      simp +contextual -dsimp -implicitDefEqProofs (maxSteps := 5000000) only [go_sem, reduceIte, reduceCtorEq, Nat.reduceEqDiff, Nat.reduceBEq, Nat.reduceAdd, Nat.reduceLeDiff, Nat.reduceMul, Nat.reduceLT, Int.reduceEq, Int.reduceLT, Int.reduceLE, hgm, hgn, hw1, hw2, c1]
      refine (c_faultText t cl _ _ _ hc.1 hc.2.1 hc.2.2.1 hc.2.2.2 hs).det ?_
      refine ⟨AHeap.le_refl _, ?_⟩
      simp +contextual -dsimp -implicitDefEqProofs (maxSteps := 5000000) only [go_sem, reduceIte, reduceCtorEq, Nat.reduceEqDiff, Nat.reduceBEq, Nat.reduceAdd, Nat.reduceLeDiff, Nat.reduceMul, Nat.reduceLT, Int.reduceEq, Int.reduceLT, Int.reduceLE, hgm, hgn, hw1, hw2, c1]
      have ek : L.length - 1 - k + 1 = L.length - k := by omega
      have hsg : signF h L (L.length - 1 - k) = [] := by
        unfold signF
        rw [if_neg (by omega)]
      have hft := faultText_len hs hc.1 hc.2.1 hc.2.2.1 hc.2.2.2
      refine ⟨by first | omega | (simp only [List.length_append, List.length_cons, List.length_nil]; omega), ?_⟩
      have htx : textF t h L (k + 1) = textF t h L k  ++ faultText t (h.getD (L.getD (L.length - 1 - k) default).toNat default).cls (h.getD (L.getD (L.length - 1 - k) default).toNat default).code := by
        simp only [textF, pieceF, hsg, List.append_assoc, List.nil_append]
      rw [htx]
  · rintro H' rfl
    rw [backL_length]
    simp +contextual -dsimp -implicitDefEqProofs (maxSteps := 5000000) only [go_sem, reduceIte, reduceCtorEq, Nat.reduceEqDiff, Nat.reduceBEq, Nat.reduceAdd, Nat.reduceLeDiff, Nat.reduceMul, Nat.reduceLT, Int.reduceEq, Int.reduceLT, Int.reduceLE]
    refine retR_less (l := [S (textF t h L L.length)]) (H' := H) ?_ (le_set hb7) ⟨rfl, rfl⟩
    simp only [resA, go_sem, reduceIte, reduceCtorEq, Nat.reduceEqDiff, Nat.reduceBEq, Nat.reduceAdd, Nat.reduceLeDiff, Nat.reduceMul, Nat.reduceLT, Int.reduceEq, Int.reduceLT, Int.reduceLE]
end Go.Proofs.YtihjbbiajggcoaaDoor
end
section
set_option linter.unusedVariables false
set_option linter.unusedSimpArgs false
namespace Go.Proofs.YtihjbbiajggcoaaDoor
open Go Go.Sim
set_option maxRecDepth 100000
attribute [local go_sem ↓] aw_skip aw_ret aw_exit aw_region aw_draw aw_seq aw_block aw_loop aw_cond frz_nil frz_cons sq_normal sq_ret sq_exit exB_normal exB_ret exB_same exB_other retQ_ret retQ_normal ret0_ret ret0_normal ao_nil go1 g_move g_assign g_pick g_build g_load g_binOp g_unOp g_convert g_fieldAddr g_field g_indexAddr g_index g_extract g_slice g_nilCheck g_len g_makeFunc h_call h_append h_alloc h_box h_buildSlice h_makeSlice h_store gV i_box i_buildSlice i_move i_assign i_build i_load i_binOp i_unOp i_convert i_fieldAddr i_field i_indexAddr i_index i_extract i_slice i_nilCheck i_makeFunc i_len i_max i_min i_alloc i_makeSlice i_store i_append i_call i_pick boxI boxA buildSliceI buildSliceA makeSliceA allocA storeA p_move p_assign p_pick p_build p_load p_binOp p_unOp p_convert p_fieldAddr p_field p_indexAddr p_index p_extract p_slice p_nilCheck p_makeFunc p_len p_max p_min p_alloc p_box p_buildSlice p_makeSlice p_store p_append p_call x_nil x_go1 x_g0 x_g1 x_g2 x_g3 x_s0 x_s1 x_s2 x_s3 u_move u_assign u_pick u_build u_load u_binOp u_unOp u_convert u_fieldAddr u_field u_indexAddr u_index u_extract u_slice u_nilCheck u_makeFunc u_len u_buildSlice x_s4 x_g4 rq_normal rq_ret rq_exit aw_range
attribute [local go_sem] frzV_sl frzK_some set_none set_other AHeap.set_self set_del set_set cnd_t cnd_f cnd_b retA_one retA_two retA_three retA_four retA_nil gIf_b mrgV_b mrgV_wh mrgV_U gIf_U gIf_wh mrgB_f mrgB_some mrgB_if wh_true wh_false keepA_some keepA_if gD_zero gD_succ gT_some bxA_t bxA_f callA_fn ev_tmp ev_const ev_global ev_func oc_bool oc_int oc_string oc_nil oc_nilptr oc_nilfunc cl_bool cl_int cl_string cl_nil updO_some updO_none upd_same upd_other init_at pickA_b pickA_wh selA_t selA_f selA_and selA_or selA_orn selA_orm selA_bb selA_ii beqt b_add b_sub b_mul b_and b_or b_xor b_eql b_neq b_lss b_leq b_gtr b_geq b_quo b_rem b_shr b_seql b_sneq b_sadd b_beql b_bneq b_aeql b_aneq u_not u_neg isConstOp eqA eqCellV List.getD_cons_zero List.getD_cons_succ List.map_cons List.map_nil List.nil_append List.cons_append List.append_nil if_true if_false Option.map_some Option.map_none ne_eq not_false_eq_true oneA ldv ld1v ld1s wr1s ldRow stRow row_lit row_agg row_vsl row_sl row_ptr row_fn one_I one_B one_S one_vsl one_sl one_ptr one_fn extractA okA rI rS rU rClass rFault rExit rStart rLine Int.toNat_natCast List.length_cons List.length_nil List.length_map List.all_cons List.all_nil Bool.and_true Nat.zero_add List.getElem?_cons_zero List.getElem?_cons_succ List.take_succ_cons List.take_zero List.drop_succ_cons List.drop_zero and_self true_and and_true implies_true decide_eq_true_eq decide_eq_false_iff_not Bool.or_eq_true Bool.or_eq_false_iff Bool.and_eq_true Bool.not_eq_true' Bool.not_eq_false' beq_false decide_true decide_false Int.ofNat_lt Int.ofNat_le Int.natCast_nonneg Bool.or_true Bool.or_false Bool.true_or Bool.false_or beq_self_eq_true List.drop_one Bool.not_true Bool.not_false Bool.not_not Bool.false_eq_true Bool.true_eq_false false_implies true_implies Bool.true_and Bool.false_and Bool.and_false not_true_eq_false Int.natCast_eq_zero Int.natCast_pos Int.natCast_zero false_and and_false or_false false_or or_true true_or Bool.or_self none_le_iff List.replicate_zero Int.toNat_zero List.replicate_succ buildRows List.set_cons_zero List.set_cons_succ List.set_nil List.mapM_nil maxLen_eq Nat.zero_le Nat.mul_one Nat.one_mul bldA fillA spliceA List.take_nil List.drop_nil List.getElem?_nil ld1o wr1o bldSliceA le_same cv_i cvI_t quietT_fn qvd_some ld_o ldO_1 ldO_l wr_o wrO_1 set_2 set_3 set_4 putL_nil putL_cons List.zip_cons_cons List.zip_nil_left List.zip_nil_right List.toList_toArray frzV_set ti1 ti2 tk2 ti3 te3 ts3 tk3 tz3 ti4 tb4 ti5 tk5 tz5 ti9 te9 ts9 tk9 tz9 ti12 tk12 ti13 tp13 tf13_0 tf13_1 ti20 ti21 tk21 tz21 ti22 te22 tz22 ti23 te23 ti24 tp24 tf24_0 ti25 tp25 tf25_0 ti26 te26 ti27 tp27 tf27_0 ti28 tp28 tf28_0 ti30 ti32 ti33 ti34 tq34 tp34 tf34_0 tf34_1 tf34_2 tf34_3 tf34_4 ti35 tq35 tp35 tf35_0 tf35_1 tf35_2 tf35_3 tf35_4 ti36 ti37 te37 ti38 ti39 ti40 ti42 ti44 ti45 ti46 ti47 ti48 ti49 ti50 ti51 ti52 ti53 ti54 ti55 ti56 ti57 ti58 ti59 ti60 ti61 ti62 ti64 ti65 ti66 tp66 tf66_0 tf66_1 ti67 tp67 tf67_0 tf67_1 ti68 ti69 ti70 ti71 ti72 ti73 ti74 ti75 ti76 ti77 ti78 ti79 ti80 ti81 ti82 ti83 tq83 tp83 tf83_0 tf83_1 ti84 tq84 tp84 tf84_0 tf84_1 ti85 ti86 ti87 ti88 ti89 ti90 ti91 ti92 ti93 ti94 ti95 ti96 tk96 tz96 ti97 ti98 ti99 ti100 ti101 te101 ti102 ti103 ti104 tk104 ti106 ti107 ti108 ti110 ti111 ti112 tk112 tz112 ti113 ti114 tk114 tz114 ti115 tk115 ti116 ti117 ti118 ti119 ti120 ti121 ti122 ti124 ti125 ta125 ti126 ti128 ti129 ti130 ta130 ti131 ta131 ti132 ta132 ti133 ta133 ti134 ti140 ti144 fp13_0 fv13_0 fp13_1 fv13_1 fp24_0 fv24_0 fp25_0 fv25_0 fp27_0 fv27_0 fp28_0 fv28_0 fp34_0 fv34_0 fp34_1 fv34_1 fp34_2 fv34_2 fp34_3 fv34_3 fp34_4 fv34_4 fp35_0 fv35_0 fp35_1 fv35_1 fp35_2 fv35_2 fp35_3 fv35_3 fp35_4 fv35_4 fp66_0 fv66_0 fp66_1 fv66_1 fp67_0 fv67_0 fp67_1 fv67_1 fp83_0 fv83_0 fp83_1 fv83_1 fp84_0 fv84_0 fp84_1 fv84_1 lv22 ll22 is22 ix22 sh22 so22 sb22 sm22 sp22 lv23 ll23 is23 ix23 sh23 so23 sb23 sm23 sp23 lv26 ll26 is26 ix26 sh26 so26 sb26 sm26 sp26 lv37 ll37 is37 ix37 sh37 so37 sb37 sm37 sp37 lv101 ll101 is101 ix101 sh101 so101 sb101 sm101 sp101 xs9 ls9 sx9 sy9 sz9

theorem validH_all {t : List Class} {h : List Fault} (hv : validH t h = true) : (List.range h.length).all (faultOk t h) = true ∧ (List.range h.length).all (lastOk h) = true ∧ validT t = true ∧ h.length ≤ 24 := by
  simpa only [validH, Bool.and_eq_true, decide_eq_true_eq] using hv
theorem validH_links {t : List Class} {h : List Fault} (hv : validH t h = true) : Links h := fun k hk => by
  have := faultOk_links (validH_all hv).1 k hk
  exact ⟨this.2.2.2, this.2.1⟩
theorem validH_calm {t : List Class} {h : List Fault} (hv : validH t h = true) : Calm h :=
  ⟨fun k hk => by have := faultOk_links (validH_all hv).1 k hk; exact ⟨this.1, this.2.1⟩, fun k hk => (List.all_eq_true.1 (validH_all hv).2.1) k (by simp [hk])⟩
theorem validH_cls {t : List Class} {h : List Fault} (hv : validH t h = true) : ∀ k, k < h.length → 0 ≤ (h.getD k default).cls ∧ (h.getD k default).cls < t.length ∧ 0 ≤ (h.getD k default).code ∧ (h.getD k default).code < 100 := fun k hk => by
  have := (List.all_eq_true.1 (validH_all hv).1) k (by simp [hk])
  simp only [faultOk, hasF, inR, Bool.and_eq_true, decide_eq_true_eq] at this
  omega
theorem inR_len {f : Int} {n : Nat} : inR f 0 (n - 1) = true ↔ 0 ≤ f ∧ f < n := by
  simp only [inR, Bool.and_eq_true, decide_eq_true_eq]; omega
def chainTextF (t : List Class) (h : List Fault) (f : Int) : Str := if (validH t h && inR f 0 (h.length - 1)) = true then textF t h (walkF (shownOf h) h.length f) (walkF (shownOf h) h.length f).length else []
theorem c_ChainText (t : List Class) (cl : Bool) (h : List Fault) (cl' : Bool) (f : Int) (H : AHeap) (hs : shortNames t) (hl : h.length ≤ 1000) : ACalls Tryd.prog 12 [aTree t cl, aHeap h cl', I f] H fun r H' => r = S (chainTextF t h f) ∧ H' = H := by
  refine acalls_of0 Tryd.func12 rfl (by kernel_rfl) rfl rfl (awp_sound (fz := fun _ => []) (im := fun s => s == 3 || s == 4 || s == 10) mixed _ _ _ _ (by kernel_rfl) ?_)
  simp +contextual -dsimp -implicitDefEqProofs (maxSteps := 5000000) only [go_sem, reduceIte, reduceCtorEq, Nat.reduceEqDiff, Nat.reduceBEq, Nat.reduceAdd, Nat.reduceLeDiff, Nat.reduceMul, Nat.reduceLT, Int.reduceEq, Int.reduceLT, Int.reduceLE]
  refine (c_faultsIn t cl h cl' [f] true _ (short_ok hs) (by omega)).det ?_
  simp only [List.all_cons, List.all_nil, Bool.and_true]
  cases hv : validH t h && inR f 0 (h.length - 1)
  · simp +contextual -dsimp -implicitDefEqProofs (maxSteps := 5000000) only [go_sem, reduceIte, reduceCtorEq, Nat.reduceEqDiff, Nat.reduceBEq, Nat.reduceAdd, Nat.reduceLeDiff, Nat.reduceMul, Nat.reduceLT, Int.reduceEq, Int.reduceLT, Int.reduceLE]
    simp [chainTextF, hv]
  · simp +contextual -dsimp -implicitDefEqProofs (maxSteps := 5000000) only [go_sem, reduceIte, reduceCtorEq, Nat.reduceEqDiff, Nat.reduceBEq, Nat.reduceAdd, Nat.reduceLeDiff, Nat.reduceMul, Nat.reduceLT, Int.reduceEq, Int.reduceLT, Int.reduceLE]
    have hv2 := hv
    rw [Bool.and_eq_true] at hv2
    have hf := inR_len.1 hv2.2
    refine (c_chainText t cl h cl' f _ hl hf.1 hf.2 (validH_links hv2.1) hs (validH_cls hv2.1)).det ?_
    simp +contextual -dsimp -implicitDefEqProofs (maxSteps := 5000000) only [go_sem, reduceIte, reduceCtorEq, Nat.reduceEqDiff, Nat.reduceBEq, Nat.reduceAdd, Nat.reduceLeDiff, Nat.reduceMul, Nat.reduceLT, Int.reduceEq, Int.reduceLT, Int.reduceLE]
    rw [chainTextF, if_pos hv]
theorem c_ReachOf (t : List Class) (cl : Bool) (h : List Fault) (cl' : Bool) (f : Int) (H : AHeap) (hs : shortNames t) (hl : h.length ≤ 1000) : ACalls Tryd.prog 10 [aTree t cl, aHeap h cl', I f] H fun r H' => Grow rI 1 3 H H' r (if (validH t h && inR f 0 (h.length - 1)) = true then sortI (bfsF h f) else []) := by
  refine acalls_of0 Tryd.func10 rfl (by kernel_rfl) rfl rfl (awp_sound (fz := fun _ => []) (im := fun s => s == 3 || s == 4 || s == 10) mixed _ _ _ _ (by kernel_rfl) ?_)
  simp +contextual -dsimp -implicitDefEqProofs (maxSteps := 5000000) only [go_sem, reduceIte, reduceCtorEq, Nat.reduceEqDiff, Nat.reduceBEq, Nat.reduceAdd, Nat.reduceLeDiff, Nat.reduceMul, Nat.reduceLT, Int.reduceEq, Int.reduceLT, Int.reduceLE]
  refine (c_faultsIn t cl h cl' [f] true _ (short_ok hs) (by omega)).det ?_
  simp only [List.all_cons, List.all_nil, Bool.and_true]
  cases hv : validH t h && inR f 0 (h.length - 1)
  · simp +contextual -dsimp -implicitDefEqProofs (maxSteps := 5000000) only [go_sem, reduceIte, reduceCtorEq, Nat.reduceEqDiff, Nat.reduceBEq, Nat.reduceAdd, Nat.reduceLeDiff, Nat.reduceMul, Nat.reduceLT, Int.reduceEq, Int.reduceLT, Int.reduceLE]
    exact grow_nil
  · simp +contextual -dsimp -implicitDefEqProofs (maxSteps := 5000000) only [go_sem, reduceIte, reduceCtorEq, Nat.reduceEqDiff, Nat.reduceBEq, Nat.reduceAdd, Nat.reduceLeDiff, Nat.reduceMul, Nat.reduceLT, Int.reduceEq, Int.reduceLT, Int.reduceLE]
    have hv2 := hv
    rw [Bool.and_eq_true] at hv2
    have hf := inR_len.1 hv2.2
    refine (c_mreach h cl' f _ (by omega) hf.1 hf.2 (validH_links hv2.1)).mono fun r H' hg => ?_
    simp +contextual -dsimp -implicitDefEqProofs (maxSteps := 5000000) only [go_sem, reduceIte, reduceCtorEq, Nat.reduceEqDiff, Nat.reduceBEq, Nat.reduceAdd, Nat.reduceLeDiff, Nat.reduceMul, Nat.reduceLT, Int.reduceEq, Int.reduceLT, Int.reduceLE]
    exact hg
/-- A fault with all that it reaches, and its number there. -/
def isoF (t : List Class) (h : List Fault) (f : Int) : List Fault × Int := if (validH t h && inR f 0 (h.length - 1)) = true then (isoL h (sortI (bfsF h f)), idxF (fun x => decide (f = x)) (sortI (bfsF h f))) else ([], -1)
theorem c_mIsolateFault (t : List Class) (cl : Bool) (h : List Fault) (cl' : Bool) (f : Int) (H : AHeap) (hs : shortNames t) (hl : h.length ≤ 1000) : ACalls Tryd.prog 14 [aTree t cl, aHeap h cl', I f] H fun r H' => (∃ c, r = .tup [aHeap (isoF t h f).1 c, I (isoF t h f).2]) ∧ H' = H := by
  refine acalls_of1 Tryd.func14 rfl (by kernel_rfl) rfl rfl (awp_sound (fz := fun _ => []) (im := fun s => s == 3 || s == 4 || s == 11) mixed _ _ _ _ (by kernel_rfl) ?_)
  simp +contextual -dsimp -implicitDefEqProofs (maxSteps := 5000000) only [go_sem, reduceIte, reduceCtorEq, Nat.reduceEqDiff, Nat.reduceBEq, Nat.reduceAdd, Nat.reduceLeDiff, Nat.reduceMul, Nat.reduceLT, Int.reduceEq, Int.reduceLT, Int.reduceLE]
  intro b6 hb6
  refine (c_faultsIn t cl h cl' [f] true _ (short_ok hs) (by omega)).det ?_
  simp only [List.all_cons, List.all_nil, Bool.and_true]
  cases hv : validH t h && inR f 0 (h.length - 1)
  · simp +contextual -dsimp -implicitDefEqProofs (maxSteps := 5000000) only [go_sem, reduceIte, reduceCtorEq, Nat.reduceEqDiff, Nat.reduceBEq, Nat.reduceAdd, Nat.reduceLeDiff, Nat.reduceMul, Nat.reduceLT, Int.reduceEq, Int.reduceLT, Int.reduceLE]
    refine retR_less (l := [aHeap [] true, I (-1)]) (H' := H) ?_ (le_set hb6) ⟨⟨true, by rw [isoF, if_neg (by rw [hv]; decide)]; rfl⟩, rfl⟩
    simp only [resA, go_sem, reduceIte, reduceCtorEq, Nat.reduceEqDiff, Nat.reduceBEq, Nat.reduceAdd, Nat.reduceLeDiff, Nat.reduceMul, Nat.reduceLT, Int.reduceEq, Int.reduceLT, Int.reduceLE]
    rfl
  · simp +contextual -dsimp -implicitDefEqProofs (maxSteps := 5000000) only [go_sem, reduceIte, reduceCtorEq, Nat.reduceEqDiff, Nat.reduceBEq, Nat.reduceAdd, Nat.reduceLeDiff, Nat.reduceMul, Nat.reduceLT, Int.reduceEq, Int.reduceLT, Int.reduceLE]
    have hv2 := hv
    rw [Bool.and_eq_true] at hv2
    have hf := inR_len.1 hv2.2
    have hn := bfsF_nums (validH_links hv2.1) hf.1 hf.2
    refine (c_misolate h cl' f _ (by omega) hf.1 hf.2 (validH_links hv2.1) (fun a ha => hn.mem a (sortI_mem.1 ha)) (by rw [sortI_len]; have := hn.free; omega)).mono ?_
    rintro _ _ ⟨⟨c, rfl⟩, rfl⟩
    simp +contextual -dsimp -implicitDefEqProofs (maxSteps := 5000000) only [go_sem, reduceIte, reduceCtorEq, Nat.reduceEqDiff, Nat.reduceBEq, Nat.reduceAdd, Nat.reduceLeDiff, Nat.reduceMul, Nat.reduceLT, Int.reduceEq, Int.reduceLT, Int.reduceLE]
    refine retR_less (l := [aHeap (isoF t h f).1 c, I (isoF t h f).2]) (H' := H) ?_ (le_set hb6) ⟨⟨c, rfl⟩, rfl⟩
    rw [isoF, if_pos hv]
    simp only [resA, go_sem, reduceIte, reduceCtorEq, Nat.reduceEqDiff, Nat.reduceBEq, Nat.reduceAdd, Nat.reduceLeDiff, Nat.reduceMul, Nat.reduceLT, Int.reduceEq, Int.reduceLT, Int.reduceLE]
theorem c_sIsolateFault (t : List Class) (cl : Bool) (h : List Fault) (cl' : Bool) (f : Int) (H : AHeap) (hs : shortNames t) (hl : h.length ≤ 1000) : ACalls Tryd.prog 15 [aTree t cl, aHeap h cl', I f] H fun r H' => (∃ c, r = .tup [aHeap (isoF t h f).1 c, I (isoF t h f).2]) ∧ H' = H := by
  refine acalls_of1 Tryd.func15 rfl (by kernel_rfl) rfl rfl (awp_sound (fz := fun _ => []) (im := fun s => s == 3 || s == 4) mixed _ _ _ _ (by kernel_rfl) ?_)
  simp +contextual -dsimp -implicitDefEqProofs (maxSteps := 5000000) only [go_sem, reduceIte, reduceCtorEq, Nat.reduceEqDiff, Nat.reduceBEq, Nat.reduceAdd, Nat.reduceLeDiff, Nat.reduceMul, Nat.reduceLT, Int.reduceEq, Int.reduceLT, Int.reduceLE]
  intro b6 hb6
  refine (c_goodFault t cl h cl' f _ (short_ok hs) (by omega)).det ?_
  cases hv : validH t h && inR f 0 (h.length - 1)
  · simp +contextual -dsimp -implicitDefEqProofs (maxSteps := 5000000) only [go_sem, reduceIte, reduceCtorEq, Nat.reduceEqDiff, Nat.reduceBEq, Nat.reduceAdd, Nat.reduceLeDiff, Nat.reduceMul, Nat.reduceLT, Int.reduceEq, Int.reduceLT, Int.reduceLE]
    refine retR_less (l := [aHeap [] true, I (-1)]) (H' := H) ?_ (le_set hb6) ⟨⟨true, by rw [isoF, if_neg (by rw [hv]; decide)]; rfl⟩, rfl⟩
    simp only [resA, go_sem, reduceIte, reduceCtorEq, Nat.reduceEqDiff, Nat.reduceBEq, Nat.reduceAdd, Nat.reduceLeDiff, Nat.reduceMul, Nat.reduceLT, Int.reduceEq, Int.reduceLT, Int.reduceLE]
    rfl
  · simp +contextual -dsimp -implicitDefEqProofs (maxSteps := 5000000) only [go_sem, reduceIte, reduceCtorEq, Nat.reduceEqDiff, Nat.reduceBEq, Nat.reduceAdd, Nat.reduceLeDiff, Nat.reduceMul, Nat.reduceLT, Int.reduceEq, Int.reduceLT, Int.reduceLE]
    have hv2 := hv
    rw [Bool.and_eq_true] at hv2
    have hf := inR_len.1 hv2.2
    have hlk := validH_links hv2.1
    have hn := (dfsG_nums hlk (h.length + 1) f [] hf.2 (Nums.nil _)).1
    have hlen : (dfsF h f).length ≤ h.length := by have := hn.free; unfold dfsF; omega
    refine (c_isolatedG h cl' f _ (by omega) hlk hf.2 (fun a ha => hn.mem a (sortedF_mem ha)) ⟨by omega, by have := sortedF_len (dfsF h f); omega⟩).mono ?_
    rintro _ _ ⟨⟨c, rfl⟩, rfl⟩
    simp +contextual -dsimp -implicitDefEqProofs (maxSteps := 5000000) only [go_sem, reduceIte, reduceCtorEq, Nat.reduceEqDiff, Nat.reduceBEq, Nat.reduceAdd, Nat.reduceLeDiff, Nat.reduceMul, Nat.reduceLT, Int.reduceEq, Int.reduceLT, Int.reduceLE]
    refine retR_less (l := [aHeap (isoF t h f).1 c, I (isoF t h f).2]) (H' := H) ?_ (le_set hb6) ⟨⟨c, rfl⟩, rfl⟩
    rw [isoF, if_pos hv, reach_same hlk hf.1 hf.2]
    simp only [resA, go_sem, reduceIte, reduceCtorEq, Nat.reduceEqDiff, Nat.reduceBEq, Nat.reduceAdd, Nat.reduceLeDiff, Nat.reduceMul, Nat.reduceLT, Int.reduceEq, Int.reduceLT, Int.reduceLE]
end Go.Proofs.YtihjbbiajggcoaaDoor
end
section
set_option linter.unusedVariables false
set_option linter.unusedSimpArgs false
namespace Go.Proofs.YtihjbbiajggcoaaDoor
open Go Go.Sim
set_option maxRecDepth 100000

/-- Where a number stands in a list; -1 if it does not. -/
def posF (S : List Int) (a : Int) : Int := idxF (fun x => decide (a = x)) S
theorem posF_mem {S : List Int} {a : Int} (h : a ∈ S) : 0 ≤ posF S a ∧ posF S a < S.length ∧ S.getD (posF S a).toNat default = a := by
  unfold posF
  induction S with
  | nil => cases h
  | cons b S ih =>
    simp only [idxF]
    by_cases e : a = b
    · rw [if_pos (by simpa using e)]
      refine ⟨by omega, by simp only [List.length_cons]; omega, ?_⟩
      show (b :: S).getD 0 default = a
      rw [List.getD_cons_zero, e]
    · have hm : a ∈ S := by
        rcases List.mem_cons.1 h with q | q
        · exact absurd q e
        · exact q
      obtain ⟨i1, i2, i3⟩ := ih hm
      rw [if_neg (by simpa using e), if_neg (by omega)]
      refine ⟨by omega, by simp only [List.length_cons]; omega, ?_⟩
      have : (idxF (fun x => decide (a = x)) S + 1).toNat = (idxF (fun x => decide (a = x)) S).toNat + 1 := by omega
      rw [this, List.getD_cons_succ, i3]
theorem posF_none {S : List Int} {a : Int} (h : a ∉ S) : posF S a = -1 := by
  unfold posF
  rw [idxF_neg, List.any_eq_false]
  intro x hx
  have : ¬ a = x := by rintro rfl; exact h hx
  simpa using this
theorem posF_inj {S : List Int} {a b : Int} (ha : a ∈ S) (hb : b ∈ S) (h : posF S a = posF S b) : a = b := by
  have h1 := (posF_mem ha).2.2
  have h2 := (posF_mem hb).2.2
  rw [h] at h1
  rw [← h1, h2]
theorem posF_at {S : List Int} (hd : S.Nodup) {k : Nat} (hk : k < S.length) : posF S (S.getD k default) = k := by
  have hm : S.getD k default ∈ S := by rw [List.getD_eq_getElem?_getD, List.getElem?_eq_getElem hk]; exact List.getElem_mem hk
  obtain ⟨h1, h2, h3⟩ := posF_mem hm
  obtain ⟨j, hj⟩ : ∃ j : Nat, posF S (S.getD k default) = j := ⟨(posF S (S.getD k default)).toNat, by omega⟩
  rw [hj] at h1 h2 h3 ⊢
  have hj2 : j < S.length := by omega
  rw [Int.toNat_natCast, List.getD_eq_getElem?_getD, List.getD_eq_getElem?_getD, List.getElem?_eq_getElem hj2, List.getElem?_eq_getElem hk] at h3
  have h4 : S[j] = S[k] := by simpa using h3
  rcases Nat.lt_trichotomy j k with q | q | q
  · exact absurd h4 ((List.pairwise_iff_getElem.1 hd) j k hj2 hk q)
  · omega
  · exact absurd h4.symm ((List.pairwise_iff_getElem.1 hd) k j hk hj2 q)
theorem isoL_len (h : List Fault) (S : List Int) : (isoL h S).length = S.length := by simp [isoL]
theorem isoL_at {h : List Fault} {S : List Int} {k : Nat} (hk : k < S.length) : (isoL h S).getD k default = isoAt h S (S.getD k default) := by
  simp [isoL, List.getD_eq_getElem?_getD, hk]
theorem iso_cause {h : List Fault} {S : List Int} {a : Int} (ha : a ∈ S) : causeOf (isoL h S) (posF S a) = posF S (causeOf h a) := by
  obtain ⟨h1, h2, h3⟩ := posF_mem ha
  unfold causeOf
  rw [isoL_at (by omega), h3]
  rfl
theorem iso_ctx {h : List Fault} {S : List Int} {a : Int} (ha : a ∈ S) : ctxOf (isoL h S) (posF S a) = posF S (ctxOf h a) := by
  obtain ⟨h1, h2, h3⟩ := posF_mem ha
  unfold ctxOf
  rw [isoL_at (by omega), h3]
  rfl
theorem walk_iso {S : List Int} {n : Nat} (hS : ∀ a ∈ S, 0 ≤ a ∧ a < n) {nx nx' : Int → Int} (hnx : ∀ a ∈ S, nx a ∈ S ∨ nx a < 0) (hiso : ∀ a ∈ S, nx' (posF S a) = posF S (nx a)) :
    ∀ (fuel fuel' : Nat) (out : List Int) (f : Int), (f ∈ S ∨ f < 0) → (∀ a ∈ out, a ∈ S) → freeN n out < fuel → freeN S.length (out.map (posF S)) < fuel' → walkG nx' fuel' (out.map (posF S)) (posF S f) = (walkG nx fuel out f).map (posF S)
  | 0, fuel', out, f, _, _, h1, _ => by omega
  | fuel + 1, 0, out, f, _, _, _, h2 => by omega
  | fuel + 1, fuel' + 1, out, f, hf, ho, h1, h2 => by
    simp only [walkG]
    rcases hf with hf | hf
    · have hp := posF_mem hf
      have hany : ((out.map (posF S)).any fun x => decide (posF S f = x)) = (out.any fun x => decide (f = x)) := by
        rw [List.any_map, Bool.eq_iff_iff, List.any_eq_true, List.any_eq_true]
        constructor
        · rintro ⟨a, ha, q⟩
          exact ⟨a, ha, by simp only [Function.comp, decide_eq_true_eq] at q; simpa using posF_inj hf (ho a ha) q⟩
        · rintro ⟨a, ha, q⟩
          exact ⟨a, ha, by simp only [decide_eq_true_eq] at q; subst q; simp⟩
      rw [hany]
      cases hb : out.any fun x => decide (f = x)
      · rw [if_pos ⟨hp.1, rfl⟩, if_pos ⟨(hS f hf).1, rfl⟩, hiso f hf]
        have l1 := freeN_lt (hS f hf).1 (hS f hf).2 hb
        have l2 := freeN_lt (out := out.map (posF S)) hp.1 hp.2.1 (by rw [hany, hb])
        have e : out.map (posF S) ++ [posF S f] = (out ++ [f]).map (posF S) := by simp
        rw [e] at l2 ⊢
        refine walk_iso hS hnx hiso fuel fuel' (out ++ [f]) (nx f) (hnx f hf) (fun a ha => ?_) (by omega) (by omega)
        rcases List.mem_append.1 ha with q | q
        · exact ho a q
        · simp at q; subst q; exact hf
      · rw [if_neg (fun q => by cases q.2), if_neg (fun q => by cases q.2)]
    · have hn : f ∉ S := fun q => by have := hS f q; omega
      rw [posF_none hn, if_neg (by omega), if_neg (by omega)]
theorem text_iso {t : List Class} {h : List Fault} {S L : List Int} (hL : ∀ a ∈ L, a ∈ S) (hc : ∀ a ∈ S, causeOf h a ∈ S ∨ causeOf h a < 0) (hS : ∀ a ∈ S, 0 ≤ a) : ∀ k, k ≤ L.length → textF t (isoL h S) (L.map (posF S)) k = textF t h L k
  | 0, _ => rfl
  | k + 1, hk => by
    have ih := text_iso (t := t) hL hc hS k (by omega)
    have hi2 : L.length - 1 - k < L.length := by omega
    have mem : ∀ i, i < L.length → L.getD i default ∈ S := fun i hi => hL _ (by rw [List.getD_eq_getElem?_getD, List.getElem?_eq_getElem hi]; exact List.getElem_mem hi)
    have gm : ∀ i, i < L.length → (L.map (posF S)).getD i default = posF S (L.getD i default) := fun i hi => by
      rw [List.getD_eq_getElem?_getD, List.getD_eq_getElem?_getD, List.getElem?_map, List.getElem?_eq_getElem hi]; rfl
    have hm := mem _ hi2
    have hp := posF_mem hm
    have hat : (isoL h S).getD (posF S (L.getD (L.length - 1 - k) default)).toNat default = isoAt h S (L.getD (L.length - 1 - k) default) := by
      rw [isoL_at (by omega), hp.2.2]
    have hcz : (isoAt h S (L.getD (L.length - 1 - k) default)).cause = posF S (causeOf h (L.getD (L.length - 1 - k) default)) := rfl
    have hiff : ∀ j, j < L.length → (posF S (causeOf h (L.getD (L.length - 1 - k) default)) = posF S (L.getD j default) ↔ causeOf h (L.getD (L.length - 1 - k) default) = L.getD j default) := by
      intro j hj
      constructor
      · intro e
        rcases hc _ hm with q | q
        · exact posF_inj q (mem j hj) e
        · have hn : causeOf h (L.getD (L.length - 1 - k) default) ∉ S := fun w => by have := hS _ w; omega
          rw [posF_none hn] at e
          have := (posF_mem (mem j hj)).1
          omega
      · intro e; rw [e]
    have hsg : signF (isoL h S) (L.map (posF S)) (L.length - 1 - k) = signF h L (L.length - 1 - k) := by
      unfold signF
      rw [List.length_map, gm _ hi2, hat, hcz]
      split
      · rename_i q
        rw [gm _ q]
        by_cases e : causeOf h (L.getD (L.length - 1 - k) default) = L.getD (L.length - 1 - k + 1) default
        · rw [if_pos ((hiff _ q).2 e)]; exact (if_pos e).symm
        · rw [if_neg (fun w => e ((hiff _ q).1 w))]; exact (if_neg e).symm
      · rfl
    simp only [textF, pieceF, List.length_map]
    rw [ih, hsg, gm _ hi2, hat]
    rfl
/-- What a set of faults reaches is in it. -/
structure Closed (h : List Fault) (S : List Int) : Prop where
  mem : ∀ a ∈ S, 0 ≤ a ∧ a < h.length
  cause : ∀ a ∈ S, causeOf h a ∈ S ∨ causeOf h a < 0
  ctx : ∀ a ∈ S, ctxOf h a ∈ S ∨ ctxOf h a < 0
theorem Closed.pos {h : List Fault} {S : List Int} (hc : Closed h S) {b : Int} (hb : b ∈ S ∨ b < 0) : (0 ≤ posF S b ↔ 0 ≤ b) ∧ (b < 0 → posF S b = -1) := by
  rcases hb with q | q
  · have h1 := (posF_mem q).1
    have h2 := (hc.mem b q).1
    exact ⟨⟨fun _ => h2, fun _ => h1⟩, fun w => by omega⟩
  · have hn : b ∉ S := fun w => by have := (hc.mem b w).1; omega
    rw [posF_none hn]
    exact ⟨⟨fun w => by omega, fun w => by omega⟩, fun _ => rfl⟩
theorem Closed.shown {h : List Fault} {S : List Int} (hc : Closed h S) {a : Int} (ha : a ∈ S) : shownOf (isoL h S) (posF S a) = posF S (shownOf h a) ∧ (shownOf h a ∈ S ∨ shownOf h a < 0) := by
  obtain ⟨h1, h2, h3⟩ := posF_mem ha
  have hat : (isoL h S).getD (posF S a).toNat default = isoAt h S a := by rw [isoL_at (by omega), h3]
  have e1 : (isoAt h S a).cause = posF S (causeOf h a) := rfl
  have e2 : (isoAt h S a).ctx = posF S (ctxOf h a) := rfl
  have e3 : (isoAt h S a).hide = (h.getD a.toNat default).hide := rfl
  have p1 := hc.pos (hc.cause a ha)
  have m1 : posF S (-1) = -1 := (hc.pos (.inr (by omega))).2 (by omega)
  have d : shownOf h a = if 0 ≤ causeOf h a then causeOf h a else if (h.getD a.toNat default).hide = true then -1 else ctxOf h a := rfl
  have d2 : shownOf (isoL h S) (posF S a) = if 0 ≤ posF S (causeOf h a) then posF S (causeOf h a) else if (h.getD a.toNat default).hide = true then -1 else posF S (ctxOf h a) := by
    unfold shownOf; rw [hat, e1, e2, e3]
  rw [d, d2]
  by_cases c1 : 0 ≤ causeOf h a
  · rw [if_pos c1, if_pos (p1.1.2 c1)]
    exact ⟨rfl, hc.cause a ha⟩
  · rw [if_neg c1, if_neg (fun w => c1 (p1.1.1 w))]
    by_cases c2 : (h.getD a.toNat default).hide = true
    · rw [if_pos c2, if_pos c2, m1]
      exact ⟨rfl, .inr (by omega)⟩
    · rw [if_neg c2, if_neg c2]
      exact ⟨rfl, hc.ctx a ha⟩
theorem Closed.text {t : List Class} {h : List Fault} {S : List Int} (hc : Closed h S) {f : Int} (hf : f ∈ S) :
    walkF (shownOf (isoL h S)) (isoL h S).length (posF S f) = (walkF (shownOf h) h.length f).map (posF S) ∧
    textF t (isoL h S) (walkF (shownOf (isoL h S)) (isoL h S).length (posF S f)) (walkF (shownOf (isoL h S)) (isoL h S).length (posF S f)).length = textF t h (walkF (shownOf h) h.length f) (walkF (shownOf h) h.length f).length := by
  have hw : walkF (shownOf (isoL h S)) (isoL h S).length (posF S f) = (walkF (shownOf h) h.length f).map (posF S) := by
    rw [isoL_len]
    have := walk_iso (S := S) (n := h.length) hc.mem (nx := shownOf h) (nx' := shownOf (isoL h S)) (fun a ha => (hc.shown ha).2) (fun a ha => (hc.shown ha).1) (h.length + 1) (S.length + 1) [] f (.inl hf) (fun a ha => by cases ha) (by have := freeN_nil h.length; omega) (by have := freeN_nil S.length; simp only [List.map_nil]; omega)
    exact this
  refine ⟨hw, ?_⟩
  rw [hw, List.length_map]
  refine text_iso (fun a ha => ?_) hc.cause (fun a ha => (hc.mem a ha).1) _ (Nat.le_refl _)
  have key := walkG_mem (nx := shownOf h) (p := fun a => a ∈ S ∨ a < 0) (fun a a0 ha => (hc.shown (ha.resolve_right (by omega))).2) (h.length + 1) [] f (.inl hf) a ha
  rcases key with q | ⟨q0, q⟩
  · cases q
  · exact q.resolve_right (by omega)
theorem closed_reach {h : List Fault} (hlk : Links h) {f : Int} (h0 : 0 ≤ f) (hf : f < h.length) : Closed h (sortI (bfsF h f)) ∧ f ∈ sortI (bfsF h f) ∧ (sortI (bfsF h f)).Nodup := by
  obtain ⟨b1, b2⟩ := bfsF_iff hlk h0 hf
  have hn := bfsF_nums hlk h0 hf
  have m : ∀ a, a ∈ sortI (bfsF h f) ↔ Rch h f a := fun a => by rw [sortI_mem, b2]
  refine ⟨⟨fun a ha => hn.mem a (sortI_mem.1 ha), fun a ha => ?_, fun a ha => ?_⟩, (m f).2 .refl, (List.mergeSort_perm _ _).nodup_iff.2 b1⟩
  · by_cases c : causeOf h a < 0
    · exact .inr c
    · exact .inl ((m _).2 (.cause ((m a).1 ha) (by omega)))
  · by_cases c : ctxOf h a < 0
    · exact .inr c
    · exact .inl ((m _).2 (.ctx ((m a).1 ha) (by omega)))
theorem Closed.links {h : List Fault} {S : List Int} (hd : S.Nodup) : Links (isoL h S) := by
  intro k hk
  rw [isoL_len] at hk ⊢
  rw [isoL_at hk]
  exact ⟨idxF_lt _ _, idxF_lt _ _⟩
theorem Closed.rch {h : List Fault} {S : List Int} (hc : Closed h S) {f a : Int} (hf : f ∈ S) (r : Rch h f a) : a ∈ S ∧ Rch (isoL h S) (posF S f) (posF S a) := by
  induction r with
  | refl => exact ⟨hf, .refl⟩
  | @cause a r q ih =>
    obtain ⟨i1, i2⟩ := ih
    have hm := (hc.cause a i1).resolve_right (by omega)
    refine ⟨hm, ?_⟩
    rw [← iso_cause i1]
    exact .cause i2 (by rw [iso_cause i1]; exact (posF_mem hm).1)
  | @ctx a r q ih =>
    obtain ⟨i1, i2⟩ := ih
    have hm := (hc.ctx a i1).resolve_right (by omega)
    refine ⟨hm, ?_⟩
    rw [← iso_ctx i1]
    exact .ctx i2 (by rw [iso_ctx i1]; exact (posF_mem hm).1)
/-- The isolated heap is reached whole: sorted, it is all numbers in order. -/
theorem reach_all {h : List Fault} (hlk : Links h) {f : Int} (h0 : 0 ≤ f) (hf : f < h.length) :
    sortI (bfsF (isoL h (sortI (bfsF h f))) (posF (sortI (bfsF h f)) f)) = (List.range (sortI (bfsF h f)).length).map (fun (k : Nat) => (k : Int)) := by
  obtain ⟨hc, hm, hd⟩ := closed_reach hlk h0 hf
  have hall : ∀ a ∈ sortI (bfsF h f), Rch h f a := fun a ha => ((bfsF_iff hlk h0 hf).2 a).1 (sortI_mem.1 ha)
  generalize hS : sortI (bfsF h f) = S at hc hm hd hall ⊢
  obtain ⟨p1, p2, p3⟩ := posF_mem hm
  have hl2 : Links (isoL h S) := Closed.links hd
  obtain ⟨b1, b2⟩ := bfsF_iff hl2 p1 (by rw [isoL_len]; exact p2)
  have hn := bfsF_nums hl2 p1 (by rw [isoL_len]; exact p2)
  have s2 : ((List.range S.length).map (fun (k : Nat) => (k : Int))).Pairwise (fun a b => a < b) := by
    rw [List.pairwise_map]
    exact List.pairwise_lt_range.imp (fun q => by omega)
  have hsf : sortedF ((List.range S.length).map (fun (k : Nat) => (k : Int))) = (List.range S.length).map (fun (k : Nat) => (k : Int)) := by
    have a2 := sortedF_asc ((List.range S.length).map (fun (k : Nat) => (k : Int)))
    have pm : (sortedF ((List.range S.length).map (fun (k : Nat) => (k : Int)))).Perm ((List.range S.length).map (fun (k : Nat) => (k : Int))) :=
      (List.perm_ext_iff_of_nodup (a2.imp (fun q => by omega)) (s2.imp (fun q => by omega))).2 fun a => sortedF_iff
    exact pm.eq_of_pairwise (fun a b _ _ q1 q2 => by omega) (a2.imp (fun q => Int.le_of_lt q)) (s2.imp (fun q => Int.le_of_lt q))
  rw [← hsf]
  refine sort_ext b1 fun a => ?_
  rw [List.mem_map]
  constructor
  · intro ha
    have := hn.mem a ha
    rw [isoL_len] at this
    exact ⟨a.toNat, by simp; omega, by omega⟩
  · rintro ⟨k, hk, rfl⟩
    rw [List.mem_range] at hk
    rw [b2, ← posF_at hd hk]
    have hkm : S.getD k default ∈ S := by rw [List.getD_eq_getElem?_getD, List.getElem?_eq_getElem hk]; exact List.getElem_mem hk
    exact (hc.rch hm (hall _ hkm)).2
def numsF (n : Nat) : List Int := (List.range n).map (fun (k : Nat) => (k : Int))
theorem posF_nums {n : Nat} {x : Int} (hx : x < 0 ∨ (0 ≤ x ∧ x < n)) (h1 : -1 ≤ x) : posF (numsF n) x = x := by
  rcases hx with q | ⟨q1, q2⟩
  · rw [posF_none]
    · omega
    · unfold numsF; rw [List.mem_map]; rintro ⟨k, _, e⟩; omega
  · have hd : (numsF n).Nodup := by
      unfold numsF
      have : ((List.range n).map (fun (k : Nat) => (k : Int))).Pairwise (fun a b => a < b) := by
        rw [List.pairwise_map]
        exact List.pairwise_lt_range.imp (fun q => by omega)
      exact this.imp (fun q => by omega)
    have hk : x.toNat < (numsF n).length := by unfold numsF; simp; omega
    have := posF_at hd hk
    have e : (numsF n).getD x.toNat default = x := by
      unfold numsF at hk ⊢
      rw [List.getD_eq_getElem?_getD, List.getElem?_eq_getElem hk]
      simp; omega
    rw [e] at this
    omega
theorem iso_again {o : List Fault} (hl : ∀ k, k < o.length → -1 ≤ (o.getD k default).cause ∧ (o.getD k default).cause < o.length ∧ -1 ≤ (o.getD k default).ctx ∧ (o.getD k default).ctx < o.length) : isoL o (numsF o.length) = o := by
  apply List.ext_getElem
  · simp [isoL, numsF]
  · intro k h1 h2
    have := hl k h2
    have e : (isoL o (numsF o.length))[k] = isoAt o (numsF o.length) k := by simp [isoL, numsF]
    have e2 : o.getD k default = o[k] := by simp [List.getD_eq_getElem?_getD, h2]
    rw [e]
    have c1 : idxF (fun x => decide ((o.getD k default).cause = x)) (numsF o.length) = (o.getD k default).cause := posF_nums (by omega) this.1
    have c2 : idxF (fun x => decide ((o.getD k default).ctx = x)) (numsF o.length) = (o.getD k default).ctx := posF_nums (by omega) this.2.2.1
    unfold isoAt
    simp only [Int.toNat_natCast, c1, c2]
    rw [e2]
theorem Closed.last {h : List Fault} {S : List Int} (hc : Closed h S) (hcm : Calm h) {a : Int} (ha : a ∈ S) : ctxOf (isoL h S) (lastI (chainF (isoL h S) (posF S a))) = -1 := by
  have hw : chainF (isoL h S) (posF S a) = (chainF h a).map (posF S) := by
    unfold chainF
    rw [isoL_len]
    exact walk_iso (S := S) (n := h.length) hc.mem (nx := ctxOf h) (nx' := ctxOf (isoL h S)) hc.ctx (fun a ha => iso_ctx ha) (h.length + 1) (S.length + 1) [] a (.inl ha) (fun a ha => by cases ha) (by have := freeN_nil h.length; omega) (by have := freeN_nil S.length; simp only [List.map_nil]; omega)
  have h0 := hc.mem a ha
  have hne := List.length_pos_iff.2 (chainF_ne (h := h) h0.1)
  have hl : (chainF h a).length - 1 < (chainF h a).length := by omega
  have hmem : ∀ b ∈ chainF h a, b ∈ S := by
    intro b hb
    have key := walkG_mem (nx := ctxOf h) (p := fun a => a ∈ S ∨ a < 0) (fun a a0 ha => hc.ctx a (ha.resolve_right (by omega))) (h.length + 1) [] a (.inl ha) b hb
    rcases key with q | ⟨q0, q⟩
    · cases q
    · exact q.resolve_right (by omega)
  have hlm : lastI (chainF h a) ∈ S := hmem _ (by unfold lastI; rw [List.getD_eq_getElem?_getD, List.getElem?_eq_getElem hl]; exact List.getElem_mem hl)
  have e : lastI ((chainF h a).map (posF S)) = posF S (lastI (chainF h a)) := by
    unfold lastI
    rw [List.length_map, List.getD_eq_getElem?_getD, List.getD_eq_getElem?_getD, List.getElem?_map, List.getElem?_eq_getElem hl]; rfl
  have hlast := hcm.last a.toNat (by omega)
  rw [lastOk, decide_eq_true_eq, Int.toNat_of_nonneg h0.1] at hlast
  rw [hw, e, iso_ctx hlm, hlast]
  exact (hc.pos (.inr (by omega))).2 (by omega)
theorem valid_iso {t : List Class} {h : List Fault} {S : List Int} (hv : validH t h = true) (hc : Closed h S) (hd : S.Nodup) (hlen : S.length ≤ 24) : validH t (isoL h S) = true := by
  obtain ⟨v1, v2, v3, v4⟩ := validH_all hv
  have hcm := validH_calm hv
  have link : ∀ (k : Nat), k < S.length → ∀ b : Int, (b ∈ S ∨ b < 0) → b ≠ S.getD k default → linkF S.length k (posF S b) = true := by
    intro k hk b hb hne
    have hkm : S.getD k default ∈ S := by rw [List.getD_eq_getElem?_getD, List.getElem?_eq_getElem hk]; exact List.getElem_mem hk
    rcases hb with q | q
    · obtain ⟨p1, p2, p3⟩ := posF_mem q
      have hne2 : ¬ posF S b = k := fun e => hne (posF_inj q hkm (by rw [e, posF_at hd hk]))
      simp only [linkF, inR, Bool.or_eq_true, Bool.and_eq_true, decide_eq_true_eq, Bool.not_eq_true', decide_eq_false_iff_not]
      omega
    · rw [(hc.pos (.inr q)).2 q]; simp [linkF]
  simp only [validH, Bool.and_eq_true, decide_eq_true_eq, List.all_eq_true, List.mem_range, isoL_len]
  refine ⟨fun k hk => ?_, fun k hk => ?_, v3, hlen⟩
  · have hkm : S.getD k default ∈ S := by rw [List.getD_eq_getElem?_getD, List.getElem?_eq_getElem hk]; exact List.getElem_mem hk
    have hin := hc.mem _ hkm
    have hf := (List.all_eq_true.1 v1) (S.getD k default).toNat (List.mem_range.2 (by omega))
    simp only [faultOk, Bool.and_eq_true] at hf ⊢
    rw [isoL_at hk, isoL_len]
    have n1 : causeOf h (S.getD k default) ≠ S.getD k default := by
      have := hf.1.2
      unfold causeOf
      simp only [linkF, inR, Bool.or_eq_true, Bool.and_eq_true, decide_eq_true_eq, Bool.not_eq_true', decide_eq_false_iff_not] at this
      omega
    have n2 : ctxOf h (S.getD k default) ≠ S.getD k default := by
      have := hf.2
      unfold ctxOf
      simp only [linkF, inR, Bool.or_eq_true, Bool.and_eq_true, decide_eq_true_eq, Bool.not_eq_true', decide_eq_false_iff_not] at this
      omega
    exact ⟨⟨hf.1.1, link k hk _ (hc.cause _ hkm) n1⟩, link k hk _ (hc.ctx _ hkm) n2⟩
  · have hkm : S.getD k default ∈ S := by rw [List.getD_eq_getElem?_getD, List.getElem?_eq_getElem hk]; exact List.getElem_mem hk
    have := hc.last hcm hkm
    rw [posF_at hd hk] at this
    rw [lastOk, decide_eq_true_eq]
    exact this
end Go.Proofs.YtihjbbiajggcoaaDoor
end
section
set_option linter.unusedVariables false
set_option linter.unusedSimpArgs false
namespace Go.Proofs.YtihjbbiajggcoaaDoor
open Go Go.Sim
set_option maxRecDepth 100000

theorem iso_law {t : List Class} {h : List Fault} {f : Int} (hv : validH t h = true) (h0 : 0 ≤ f) (hf : f < h.length) :
    validH t (isoL h (sortI (bfsF h f))) = true ∧ 0 ≤ posF (sortI (bfsF h f)) f ∧ posF (sortI (bfsF h f)) f < (isoL h (sortI (bfsF h f))).length ∧
    chainTextF t (isoL h (sortI (bfsF h f))) (posF (sortI (bfsF h f)) f) = chainTextF t h f ∧
    sortI (bfsF (isoL h (sortI (bfsF h f))) (posF (sortI (bfsF h f)) f)) = numsF (sortI (bfsF h f)).length ∧
    isoF t (isoL h (sortI (bfsF h f))) (posF (sortI (bfsF h f)) f) = (isoL h (sortI (bfsF h f)), posF (sortI (bfsF h f)) f) := by
  have hlk := validH_links hv
  obtain ⟨hc, hm, hd⟩ := closed_reach hlk h0 hf
  have hra := reach_all hlk h0 hf
  have hn := (bfsF_nums hlk h0 hf).free
  have h24 := (validH_all hv).2.2.2
  have hlen : (sortI (bfsF h f)).length ≤ 24 := by rw [sortI_len]; omega
  generalize sortI (bfsF h f) = S at hc hm hd hra hlen ⊢
  have hvo := valid_iso hv hc hd hlen
  obtain ⟨p1, p2, p3⟩ := posF_mem hm
  have p2' : posF S f < (isoL h S).length := by rw [isoL_len]; exact p2
  have c1 : (validH t (isoL h S) && inR (posF S f) 0 ((isoL h S).length - 1)) = true := by rw [hvo, inR_len.2 ⟨p1, p2'⟩]; rfl
  have c2 : (validH t h && inR f 0 (h.length - 1)) = true := by rw [hv, inR_len.2 ⟨h0, hf⟩]; rfl
  refine ⟨hvo, p1, p2', ?_, hra, ?_⟩
  · rw [chainTextF, if_pos c1, chainTextF, if_pos c2]
    exact (hc.text hm).2
  · rw [isoF, if_pos c1, hra]
    have hl := faultOk_links (validH_all hvo).1
    have e1 : isoL (isoL h S) (numsF S.length) = isoL h S := by
      have := iso_again (o := isoL h S) fun k hk => by have := hl k hk; exact ⟨this.2.2.1, this.2.2.2, this.1, this.2.1⟩
      rwa [isoL_len] at this
    have e2 : idxF (fun x => decide (posF S f = x)) (numsF S.length) = posF S f := posF_nums (.inr ⟨p1, p2⟩) (by omega)
    show (isoL (isoL h S) (numsF S.length), idxF (fun x => decide (posF S f = x)) (numsF S.length)) = _
    rw [e1, e2]
end Go.Proofs.YtihjbbiajggcoaaDoor
end
