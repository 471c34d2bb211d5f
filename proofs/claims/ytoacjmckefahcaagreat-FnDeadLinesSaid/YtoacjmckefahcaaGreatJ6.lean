/- Walks and plain laws that the claims of this seat lean on. No condition. -/
import Derived.Test.YtoacjmckefahcaaGreatJ5
set_option linter.unusedVariables false
set_option linter.unusedSimpArgs false
namespace Go.Proofs.YtoacjmckefahcaaGreat
open Go Go.Sim
section
set_option maxRecDepth 100000
attribute [local go_sem ↓] aw_skip aw_ret aw_exit aw_region aw_draw aw_seq aw_block aw_loop aw_cond frz_nil frz_cons sq_normal sq_ret sq_exit exB_normal exB_ret exB_same exB_other retQ_ret retQ_normal ret0_ret ret0_normal ao_nil go1 g_move g_assign g_pick g_build g_load g_binOp g_unOp g_convert g_fieldAddr g_field g_indexAddr g_index g_extract g_lookup g_slice g_nilCheck g_len g_makeFunc h_call h_append h_alloc h_box h_buildSlice h_makeSlice h_store gV i_box i_buildSlice i_move i_assign i_build i_load i_binOp i_unOp i_convert i_fieldAddr i_field i_indexAddr i_index i_extract i_lookup i_makeMap i_mapUpdate i_slice i_nilCheck i_makeFunc i_len i_max i_min i_alloc i_makeSlice i_store i_append i_call i_pick boxI boxA buildSliceI buildSliceA makeSliceA makeMapA allocA storeA p_move p_assign p_pick p_build p_load p_binOp p_unOp p_convert p_fieldAddr p_field p_indexAddr p_index p_extract p_lookup p_makeMap p_mapUpdate p_slice p_nilCheck p_makeFunc p_len p_max p_min p_alloc p_box p_buildSlice p_makeSlice p_store p_append p_call x_nil x_go1 x_g0 x_g1 x_g2 x_g3 x_s0 x_s1 x_s2 x_s3 u_move u_assign u_pick u_build u_load u_binOp u_unOp u_convert u_fieldAddr u_field u_indexAddr u_index u_extract u_lookup u_slice u_nilCheck u_makeFunc u_len u_buildSlice x_s4 x_g4 rq_normal rq_ret rq_exit aw_range
attribute [local go_sem] frzV_sl frzK_some set_none set_other AHeap.set_self set_del set_set cnd_t cnd_f cnd_b retA_one retA_two retA_three retA_four retA_nil gIf_b mrgV_b mrgV_wh mrgV_U gIf_U gIf_wh mrgB_f mrgB_some mrgB_if wh_true wh_false keepA_some keepA_if gD_zero gD_succ gT_some bxA_t bxA_f callA_fn ev_tmp ev_const ev_global ev_func oc_bool oc_int oc_string oc_nil oc_nilptr oc_nilfunc cl_bool cl_int cl_string cl_nil updO_some updO_none upd_same upd_other init_at pickA_b pickA_wh selA_t selA_f selA_and selA_or selA_orn selA_orm selA_bb selA_ii beqt b_add b_sub b_mul b_and b_or b_xor b_eql b_neq b_lss b_leq b_gtr b_geq b_quo b_rem b_shr b_seql b_sneq b_sadd b_beql b_bneq b_aeql b_aneq u_not u_neg isConstOp eqA eqCellV List.getD_cons_zero List.getD_cons_succ List.map_cons List.map_nil List.nil_append List.cons_append List.append_nil if_true if_false Option.map_some Option.map_none ne_eq not_false_eq_true oneA ldv ld1v ld1s wr1s ldRow stRow row_lit row_agg row_vsl row_sl row_ptr row_fn one_I one_B one_S one_vsl one_sl one_ptr one_fn extractA okA rI rS rU rClass rFault rExit rStart rLine Int.toNat_natCast List.length_cons List.length_nil List.length_map List.all_cons List.all_nil Bool.and_true Nat.zero_add List.getElem?_cons_zero List.getElem?_cons_succ List.take_succ_cons List.take_zero List.drop_succ_cons List.drop_zero and_self true_and and_true implies_true decide_eq_true_eq decide_eq_false_iff_not Bool.or_eq_true Bool.or_eq_false_iff Bool.and_eq_true Bool.not_eq_true' Bool.not_eq_false' beq_false decide_true decide_false Int.ofNat_lt Int.ofNat_le Int.natCast_nonneg Bool.or_true Bool.or_false Bool.true_or Bool.false_or beq_self_eq_true List.drop_one Bool.not_true Bool.not_false Bool.not_not Bool.false_eq_true Bool.true_eq_false false_implies true_implies Bool.true_and Bool.false_and Bool.and_false not_true_eq_false Int.natCast_eq_zero Int.natCast_pos Int.natCast_zero false_and and_false or_false false_or or_true true_or Bool.or_self none_le_iff List.replicate_zero Int.toNat_zero List.replicate_succ buildRows List.set_cons_zero List.set_cons_succ List.set_nil List.mapM_nil maxLen_eq Nat.zero_le Nat.mul_one Nat.one_mul bldA fillA spliceA List.take_nil List.drop_nil List.getElem?_nil ld1o wr1o bldSliceA le_same cv_i cvI_t quietT_fn qvd_some ld_o ldO_1 ldO_l wr_o wrO_1 set_2 set_3 set_4 putL_nil putL_cons List.zip_cons_cons List.zip_nil_left List.zip_nil_right List.toList_toArray frzV_set ti1 ti2 tk2 ti3 te3 ts3 tk3 tz3 ti4 tb4 ti5 tk5 tz5 ti9 te9 ts9 tk9 tz9 ti12 tk12 ti13 tp13 tf13_0 tf13_1 ti20 ti21 tk21 tz21 ti22 te22 tz22 ti23 te23 ti24 tp24 tf24_0 ti25 tp25 tf25_0 ti26 te26 ti28 ti29 ti30 ti31 ti32 ti33 te33 ti34 te34 ti35 tp35 tf35_0 ti36 tp36 tf36_0 ti37 tp37 tf37_0 tf37_1 tf37_2 tf37_3 ti38 tp38 tf38_0 tf38_1 tf38_2 tf38_3 ti39 ti40 ti41 ti42 ti43 tq43 tp43 tf43_0 tf43_1 tf43_2 tf43_3 ti44 tq44 tp44 tf44_0 tf44_1 tf44_2 tf44_3 ti45 ti46 ti47 ti48 ti49 ti50 ti51 tq51 tp51 tf51_0 tf51_1 tf51_2 ti52 tq52 tp52 tf52_0 tf52_1 tf52_2 ti54 ti55 ti56 ti57 ti58 ti59 ti60 ti61 ti62 ti63 ti64 ti65 ti66 ti67 ti68 ti69 ti70 tq70 tp70 tf70_0 tf70_1 ti71 tq71 tp71 tf71_0 tf71_1 ti72 ti73 ti74 ti75 ti76 ti77 ti78 ti79 tp79 tf79_0 tf79_1 tf79_2 tf79_3 tf79_4 ti80 tp80 tf80_0 tf80_1 tf80_2 tf80_3 tf80_4 ti81 ti83 ti84 ti85 ti86 tq86 tp86 tf86_0 tf86_1 tf86_2 tf86_3 tf86_4 ti87 tq87 tp87 tf87_0 tf87_1 tf87_2 tf87_3 tf87_4 ti88 ti89 ti90 ti91 ti92 tp92 tf92_0 tf92_1 ti93 tp93 tf93_0 tf93_1 ti94 ti95 ti96 ti97 tq97 tp97 tf97_0 tf97_1 ti98 tq98 tp98 tf98_0 tf98_1 ti99 ti100 ti101 ti103 ti104 ti105 ti106 ti107 ti108 ti109 ti110 ti111 te111 ti112 ti113 ti114 ti115 ti116 ti117 ti118 ti119 ti120 ti121 ti122 ti123 ti124 ti125 ti126 ti127 tk127 tz127 ti128 ti129 ti130 tk130 ti132 ti133 ti134 ti136 ti137 ti138 tk138 tz138 ti139 ti140 tk140 tz140 ti141 tk141 ti142 ti143 ti144 ti145 ti146 ti147 ti148 ti149 ti155 ti159 fp13_0 fv13_0 fp13_1 fv13_1 fp24_0 fv24_0 fp25_0 fv25_0 fp35_0 fv35_0 fp36_0 fv36_0 fp37_0 fv37_0 fp37_1 fv37_1 fp37_2 fv37_2 fp37_3 fv37_3 fp38_0 fv38_0 fp38_1 fv38_1 fp38_2 fv38_2 fp38_3 fv38_3 fp43_0 fv43_0 fp43_1 fv43_1 fp43_2 fv43_2 fp43_3 fv43_3 fp44_0 fv44_0 fp44_1 fv44_1 fp44_2 fv44_2 fp44_3 fv44_3 fp51_0 fv51_0 fp51_1 fv51_1 fp51_2 fv51_2 fp52_0 fv52_0 fp52_1 fv52_1 fp52_2 fv52_2 fp70_0 fv70_0 fp70_1 fv70_1 fp71_0 fv71_0 fp71_1 fv71_1 fp79_0 fv79_0 fp79_1 fv79_1 fp79_2 fv79_2 fp79_3 fv79_3 fp79_4 fv79_4 fp80_0 fv80_0 fp80_1 fv80_1 fp80_2 fv80_2 fp80_3 fv80_3 fp80_4 fv80_4 fp86_0 fv86_0 fp86_1 fv86_1 fp86_2 fv86_2 fp86_3 fv86_3 fp86_4 fv86_4 fp87_0 fv87_0 fp87_1 fv87_1 fp87_2 fv87_2 fp87_3 fv87_3 fp87_4 fv87_4 fp92_0 fv92_0 fp92_1 fv92_1 fp93_0 fv93_0 fp93_1 fv93_1 fp97_0 fv97_0 fp97_1 fv97_1 fp98_0 fv98_0 fp98_1 fv98_1 lv22 ll22 is22 ix22 sh22 so22 sb22 sm22 sp22 lv23 ll23 is23 ix23 sh23 so23 sb23 sm23 sp23 lv26 ll26 is26 ix26 sh26 so26 sb26 sm26 sp26 lv33 ll33 is33 ix33 sh33 so33 sb33 sm33 sp33 lv34 ll34 is34 ix34 sh34 so34 sb34 sm34 sp34 lv111 ll111 is111 ix111 sh111 so111 sb111 sm111 sp111 xs9 ls9 sx9 sy9 sz9
section
open Go Go.Sim
set_option maxRecDepth 100000
set_option maxHeartbeats 4000000

theorem upTo_at (l : List Bool) : ∀ (n j : Nat), j < (upTo l n).length → ∃ i : Nat, i < n ∧ l.getD i false = true ∧ (upTo l n).getD j default = (i : Int) ∧ (upTo l n).take j = upTo l i ∧ (upTo l n).take (j + 1) = upTo l (i + 1)
  | 0, j, h => by simp [upTo] at h
  | n + 1, j, h => by
    rcases Nat.lt_or_ge j (upTo l n).length with h1 | h1
    · obtain ⟨i, i1, i2, i3, i4, i5⟩ := upTo_at l n j h1
      refine ⟨i, by omega, i2, ?_, ?_, ?_⟩
      · rw [upTo_succ, List.getD_eq_getElem?_getD, List.getElem?_append_left h1, ← List.getD_eq_getElem?_getD]; exact i3
      · rw [upTo_succ, List.take_append_of_le_length (by omega)]; exact i4
      · rw [upTo_succ, List.take_append_of_le_length (by omega)]; exact i5
    · rw [upTo_succ] at h
      cases hb : l.getD n false
      · rw [hb] at h
        simp at h
        omega
      · rw [hb] at h
        simp at h
        have hj : j = (upTo l n).length := by omega
        subst hj
        refine ⟨n, by omega, hb, ?_, ?_, ?_⟩
        · rw [upTo_succ, hb, if_pos rfl]
          simp [List.getD_eq_getElem?_getD]
        · rw [upTo_succ, List.take_append_of_le_length (Nat.le_refl _), List.take_length]
        · rw [List.take_of_length_le]
          rw [upTo_succ, hb, if_pos rfl]; simp
theorem upTo_in {l : List Bool} {n : Nat} {x : Int} : x ∈ upTo l n ↔ ∃ i : Nat, x = i ∧ i < n ∧ l.getD i false = true := by
  unfold upTo
  rw [List.mem_map]
  constructor
  · rintro ⟨i, h, rfl⟩
    rw [List.mem_filter, List.mem_range] at h
    exact ⟨i, rfl, h.1, h.2⟩
  · rintro ⟨i, rfl, h1, h2⟩
    exact ⟨i, List.mem_filter.2 ⟨List.mem_range.2 h1, h2⟩, rfl⟩
/-- What stands later is greater. -/
def Asc (l : List Int) : Prop := ∀ j, 1 ≤ j → j < l.length → ¬ (l.getD j default ≤ l.getD (j - 1) default)
theorem upTo_asc (l : List Bool) (n : Nat) : Asc (upTo l n) := by
  intro j h1 h2
  obtain ⟨i, i1, i2, i3, i4, i5⟩ := upTo_at l n j h2
  rw [i3]
  have hm : (upTo l n).getD (j - 1) default ∈ upTo l i := by
    rw [← i4, List.getD_eq_getElem?_getD, List.getElem?_eq_getElem (by omega)]
    simp only [Option.getD_some]
    exact List.mem_take_iff_getElem.2 ⟨j - 1, by omega, rfl⟩
  obtain ⟨k, k1, k2, k3⟩ := upTo_in.1 hm
  rw [k1]
  omega
theorem c_ascends (l : List Int) (cl : Bool) (H : AHeap) (h : Asc l) (hl : l.length ≤ 4398046511104) : ACalls Tryz.prog 22 [.vsl (l.map rI) cl] H fun r H' => r = B true ∧ H' = H := by
  refine acalls_of0 Tryz.func22 rfl (by kernel_rfl) rfl rfl (awp_sound (fz := fun _ => []) (im := fun _ => false) mixed _ _ _ _ (by kernel_rfl) ?_)
  simp +contextual -dsimp -implicitDefEqProofs (maxSteps := 5000000) only [go_sem, reduceIte, reduceCtorEq, Nat.reduceEqDiff, Nat.reduceBEq, Nat.reduceAdd, Nat.reduceLeDiff, Nat.reduceMul, Nat.reduceLT, Int.reduceEq, Int.reduceLT, Int.reduceLE]
  refine aloop mixed (fz := fun _ => []) (im := fun _ => false) (by kernel_rfl) (fun m tm H' => ∃ k : Nat, m = l.length + 1 - k ∧ 1 ≤ k ∧ k ≤ l.length + 1 ∧ H' = H ∧ tm 0 = .vsl (l.map rI) cl ∧ tm 3 = I k) l.length ⟨1, by omega, by omega, by omega, rfl, ?_⟩ ?_
  · simp +contextual -dsimp -implicitDefEqProofs (maxSteps := 5000000) only [go_sem, reduceIte, reduceCtorEq, Nat.reduceEqDiff, Nat.reduceBEq, Nat.reduceAdd, Nat.reduceLeDiff, Nat.reduceMul, Nat.reduceLT, Int.reduceEq, Int.reduceLT, Int.reduceLE]
    rfl
  · rintro m tm _ ⟨k, rfl, hk1, hk, rfl, t0, t3⟩
    by_cases hlt : k < l.length
    · have ha := h k hk1 hlt
      have hw : IntKind.i64.wrap ((k : Int) - 1) = ((k - 1 : Nat) : Int) := by rw [w64 (by omega) (by omega)]; omega
      have hk2 : k - 1 < l.length := by omega
      simp +contextual -dsimp -implicitDefEqProofs (maxSteps := 5000000) only [go_sem, reduceIte, reduceCtorEq, Nat.reduceEqDiff, Nat.reduceBEq, Nat.reduceAdd, Nat.reduceLeDiff, Nat.reduceMul, Nat.reduceLT, Int.reduceEq, Int.reduceLT, Int.reduceLE, t0, t3, hlt]
      refine draw_intro [0, 0, 0, 0, 0, 0, 0, 0, 0, 0] AHeap.none (by kernel_rfl) none_le ?_
      simp +contextual -dsimp -implicitDefEqProofs (maxSteps := 5000000) only [go_sem, reduceIte, reduceCtorEq, Nat.reduceEqDiff, Nat.reduceBEq, Nat.reduceAdd, Nat.reduceLeDiff, Nat.reduceMul, Nat.reduceLT, Int.reduceEq, Int.reduceLT, Int.reduceLE, t0, t3, hlt, hw, hk2]
      exact ⟨fun q => absurd q ha, fun _ => ⟨_, by omega, k + 1, rfl, by omega, by omega, I_wrap (by omega) (by omega) (by omega)⟩⟩
    · simp +contextual -dsimp -implicitDefEqProofs (maxSteps := 5000000) only [go_sem, reduceIte, reduceCtorEq, Nat.reduceEqDiff, Nat.reduceBEq, Nat.reduceAdd, Nat.reduceLeDiff, Nat.reduceMul, Nat.reduceLT, Int.reduceEq, Int.reduceLT, Int.reduceLE, t0, t3, hlt]
def chX (x : Line) : Line := chL x true
theorem chX_1 {x : Line} (h : x.kind = 1 ∨ x.kind = 4) : chX x = { x with a := 99 - x.a } := by
  have h2 : ¬ x.kind = 2 := by omega
  unfold chX chL chA chB
  rw [if_pos rfl, if_pos h, if_neg h2]
theorem chX_2 {x : Line} (h : x.kind = 2) : chX x = { x with b := 99 - x.b } := by
  have h2 : ¬ (x.kind = 1 ∨ x.kind = 4) := by omega
  unfold chX chL chA chB
  rw [if_pos rfl, if_neg h2, if_pos h]
theorem chX_3 {x : Line} (h : ¬ x.kind = 2) (h2 : ¬ (x.kind = 1 ∨ x.kind = 4)) : chX x = x := by
  unfold chX chL chA chB
  rw [if_pos rfl, if_neg h2, if_neg h]
/-- A program with the lines at some places changed. -/
def cngL (p : List Line) (l : List Int) : List Line := l.foldl (fun q i => q.set i.toNat (chX (p.getD i.toNat default))) p
theorem cng_get0 (p : List Line) (i : Nat) : ∀ (l : List Int) (q : List Line), (l.foldl (fun q i => q.set i.toNat (chX (p.getD i.toNat default))) q)[i]? = if (∃ x ∈ l, x.toNat = i) ∧ i < q.length then some (chX (p.getD i default)) else q[i]?
  | [], q => by simp
  | x :: l, q => by
    rw [List.foldl_cons, cng_get0 p i l, List.length_set, List.getElem?_set]
    by_cases h1 : ∃ x ∈ l, x.toNat = i
    · obtain ⟨y, y1, y2⟩ := h1
      by_cases h2 : i < q.length
      · rw [if_pos ⟨⟨y, y1, y2⟩, h2⟩, if_pos ⟨⟨y, List.mem_cons_of_mem _ y1, y2⟩, h2⟩]
      · have m1 : ¬ ((∃ y ∈ l, y.toNat = i) ∧ i < q.length) := fun h => h2 h.2
        have m2 : ¬ ((∃ y ∈ x :: l, y.toNat = i) ∧ i < q.length) := fun h => h2 h.2
        rw [if_neg m1, if_neg m2]
        split
        · rw [if_neg (by omega), List.getElem?_eq_none (by omega)]
        · rfl
    · rw [if_neg (fun h => h1 h.1)]
      by_cases h3 : x.toNat = i
      · rw [if_pos h3]
        by_cases h2 : i < q.length
        · rw [if_pos (by omega), if_pos ⟨⟨x, List.mem_cons_self .., h3⟩, h2⟩, h3]
        · rw [if_neg (by omega), if_neg (fun h => h2 h.2), List.getElem?_eq_none (by omega)]
      · rw [if_neg h3, if_neg]
        rintro ⟨⟨y, y1, y2⟩, _⟩
        rcases List.mem_cons.1 y1 with rfl | y1
        · exact h3 y2
        · exact h1 ⟨y, y1, y2⟩
theorem cng_len (p : List Line) : ∀ (l : List Int) (q : List Line), (l.foldl (fun q i => q.set i.toNat (chX (p.getD i.toNat default))) q).length = q.length
  | [], q => rfl
  | x :: l, q => by rw [List.foldl_cons, cng_len p l, List.length_set]
theorem cngL_len (p : List Line) (l : List Int) : (cngL p l).length = p.length := cng_len p l p
theorem cngL_upTo_at {p : List Line} {ds : List Bool} {i : Nat} : (cngL p (upTo ds i)).getD i default = p.getD i default := by
  unfold cngL
  rw [List.getD_eq_getElem?_getD, cng_get0, if_neg, List.getD_eq_getElem?_getD]
  rintro ⟨⟨x, x1, x2⟩, _⟩
  obtain ⟨k, rfl, k2, k3⟩ := upTo_in.1 x1
  simp at x2
  omega
theorem cngL_next {p : List Line} {ds : List Bool} {i : Nat} (h : ds.getD i false = true) : (cngL p (upTo ds i)).set i (chX (p.getD i default)) = cngL p (upTo ds (i + 1)) := by
  unfold cngL
  rw [upTo_succ, h, if_pos rfl, List.foldl_append]
  rfl
theorem cngL_all {p : List Line} {ds : List Bool} (h : ds.length = p.length) : cngL p (upTo ds p.length) = List.zipWith chL p ds := by
  apply List.ext_getElem?
  intro i
  unfold cngL
  rw [cng_get0, List.getElem?_zipWith]
  rcases Nat.lt_or_ge i p.length with hi | hi
  · have e1 : p[i]? = some (p.getD i default) := by rw [List.getD_eq_getElem?_getD, List.getElem?_eq_getElem hi]; rfl
    have e2 : ds[i]? = some (ds.getD i false) := by rw [List.getD_eq_getElem?_getD, List.getElem?_eq_getElem (by omega)]; rfl
    rw [e1, e2]
    cases hb : ds.getD i false
    · rw [if_neg]
      · simp [chL]
      · rintro ⟨⟨x, x1, x2⟩, _⟩
        obtain ⟨k, rfl, k2, k3⟩ := upTo_in.1 x1
        simp at x2
        subst x2
        rw [hb] at k3; cases k3
    · rw [if_pos ⟨⟨(i : Int), upTo_in.2 ⟨i, rfl, hi, hb⟩, by simp⟩, hi⟩]
      rfl
  · rw [if_neg (fun h => by omega), List.getElem?_eq_none (by omega), List.getElem?_eq_none (by omega)]
theorem numsV {t : List Class} {p : List Line} (h : ValidP t p) : ∀ x ∈ p, numOk t x.kind x.a x.b = true := by
  obtain ⟨_, e, h3, _⟩ := validP_forest h
  have key : ∀ (f : Fo) (d : Int), numsF t f d = true → ∀ x ∈ f.flat d, numOk t x.kind x.a x.b = true := by
    intro f
    induction f with
    | nil => intro d _ x hx; cases hx
    | node k a b kids rest ihk ihr =>
      intro d hn x hx
      obtain ⟨n1, n2, n3, n4, n5⟩ := numsF_node hn
      simp only [Fo.flat, List.mem_cons, List.mem_append] at hx
      rcases hx with rfl | hx | hx
      · exact n1
      · exact ihk _ n4 x hx
      · exact ihr _ n5 x hx
  rw [e]; exact key _ 0 h3
theorem numsV_at {t : List Class} {p : List Line} (h : ValidP t p) {i : Nat} (hi : i < p.length) : (((p.getD i default).kind = 1 ∨ (p.getD i default).kind = 4) → 0 ≤ (p.getD i default).a ∧ (p.getD i default).a ≤ 99) ∧ ((p.getD i default).kind = 2 → 0 ≤ (p.getD i default).b ∧ (p.getD i default).b ≤ 99) := by
  have hm : p.getD i default ∈ p := by rw [List.getD_eq_getElem?_getD, List.getElem?_eq_getElem hi]; exact List.getElem_mem hi
  have := numsV h _ hm
  generalize p.getD i default = x at this
  constructor
  · intro hk
    unfold numOk at this
    rw [if_pos hk, Bool.and_eq_true] at this
    simpa [inR] using this.1
  · intro hk
    unfold numOk at this
    rw [if_neg (by omega), if_pos hk, Bool.and_eq_true] at this
    simpa [inR] using this.2
theorem c_sDeadLines (t : List Class) (cl : Bool) (p : List Line) (cl' : Bool) (H : AHeap) (hn : namesOk t) (hp : p.length ≤ 4398046511104) : ACalls Tryz.prog 21 [aTree t cl, aProg p cl'] H fun r H' => (∃ c, r = .vsl ((deadsR t p).map rI) c) ∧ H' = H := by
  refine acalls_fz (c_sDeadLines0 t cl p cl' H hn hp) ?_
  rintro _ H' hg
  obtain ⟨c1, hz⟩ := grow_fz hg
  exact ⟨_, H, grow_le hg, hz, ⟨c1, rfl⟩, rfl⟩
theorem c_LawDeadLines (bs : List UInt8) (cb : Bool) (H : AHeap) : ACalls Tryz.prog 5 [.vsl (bs.map rU) cb] H fun r H' => r = B true ∧ H' = H := by
  refine acalls_of1 Tryz.func5 rfl (by kernel_rfl) rfl rfl (awp_sound (fz := fun r => if r = 3 then [3] else if r = 11 then [8] else []) (im := fun s => s == 37) mixed _ _ _ _ (by kernel_rfl) ?_)
  simp +contextual -dsimp -implicitDefEqProofs (maxSteps := 5000000) only [go_sem, reduceIte, reduceCtorEq, Nat.reduceEqDiff, Nat.reduceBEq, Nat.reduceAdd, Nat.reduceLeDiff, Nat.reduceMul, Nat.reduceLT, Int.reduceEq, Int.reduceLT, Int.reduceLE]
  refine ⟨fun hbig => ?_, fun hsmall => ?_⟩
  · refine retR_less (l := [B true]) (H' := H) ?_ (AHeap.le_refl _) ⟨rfl, rfl⟩
    simp only [resA, go_sem, reduceIte, reduceCtorEq, Nat.reduceEqDiff, Nat.reduceBEq, Nat.reduceAdd, Nat.reduceLeDiff, Nat.reduceMul, Nat.reduceLT, Int.reduceEq, Int.reduceLT, Int.reduceLE]
  refine (c_DrawDeadLines H bs cb).mono ?_
  rintro _ H1 ⟨t, cl, p, cl', rfl, hH, hs, ht8, hl8⟩
  rw [hH]
  have hn := short_ok hs
  have hp : p.length ≤ 4398046511104 := by omega
  simp +contextual -dsimp -implicitDefEqProofs (maxSteps := 5000000) only [go_sem, reduceIte, reduceCtorEq, Nat.reduceEqDiff, Nat.reduceBEq, Nat.reduceAdd, Nat.reduceLeDiff, Nat.reduceMul, Nat.reduceLT, Int.reduceEq, Int.reduceLT, Int.reduceLE]
  intro b3 hb3
  refine (c_mDeadLines t cl p cl' _ hn hp).mono ?_
  rintro _ H ⟨⟨c1, rfl⟩, rfl⟩
  simp +contextual -dsimp -implicitDefEqProofs (maxSteps := 5000000) only [go_sem, reduceIte, reduceCtorEq, Nat.reduceEqDiff, Nat.reduceBEq, Nat.reduceAdd, Nat.reduceLeDiff, Nat.reduceMul, Nat.reduceLT, Int.reduceEq, Int.reduceLT, Int.reduceLE]
  refine (c_sDeadLines t cl p cl' _ hn hp).mono ?_
  rintro _ H ⟨⟨c2, rfl⟩, rfl⟩
  simp +contextual -dsimp -implicitDefEqProofs (maxSteps := 5000000) only [go_sem, reduceIte, reduceCtorEq, Nat.reduceEqDiff, Nat.reduceBEq, Nat.reduceAdd, Nat.reduceLeDiff, Nat.reduceMul, Nat.reduceLT, Int.reduceEq, Int.reduceLT, Int.reduceLE]
  refine (c_equalInts _ _ _ _ _).det ?_
  rw [intsEq]
  simp +contextual -dsimp -implicitDefEqProofs (maxSteps := 5000000) only [go_sem, reduceIte, reduceCtorEq, Nat.reduceEqDiff, Nat.reduceBEq, Nat.reduceAdd, Nat.reduceLeDiff, Nat.reduceMul, Nat.reduceLT, Int.reduceEq, Int.reduceLT, Int.reduceLE]
  refine (c_ValidProgram t cl p cl' _ hn hp).det ?_
  cases hv : validB t p
  · simp +contextual -dsimp -implicitDefEqProofs (maxSteps := 5000000) only [go_sem, reduceIte, reduceCtorEq, Nat.reduceEqDiff, Nat.reduceBEq, Nat.reduceAdd, Nat.reduceLeDiff, Nat.reduceMul, Nat.reduceLT, Int.reduceEq, Int.reduceLT, Int.reduceLE]
    refine (c_sDeadLines t cl p cl' _ hn hp).mono ?_
    rintro _ H ⟨⟨c2, rfl⟩, rfl⟩
    simp +contextual -dsimp -implicitDefEqProofs (maxSteps := 5000000) only [go_sem, reduceIte, reduceCtorEq, Nat.reduceEqDiff, Nat.reduceBEq, Nat.reduceAdd, Nat.reduceLeDiff, Nat.reduceMul, Nat.reduceLT, Int.reduceEq, Int.reduceLT, Int.reduceLE]
    refine (c_equalInts _ _ _ _ _).det ?_
    rw [intsEq]
    simp +contextual -dsimp -implicitDefEqProofs (maxSteps := 5000000) only [go_sem, reduceIte, reduceCtorEq, Nat.reduceEqDiff, Nat.reduceBEq, Nat.reduceAdd, Nat.reduceLeDiff, Nat.reduceMul, Nat.reduceLT, Int.reduceEq, Int.reduceLT, Int.reduceLE]
    refine retR_less (l := [B true]) (H' := H) ?_ (AHeap.le_refl _) ⟨rfl, rfl⟩
    simp only [resA, go_sem, reduceIte, reduceCtorEq, Nat.reduceEqDiff, Nat.reduceBEq, Nat.reduceAdd, Nat.reduceLeDiff, Nat.reduceMul, Nat.reduceLT, Int.reduceEq, Int.reduceLT, Int.reduceLE]
  · have hval := validB_true.1 hv
    have hdl := deads_len hval
    have hpl : deadsR t p = upTo (deadsP t p) p.length := by
      unfold deadsR; rw [if_pos hv]; unfold upTo placesF; rw [hdl]
    rw [hpl]
    have hul := upTo_len (deadsP t p) p.length
    have hat := upTo_at (deadsP t p) p.length
    have hasc := upTo_asc (deadsP t p) p.length
    have hall := cngL_all hdl
    obtain ⟨g1, g2⟩ := dead_law hval
    generalize hgl : upTo (deadsP t p) p.length = pl at hul hat hasc hall
    simp +contextual -dsimp -implicitDefEqProofs (maxSteps := 5000000) only [go_sem, reduceIte, reduceCtorEq, Nat.reduceEqDiff, Nat.reduceBEq, Nat.reduceAdd, Nat.reduceLeDiff, Nat.reduceMul, Nat.reduceLT, Int.reduceEq, Int.reduceLT, Int.reduceLE]
    refine app_lines (m := p) grow_nil (by simp; omega) rfl fun x H1 hg => ?_
    rw [List.nil_append] at hg
    simp +contextual -dsimp -implicitDefEqProofs (maxSteps := 5000000) only [go_sem, reduceIte, reduceCtorEq, Nat.reduceEqDiff, Nat.reduceBEq, Nat.reduceAdd, Nat.reduceLeDiff, Nat.reduceMul, Nat.reduceLT, Int.reduceEq, Int.reduceLT, Int.reduceLE]
    refine sim_endfrz ?_
    refine aloop mixed (fz := fun r => if r = 3 then [3] else if r = 11 then [8] else []) (im := fun s => s == 37) (by kernel_rfl) (fun m tm H' => ∃ (k : Nat), m = pl.length - k ∧ k ≤ pl.length ∧ Grow rLine 4 44 H H' (tm 6) (cngL p (pl.take k)) ∧ tm 3 = .vptr [[.vsl (t.map rClass) cl]] 0 0 ∧ tm 4 = aProg p cl' ∧ tm 5 = .vsl (pl.map rI) c1 ∧ tm 7 = I k) pl.length ⟨0, by omega, by omega, ?_⟩ ?_
    · simp +contextual -dsimp -implicitDefEqProofs (maxSteps := 5000000) only [go_sem, reduceIte, reduceCtorEq, Nat.reduceEqDiff, Nat.reduceBEq, Nat.reduceAdd, Nat.reduceLeDiff, Nat.reduceMul, Nat.reduceLT, Int.reduceEq, Int.reduceLT, Int.reduceLE]
      exact hg
    · rintro m tm H' ⟨k, rfl, hk, hg, t3, t4, t5, t7⟩
      by_cases hlt : k < pl.length
      · obtain ⟨i, i1, i2, i3, i4, i5⟩ := hat k hlt
        rw [i4] at hg
        rcases hg with ⟨e, _, _⟩ | ⟨bx, cx, hbx, t6, rfl⟩
        · have e2 := congrArg List.length e
          rw [cngL_len] at e2
          simp only [List.length_nil] at e2
          omega
        have hl2 : i < (cngL p (upTo (deadsP t p) i)).length := by rw [cngL_len]; exact i1
        have hv0 : (cngL p (upTo (deadsP t p) i)).getD i default = p.getD i default := cngL_upTo_at
        have hnx := cngL_next (p := p) i2
        obtain ⟨n1, n2⟩ := numsV_at hval i1
        have wa : ((p.getD i default).kind = 1 ∨ (p.getD i default).kind = 4) → IntKind.i64.wrap (99 - (p.getD i default).a) = 99 - (p.getD i default).a := fun w => w64 (by have := n1 w; omega) (by have := n1 w; omega)
        have wb : (p.getD i default).kind = 2 → IntKind.i64.wrap (99 - (p.getD i default).b) = 99 - (p.getD i default).b := fun w => w64 (by have := n2 w; omega) (by have := n2 w; omega)
        have fin : ∀ (q : List Line), q = cngL p (upTo (deadsP t p) (i + 1)) → Grow rLine 4 44 H (H.set bx ⟨4, 44, q.map rLine⟩) (.sl bx 4 0 (cngL p (upTo (deadsP t p) i)).length cx) (cngL p (pl.take (k + 1))) := fun q hq => by
          rw [i5, hq]
          exact .inr ⟨bx, cx, hbx, by rw [cngL_len, cngL_len], rfl⟩
        simp only [cngL_len] at fin
        simp +contextual -dsimp -implicitDefEqProofs (maxSteps := 5000000) only [go_sem, reduceIte, reduceCtorEq, Nat.reduceEqDiff, Nat.reduceBEq, Nat.reduceAdd, Nat.reduceLeDiff, Nat.reduceMul, Nat.reduceLT, Int.reduceEq, Int.reduceLT, Int.reduceLE, t3, t4, t5, t6, t7, hlt, i3, hl2, hv0, cngL_len]
        refine ⟨i1, i1, fun b8 hb8 => ⟨fun h14 => ?_, fun hn14 => ⟨fun h2 => ?_, fun hn2 => ?_⟩⟩⟩
        · have nk2 : ¬ (p.getD i default).kind = 2 := by omega
          refine draw_intro [0, 0, 0, 0, 0, 0, 0, 0, 0, 0, 2] AHeap.none (by kernel_rfl) none_le ?_
          simp +contextual -dsimp -implicitDefEqProofs (maxSteps := 5000000) only [go_sem, reduceIte, reduceCtorEq, Nat.reduceEqDiff, Nat.reduceBEq, Nat.reduceAdd, Nat.reduceLeDiff, Nat.reduceMul, Nat.reduceLT, Int.reduceEq, Int.reduceLT, Int.reduceLE, t3, t4, t5, t6, t7, hlt, i3, hl2, hv0, cngL_len, i1]
          rw [wa h14, wrO_y (y := chX (p.getD i default)) hl2 (by rw [hv0, chX_1 h14]; rfl), hnx]
          simp +contextual -dsimp -implicitDefEqProofs (maxSteps := 5000000) only [go_sem, reduceIte, reduceCtorEq, Nat.reduceEqDiff, Nat.reduceBEq, Nat.reduceAdd, Nat.reduceLeDiff, Nat.reduceMul, Nat.reduceLT, Int.reduceEq, Int.reduceLT, Int.reduceLE, t3, t4, t5, t6, t7, hlt, i3, hl2, hv0, cngL_len, i1, nk2]
          exact ⟨_, by omega, k + 1, rfl, by omega, fin _ rfl, I_wrap (by omega) (by omega) (by omega)⟩
        · refine draw_intro [0, 0, 0, 0, 0, 0, 0, 0, 0, 0, 2] AHeap.none (by kernel_rfl) none_le ?_
          simp +contextual -dsimp -implicitDefEqProofs (maxSteps := 5000000) only [go_sem, reduceIte, reduceCtorEq, Nat.reduceEqDiff, Nat.reduceBEq, Nat.reduceAdd, Nat.reduceLeDiff, Nat.reduceMul, Nat.reduceLT, Int.reduceEq, Int.reduceLT, Int.reduceLE, t3, t4, t5, t6, t7, hlt, i3, hl2, hv0, cngL_len, i1]
          rw [wb h2, wrO_y (y := chX (p.getD i default)) hl2 (by rw [hv0, chX_2 h2]; rfl), hnx]
          simp +contextual -dsimp -implicitDefEqProofs (maxSteps := 5000000) only [go_sem, reduceIte, reduceCtorEq, Nat.reduceEqDiff, Nat.reduceBEq, Nat.reduceAdd, Nat.reduceLeDiff, Nat.reduceMul, Nat.reduceLT, Int.reduceEq, Int.reduceLT, Int.reduceLE, t3, t4, t5, t6, t7, hlt, i3, hl2, hv0, cngL_len, i1]
          exact ⟨_, by omega, k + 1, rfl, by omega, fin _ rfl, I_wrap (by omega) (by omega) (by omega)⟩
        · have hsame : cngL p (upTo (deadsP t p) i) = cngL p (upTo (deadsP t p) (i + 1)) := by
            rw [← hnx, chX_3 hn2 (fun w => by omega), ← hv0]
            apply List.ext_getElem?
            intro n
            rw [List.getElem?_set]
            split
            · rename_i e; subst e
              rw [List.getD_eq_getElem?_getD, List.getElem?_eq_getElem hl2]; rfl
            · rfl
          try simp +contextual -dsimp -implicitDefEqProofs (maxSteps := 5000000) only [go_sem, reduceIte, reduceCtorEq, Nat.reduceEqDiff, Nat.reduceBEq, Nat.reduceAdd, Nat.reduceLeDiff, Nat.reduceMul, Nat.reduceLT, Int.reduceEq, Int.reduceLT, Int.reduceLE, t3, t4, t5, t6, t7, hlt, i3, hl2, hv0, cngL_len, i1]
          exact ⟨_, by omega, k + 1, rfl, by omega, fin _ hsame, I_wrap (by omega) (by omega) (by omega)⟩
      · have hke : k = pl.length := by omega
        rw [hke, List.take_length, hall] at hg
        have hcg : List.zipWith chL p (deadsP t p) = chgP t p := rfl
        rw [hcg] at hg
        try simp +contextual -dsimp -implicitDefEqProofs (maxSteps := 5000000) only [go_sem, reduceIte, reduceCtorEq, Nat.reduceEqDiff, Nat.reduceBEq, Nat.reduceAdd, Nat.reduceLeDiff, Nat.reduceMul, Nat.reduceLT, Int.reduceEq, Int.reduceLT, Int.reduceLE, t3, t4, t5, t7, hlt]
        refine grow_end 6 hg fun cz => ?_
        try simp +contextual -dsimp -implicitDefEqProofs (maxSteps := 5000000) only [go_sem, reduceIte, reduceCtorEq, Nat.reduceEqDiff, Nat.reduceBEq, Nat.reduceAdd, Nat.reduceLeDiff, Nat.reduceMul, Nat.reduceLT, Int.reduceEq, Int.reduceLT, Int.reduceLE, t3, t4, t5, t7, hlt]
        refine draw_intro [0, 3, 0, 0, 0, 3, 1, 0, 2, 2, 0, 0] AHeap.none (by kernel_rfl) none_le ?_
        simp +contextual -dsimp -implicitDefEqProofs (maxSteps := 5000000) only [go_sem, reduceIte, reduceCtorEq, Nat.reduceEqDiff, Nat.reduceBEq, Nat.reduceAdd, Nat.reduceLeDiff, Nat.reduceMul, Nat.reduceLT, Int.reduceEq, Int.reduceLT, Int.reduceLE, t3, t4, t5, t7, hlt]
        refine (c_ascends _ _ _ hasc (by omega)).det ?_
        simp +contextual -dsimp -implicitDefEqProofs (maxSteps := 5000000) only [go_sem, reduceIte, reduceCtorEq, Nat.reduceEqDiff, Nat.reduceBEq, Nat.reduceAdd, Nat.reduceLeDiff, Nat.reduceMul, Nat.reduceLT, Int.reduceEq, Int.reduceLT, Int.reduceLE, t3, t4, t5, t7, hlt]
        refine (c_mRunV t cl (chgP t p) cz _ hn (by have := g1.2.1; omega) (validB_true.2 g1)).mono ?_
        rintro _ H ⟨⟨c5, c6, rfl⟩, rfl⟩
        rw [g2]
        simp +contextual -dsimp -implicitDefEqProofs (maxSteps := 5000000) only [go_sem, reduceIte, reduceCtorEq, Nat.reduceEqDiff, Nat.reduceBEq, Nat.reduceAdd, Nat.reduceLeDiff, Nat.reduceMul, Nat.reduceLT, Int.reduceEq, Int.reduceLT, Int.reduceLE, t3, t4, t5, t7, hlt]
        refine (c_mRunV t cl p cl' _ hn (by omega) hv).mono ?_
        rintro _ H ⟨⟨c7, c8, rfl⟩, rfl⟩
        simp +contextual -dsimp -implicitDefEqProofs (maxSteps := 5000000) only [go_sem, reduceIte, reduceCtorEq, Nat.reduceEqDiff, Nat.reduceBEq, Nat.reduceAdd, Nat.reduceLeDiff, Nat.reduceMul, Nat.reduceLT, Int.reduceEq, Int.reduceLT, Int.reduceLE, t3, t4, t5, t7, hlt]
        refine (c_equalResult _ _ _ _ _ _ _).det ?_
        rw [resEq_refl]
        simp +contextual -dsimp -implicitDefEqProofs (maxSteps := 5000000) only [go_sem, reduceIte, reduceCtorEq, Nat.reduceEqDiff, Nat.reduceBEq, Nat.reduceAdd, Nat.reduceLeDiff, Nat.reduceMul, Nat.reduceLT, Int.reduceEq, Int.reduceLT, Int.reduceLE, t3, t4, t5, t7, hlt]
        refine retR_less (l := [B true]) (H' := H) ?_ (AHeap.le_refl _) ⟨rfl, rfl⟩
        simp only [resA, go_sem, reduceIte, reduceCtorEq, Nat.reduceEqDiff, Nat.reduceBEq, Nat.reduceAdd, Nat.reduceLeDiff, Nat.reduceMul, Nat.reduceLT, Int.reduceEq, Int.reduceLT, Int.reduceLE]
end
end
end Go.Proofs.YtoacjmckefahcaaGreat
