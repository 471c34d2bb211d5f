/- Walks and plain laws that the claims of this seat lean on. No condition. -/
import Derived.Test.YtoacjmckefahcaaGreatJ5
import Derived.Test.YtoacjmckefahcaaGreatJ4
import Derived.Lib.ItoaNum
set_option linter.unusedVariables false
set_option linter.unusedSimpArgs false
namespace Go.Proofs.YtoacjmckefahcaaGreat
open Go Go.Sim
section
set_option maxRecDepth 100000
attribute [local go_sem ↓] aw_skip aw_ret aw_exit aw_region aw_draw aw_seq aw_block aw_loop aw_cond frz_nil frz_cons sq_normal sq_ret sq_exit exB_normal exB_ret exB_same exB_other retQ_ret retQ_normal ret0_ret ret0_normal ao_nil go1 g_move g_assign g_pick g_build g_load g_binOp g_unOp g_convert g_fieldAddr g_field g_indexAddr g_index g_extract g_lookup g_slice g_nilCheck g_len g_makeFunc h_call h_append h_alloc h_box h_buildSlice h_makeSlice h_store gV i_box i_buildSlice i_move i_assign i_build i_load i_binOp i_unOp i_convert i_fieldAddr i_field i_indexAddr i_index i_extract i_lookup i_makeMap i_mapUpdate i_slice i_nilCheck i_makeFunc i_len i_max i_min i_alloc i_makeSlice i_store i_append i_call i_pick boxI boxA buildSliceI buildSliceA makeSliceA makeMapA allocA storeA p_move p_assign p_pick p_build p_load p_binOp p_unOp p_convert p_fieldAddr p_field p_indexAddr p_index p_extract p_lookup p_makeMap p_mapUpdate p_slice p_nilCheck p_makeFunc p_len p_max p_min p_alloc p_box p_buildSlice p_makeSlice p_store p_append p_call x_nil x_go1 x_g0 x_g1 x_g2 x_g3 x_s0 x_s1 x_s2 x_s3 u_move u_assign u_pick u_build u_load u_binOp u_unOp u_convert u_fieldAddr u_field u_indexAddr u_index u_extract u_lookup u_slice u_nilCheck u_makeFunc u_len u_buildSlice x_s4 x_g4 rq_normal rq_ret rq_exit aw_range
attribute [local go_sem] frzV_sl frzK_some set_none set_other AHeap.set_self set_del set_set cnd_t cnd_f cnd_b retA_one retA_two retA_three retA_four retA_nil gIf_b mrgV_b mrgV_wh mrgV_U gIf_U gIf_wh mrgB_f mrgB_some mrgB_if wh_true wh_false keepA_some keepA_if gD_zero gD_succ gT_some bxA_t bxA_f callA_fn ev_tmp ev_const ev_global ev_func oc_bool oc_int oc_string oc_nil oc_nilptr oc_nilfunc cl_bool cl_int cl_string cl_nil updO_some updO_none upd_same upd_other init_at pickA_b pickA_wh selA_t selA_f selA_and selA_or selA_orn selA_orm selA_bb selA_ii beqt b_add b_sub b_mul b_and b_or b_xor b_eql b_neq b_lss b_leq b_gtr b_geq b_quo b_rem b_shr b_seql b_sneq b_sadd b_beql b_bneq b_aeql b_aneq u_not u_neg isConstOp eqA eqCellV List.getD_cons_zero List.getD_cons_succ List.map_cons List.map_nil List.nil_append List.cons_append List.append_nil if_true if_false Option.map_some Option.map_none ne_eq not_false_eq_true oneA ldv ld1v ld1s wr1s ldRow stRow row_lit row_agg row_vsl row_sl row_ptr row_fn one_I one_B one_S one_vsl one_sl one_ptr one_fn extractA okA rI rS rU rClass rFault rExit rStart rLine Int.toNat_natCast List.length_cons List.length_nil List.length_map List.all_cons List.all_nil Bool.and_true Nat.zero_add List.getElem?_cons_zero List.getElem?_cons_succ List.take_succ_cons List.take_zero List.drop_succ_cons List.drop_zero and_self true_and and_true implies_true decide_eq_true_eq decide_eq_false_iff_not Bool.or_eq_true Bool.or_eq_false_iff Bool.and_eq_true Bool.not_eq_true' Bool.not_eq_false' beq_false decide_true decide_false Int.ofNat_lt Int.ofNat_le Int.natCast_nonneg Bool.or_true Bool.or_false Bool.true_or Bool.false_or beq_self_eq_true List.drop_one Bool.not_true Bool.not_false Bool.not_not Bool.false_eq_true Bool.true_eq_false false_implies true_implies Bool.true_and Bool.false_and Bool.and_false not_true_eq_false Int.natCast_eq_zero Int.natCast_pos Int.natCast_zero false_and and_false or_false false_or or_true true_or Bool.or_self none_le_iff List.replicate_zero Int.toNat_zero List.replicate_succ buildRows List.set_cons_zero List.set_cons_succ List.set_nil List.mapM_nil maxLen_eq Nat.zero_le Nat.mul_one Nat.one_mul bldA fillA spliceA List.take_nil List.drop_nil List.getElem?_nil ld1o wr1o bldSliceA le_same cv_i cvI_t quietT_fn qvd_some ld_o ldO_1 ldO_l wr_o wrO_1 set_2 set_3 set_4 putL_nil putL_cons List.zip_cons_cons List.zip_nil_left List.zip_nil_right List.toList_toArray frzV_set ti1 ti2 tk2 ti3 te3 ts3 tk3 tz3 ti4 tb4 ti5 tk5 tz5 ti9 te9 ts9 tk9 tz9 ti12 tk12 ti13 tp13 tf13_0 tf13_1 ti20 ti21 tk21 tz21 ti22 te22 tz22 ti23 te23 ti24 tp24 tf24_0 ti25 tp25 tf25_0 ti26 te26 ti28 ti29 ti30 ti31 ti32 ti33 te33 ti34 te34 ti35 tp35 tf35_0 ti36 tp36 tf36_0 ti37 tp37 tf37_0 tf37_1 tf37_2 tf37_3 ti38 tp38 tf38_0 tf38_1 tf38_2 tf38_3 ti39 ti40 ti41 ti42 ti43 tq43 tp43 tf43_0 tf43_1 tf43_2 tf43_3 ti44 tq44 tp44 tf44_0 tf44_1 tf44_2 tf44_3 ti45 ti46 ti47 ti48 ti49 ti50 ti51 tq51 tp51 tf51_0 tf51_1 tf51_2 ti52 tq52 tp52 tf52_0 tf52_1 tf52_2 ti54 ti55 ti56 ti57 ti58 ti59 ti60 ti61 ti62 ti63 ti64 ti65 ti66 ti67 ti68 ti69 ti70 tq70 tp70 tf70_0 tf70_1 ti71 tq71 tp71 tf71_0 tf71_1 ti72 ti73 ti74 ti75 ti76 ti77 ti78 ti79 tp79 tf79_0 tf79_1 tf79_2 tf79_3 tf79_4 ti80 tp80 tf80_0 tf80_1 tf80_2 tf80_3 tf80_4 ti81 ti83 ti84 ti85 ti86 tq86 tp86 tf86_0 tf86_1 tf86_2 tf86_3 tf86_4 ti87 tq87 tp87 tf87_0 tf87_1 tf87_2 tf87_3 tf87_4 ti88 ti89 ti90 ti91 ti92 tp92 tf92_0 tf92_1 ti93 tp93 tf93_0 tf93_1 ti94 ti95 ti96 ti97 tq97 tp97 tf97_0 tf97_1 ti98 tq98 tp98 tf98_0 tf98_1 ti99 ti100 ti101 ti103 ti104 ti105 ti106 ti107 ti108 ti109 ti110 ti111 te111 ti112 ti113 ti114 ti115 ti116 ti117 ti118 ti119 ti120 ti121 ti122 ti123 ti124 ti125 ti126 ti127 tk127 tz127 ti128 ti129 ti130 tk130 ti132 ti133 ti134 ti136 ti137 ti138 tk138 tz138 ti139 ti140 tk140 tz140 ti141 tk141 ti142 ti143 ti144 ti145 ti146 ti147 ti148 ti149 ti155 ti159 fp13_0 fv13_0 fp13_1 fv13_1 fp24_0 fv24_0 fp25_0 fv25_0 fp35_0 fv35_0 fp36_0 fv36_0 fp37_0 fv37_0 fp37_1 fv37_1 fp37_2 fv37_2 fp37_3 fv37_3 fp38_0 fv38_0 fp38_1 fv38_1 fp38_2 fv38_2 fp38_3 fv38_3 fp43_0 fv43_0 fp43_1 fv43_1 fp43_2 fv43_2 fp43_3 fv43_3 fp44_0 fv44_0 fp44_1 fv44_1 fp44_2 fv44_2 fp44_3 fv44_3 fp51_0 fv51_0 fp51_1 fv51_1 fp51_2 fv51_2 fp52_0 fv52_0 fp52_1 fv52_1 fp52_2 fv52_2 fp70_0 fv70_0 fp70_1 fv70_1 fp71_0 fv71_0 fp71_1 fv71_1 fp79_0 fv79_0 fp79_1 fv79_1 fp79_2 fv79_2 fp79_3 fv79_3 fp79_4 fv79_4 fp80_0 fv80_0 fp80_1 fv80_1 fp80_2 fv80_2 fp80_3 fv80_3 fp80_4 fv80_4 fp86_0 fv86_0 fp86_1 fv86_1 fp86_2 fv86_2 fp86_3 fv86_3 fp86_4 fv86_4 fp87_0 fv87_0 fp87_1 fv87_1 fp87_2 fv87_2 fp87_3 fv87_3 fp87_4 fv87_4 fp92_0 fv92_0 fp92_1 fv92_1 fp93_0 fv93_0 fp93_1 fv93_1 fp97_0 fv97_0 fp97_1 fv97_1 fp98_0 fv98_0 fp98_1 fv98_1 lv22 ll22 is22 ix22 sh22 so22 sb22 sm22 sp22 lv23 ll23 is23 ix23 sh23 so23 sb23 sm23 sp23 lv26 ll26 is26 ix26 sh26 so26 sb26 sm26 sp26 lv33 ll33 is33 ix33 sh33 so33 sb33 sm33 sp33 lv34 ll34 is34 ix34 sh34 so34 sb34 sm34 sp34 lv111 ll111 is111 ix111 sh111 so111 sb111 sm111 sp111 xs9 ls9 sx9 sy9 sz9
section
open Go Go.Sim
set_option maxRecDepth 100000
set_option maxHeartbeats 4000000

/-- The first jump in what goes on with a try. -/
def firstC : Fo → Nat → Option Nat
  | .nil, _ => none
  | .node k _ _ kids rest, e => if followsK k = true then (if k = 8 then firstC rest (e + 1 + kids.size) else match firstF kids (e + 1) false with
    | some j => some j
    | none => firstC rest (e + 1 + kids.size)) else none
theorem firstF_chain : ∀ (f : Fo) (e : Nat) (lp : Bool), okF f lp true = true → firstF f e true = match firstC f e with
    | some j => some j
    | none => firstF (skipF f) (skipN f e) false
  | .nil, e, lp, _ => rfl
  | .node k a b kids rest, e, lp, h => by
    by_cases hf : followsK k = true
    · have hf' := followsK_iff.1 hf
      rcases okF_node h with ⟨_, _, o1, o2⟩ | ⟨q, _⟩
      rotate_left
      · rw [hf] at q; cases q
      have ih := firstF_chain rest (e + 1 + kids.size) lp o2
      by_cases k8 : k = 8
      · have e1 : firstF (.node k a b kids rest) e true = firstF rest (e + 1 + kids.size) true := by simp only [firstF]; rw [if_pos ⟨trivial, k8⟩]
        have e2 : firstC (.node k a b kids rest) e = firstC rest (e + 1 + kids.size) := by simp only [firstC]; rw [if_pos hf, if_pos k8]
        have e3 : skipF (.node k a b kids rest) = skipF rest := by simp only [skipF]; rw [if_pos hf]
        have e4 : skipN (.node k a b kids rest) e = skipN rest (e + 1 + kids.size) := by simp only [skipN]; rw [if_pos hf]
        rw [e1, e2, e3, e4, ih]
      · have hj : ¬ jumpsK k = true := by rw [jumpsK_iff]; omega
        have e1 : firstF (.node k a b kids rest) e true = match firstF kids (e + 1) false with
            | some j => some j
            | none => firstF rest (e + 1 + kids.size) true := by
          have o1 : ¬ (k = 12 ∧ a = 0) := by omega
          simp only [firstF]
          rw [if_neg (show ¬ (True ∧ k = 8) from fun q => k8 q.2), if_neg hj, if_neg o1, hf]
          simp only [Bool.and_self, Bool.or_true]
          cases firstF kids (e + 1) false <;> rfl
        have e2 : firstC (.node k a b kids rest) e = match firstF kids (e + 1) false with
            | some j => some j
            | none => firstC rest (e + 1 + kids.size) := by
          simp only [firstC]
          rw [if_pos hf, if_neg k8]
        have e3 : skipF (.node k a b kids rest) = skipF rest := by simp only [skipF]; rw [if_pos hf]
        have e4 : skipN (.node k a b kids rest) e = skipN rest (e + 1 + kids.size) := by simp only [skipN]; rw [if_pos hf]
        rw [e1, e2, e3, e4]
        cases firstF kids (e + 1) false with
        | some j => rfl
        | none => exact ih
    · have e2 : firstC (.node k a b kids rest) e = none := by simp only [firstC]; rw [if_neg hf]
      have e3 : skipF (.node k a b kids rest) = .node k a b kids rest := by simp only [skipF]; rw [if_neg hf]
      have e4 : skipN (.node k a b kids rest) e = e := by simp only [skipN]; rw [if_neg hf]
      have k8 : k ≠ 8 := fun q => by subst q; exact hf rfl
      have hf' : followsK k = false := by simpa using hf
      rw [e2, e3, e4]
      simp only [firstF]
      rw [if_neg (show ¬ (True ∧ k = 8) from fun q => k8 q.2), if_neg (show ¬ (false = true ∧ k = 8) from fun q => k8 q.2), hf']
      simp only [Bool.and_false, Bool.or_false]
def jumpInF (k a : Int) (kids rest : Fo) (q : Nat) : Option Nat :=
  if opensK k = false ∨ (k = 12 ∧ a = 0) then none else match firstF kids (q + 1) false with
    | some j => some j
    | none => if k = 7 then firstC rest (q + 1 + kids.size) else none
theorem firstF_step {t : List Class} {k a b d : Int} {kids rest : Fo} {q : Nat} {lp : Bool} (hn : numsF t (.node k a b kids rest) d = true) (h : okF (.node k a b kids rest) lp false = true) :
    firstF (.node k a b kids rest) q false = if jumpsK k = true then some q else match jumpInF k a kids rest q with
      | some j => some j
      | none => if k = 7 then firstF (skipF rest) (skipN rest (q + 1 + kids.size)) false else firstF rest (q + 1 + kids.size) false := by
  have hf : followsK k = false := by
    rcases okF_node h with ⟨_, w, _⟩ | ⟨w, _⟩
    · cases w
    · exact w
  simp only [firstF]
  rw [if_neg (fun w => by cases w.1), hf, Bool.and_false, Bool.or_false]
  by_cases hj : jumpsK k = true
  · rw [if_pos hj, if_pos hj]
  · rw [if_neg hj, if_neg hj]
    unfold jumpInF
    by_cases k7 : k = 7
    · subst k7
      rw [if_neg (by omega), if_neg (fun w => by rcases w with w | w; exact absurd w (by decide); omega), if_pos rfl, if_pos rfl, decide_eq_true rfl]
      have o2 : okF rest lp true = true := by
        rcases okF_node h with ⟨w, _⟩ | ⟨_, ⟨_, _, _, o⟩ | ⟨o, _⟩⟩
        · cases w
        · exact o
        · exact absurd rfl o
      rw [firstF_chain rest _ lp o2]
      cases firstF kids (q + 1) false with
      | some j => rfl
      | none => rfl
    · rw [decide_eq_false k7, if_neg k7, if_neg k7]
      by_cases hz : k = 12 ∧ a = 0
      · rw [if_pos hz, if_pos (.inr hz)]
      · rw [if_neg hz]
        by_cases ho : opensK k = false
        · rw [if_pos (.inl ho)]
          have hkn : kids = .nil := by
            cases kids with
            | nil => rfl
            | node _ _ _ _ _ => rw [opens_kids hn (fun w => by cases w)] at ho; cases ho
          subst hkn
          rfl
        · rw [if_neg (fun w => by rcases w with w | w; exact ho w; exact hz w)]
          cases firstF kids (q + 1) false <;> rfl
def oI : Option Nat → Int
  | none => -1
  | some j => j
theorem jumpP_oI (p : List Line) : jumpP p = oI (firstF (forestP p) 0 false) := by
  unfold jumpP
  cases firstF (forestP p) 0 false <;> rfl
def FJ (t : List Class) (p : List Line) (cl : Bool) (n : Nat) : Prop :=
  ∀ (f : Fo) (i : Nat) (d : Int) (lp : Bool) (H : AHeap), f.size < n → At p i d f → numsF t f d = true → okF f lp false = true → ACalls Tryz.prog 57 [aProg p cl, I i, I (i + f.size : Nat)] H fun r H' => r = I (oI (firstF f i false)) ∧ H' = H
theorem c_jumpIn {t : List Class} {p : List Line} {cl : Bool} {n : Nat} (ih : FJ t p cl n) (hp : p.length ≤ 1000) {q : Nat} {d k a b : Int} {kids rest : Fo} {lp : Bool} (ha : At p q d (.node k a b kids rest)) (hn : numsF t (.node k a b kids rest) d = true) (ho : okF (.node k a b kids rest) lp false = true) (hk : kids.size + rest.size < n) (H : AHeap) :
    ACalls Tryz.prog 90 [aProg p cl, I q] H fun r H' => r = I (oI (jumpInF k a kids rest q)) ∧ H' = H := by
  obtain ⟨hq, hqe⟩ := ha.head
  obtain ⟨n1, n2, n3, n4, n5⟩ := numsF_node hn
  have hkl := ha.kids.len
  have hwq : IntKind.i64.wrap ((q : Int) + 1) = ((q + 1 : Nat) : Int) := by rw [w64 (by omega) (by omega)]; rfl
  refine acalls_of0 Tryz.func90 rfl (by kernel_rfl) rfl rfl (awp_sound (fz := fun _ => []) (im := fun _ => false) mixed _ _ _ _ (by kernel_rfl) ?_)
  simp +contextual -dsimp -implicitDefEqProofs (maxSteps := 5000000) only [go_sem, reduceIte, reduceCtorEq, Nat.reduceEqDiff, Nat.reduceBEq, Nat.reduceAdd, Nat.reduceLeDiff, Nat.reduceMul, Nat.reduceLT, Int.reduceEq, Int.reduceLT, Int.reduceLE, hq, hqe]
  refine (c_opens _ _).det ?_
  unfold jumpInF
  cases hop : opensK k
  · rw [if_pos (.inl rfl)]
    simp +contextual -dsimp -implicitDefEqProofs (maxSteps := 5000000) only [go_sem, reduceIte, reduceCtorEq, Nat.reduceEqDiff, Nat.reduceBEq, Nat.reduceAdd, Nat.reduceLeDiff, Nat.reduceMul, Nat.reduceLT, Int.reduceEq, Int.reduceLT, Int.reduceLE, hq, hqe]
    rfl
  · by_cases hz : k = 12 ∧ a = 0
    · rw [if_pos (.inr hz)]
      obtain ⟨k12, a0⟩ := hz
      simp +contextual -dsimp -implicitDefEqProofs (maxSteps := 5000000) only [go_sem, reduceIte, reduceCtorEq, Nat.reduceEqDiff, Nat.reduceBEq, Nat.reduceAdd, Nat.reduceLeDiff, Nat.reduceMul, Nat.reduceLT, Int.reduceEq, Int.reduceLT, Int.reduceLE, hq, hqe, k12, a0]
      rfl
    · rw [if_neg (fun w => by rcases w with w | w; cases w; exact hz w)]
      obtain ⟨lp', o1⟩ := ok_kids ho hop
      by_cases k12 : k = 12
      · have a0 : ¬ a = 0 := fun w => hz ⟨k12, w⟩
        simp +contextual -dsimp -implicitDefEqProofs (maxSteps := 5000000) only [go_sem, reduceIte, reduceCtorEq, Nat.reduceEqDiff, Nat.reduceBEq, Nat.reduceAdd, Nat.reduceLeDiff, Nat.reduceMul, Nat.reduceLT, Int.reduceEq, Int.reduceLT, Int.reduceLE, hq, hqe, k12, a0, hwq]
        refine (c_blockEnd _ _ _ _ hq).det ?_
        rw [ha.endP]
        simp +contextual -dsimp -implicitDefEqProofs (maxSteps := 5000000) only [go_sem, reduceIte, reduceCtorEq, Nat.reduceEqDiff, Nat.reduceBEq, Nat.reduceAdd, Nat.reduceLeDiff, Nat.reduceMul, Nat.reduceLT, Int.reduceEq, Int.reduceLT, Int.reduceLE, hq, hqe]
        refine (ih kids (q + 1) (d + 1) lp' _ (by omega) ha.kids n4 o1).det ?_
        cases hfk : firstF kids (q + 1) false with
        | some j =>
          have z : (0 : Int) ≤ (j : Int) := by omega
          simp +contextual -dsimp -implicitDefEqProofs (maxSteps := 5000000) only [go_sem, reduceIte, reduceCtorEq, Nat.reduceEqDiff, Nat.reduceBEq, Nat.reduceAdd, Nat.reduceLeDiff, Nat.reduceMul, Nat.reduceLT, Int.reduceEq, Int.reduceLT, Int.reduceLE, hq, hqe, oI, z]
          try rfl
        | none =>
          by_cases k7 : k = 7
          · rw [if_pos k7]
            have o2 : okF rest lp true = true := by
              rcases okF_node ho with ⟨_, w, _⟩ | ⟨_, ⟨_, _, _, o⟩ | ⟨o, _⟩⟩
              · cases w
              · exact o
              · exact absurd k7 o
            simp +contextual -dsimp -implicitDefEqProofs (maxSteps := 5000000) only [go_sem, reduceIte, reduceCtorEq, Nat.reduceEqDiff, Nat.reduceBEq, Nat.reduceAdd, Nat.reduceLeDiff, Nat.reduceMul, Nat.reduceLT, Int.reduceEq, Int.reduceLT, Int.reduceLE, hq, hqe, oI, k7]
            refine acalls_frz (c_chainOf p cl q _ hq (by omega)) fun c6 => ?_
            rw [chainP_at ha]
            try simp +contextual -dsimp -implicitDefEqProofs (maxSteps := 5000000) only [go_sem, reduceIte, reduceCtorEq, Nat.reduceEqDiff, Nat.reduceBEq, Nat.reduceAdd, Nat.reduceLeDiff, Nat.reduceMul, Nat.reduceLT, Int.reduceEq, Int.reduceLT, Int.reduceLE, hq, hqe, oI, k7]
            have hrl := ha.rest.len
            have hcl := chain_len rest (q + 1 + kids.size)
            refine aloop mixed (fz := fun _ => []) (im := fun _ => false) (by kernel_rfl) (fun m tm H' => ∃ (g : Fo) (e x : Nat) (y : Option Nat), m = g.size ∧ At p e d g ∧ numsF t g d = true ∧ okF g lp true = true ∧ g.size ≤ rest.size ∧ x ≤ (chainN rest (q + 1 + kids.size)).length ∧ H' = H ∧ (y = none → (chainN rest (q + 1 + kids.size)).drop x = chainN g e ∧ firstC rest (q + 1 + kids.size) = firstC g e) ∧ (∀ j, y = some j → firstC rest (q + 1 + kids.size) = some j) ∧ tm 0 = aProg p cl ∧ tm 5 = I (oI y) ∧ tm 6 = .vsl ((toI (q :: chainN rest (q + 1 + kids.size))).map rI) c6 ∧ tm 7 = I (x + 1 : Nat)) rest.size ⟨rest, q + 1 + kids.size, 0, none, rfl, ha.rest, n5, o2, Nat.le_refl _, Nat.zero_le _, rfl, fun _ => ⟨rfl, rfl⟩, (fun j w => by cases w), ?_⟩ ?_
            · simp +contextual -dsimp -implicitDefEqProofs (maxSteps := 5000000) only [go_sem, reduceIte, reduceCtorEq, Nat.reduceEqDiff, Nat.reduceBEq, Nat.reduceAdd, Nat.reduceLeDiff, Nat.reduceMul, Nat.reduceLT, Int.reduceEq, Int.reduceLT, Int.reduceLE, oI]
              try rfl
            · rintro m tm H ⟨g, e, x, y, rfl, hga, hgn, hgo, hgs, hxl, rfl, hy1, hy2, t0, t5, t6, t7⟩
              cases y with
              | some j =>
                have z : ¬ (j : Int) < 0 := by omega
                rw [hy2 j rfl]
                by_cases hx' : x + 1 < (chainN rest (q + 1 + kids.size)).length + 1
                · simp +contextual -dsimp -implicitDefEqProofs (maxSteps := 5000000) only [go_sem, reduceIte, reduceCtorEq, Nat.reduceEqDiff, Nat.reduceBEq, Nat.reduceAdd, Nat.reduceLeDiff, Nat.reduceMul, Nat.reduceLT, Int.reduceEq, Int.reduceLT, Int.reduceLE, t0, t5, t6, t7, toI_len, List.length_cons, hx', oI, z]
                  try rfl
                · simp +contextual -dsimp -implicitDefEqProofs (maxSteps := 5000000) only [go_sem, reduceIte, reduceCtorEq, Nat.reduceEqDiff, Nat.reduceBEq, Nat.reduceAdd, Nat.reduceLeDiff, Nat.reduceMul, Nat.reduceLT, Int.reduceEq, Int.reduceLT, Int.reduceLE, t0, t5, t6, t7, toI_len, List.length_cons, hx', oI, z]
                  try rfl
              | none =>
                obtain ⟨hdx, hfc⟩ := hy1 rfl
                rw [hfc]
                have done : chainN g e = [] → firstC g e = none := fun hcq => by
                  cases g with
                  | nil => rfl
                  | node k2 a2 b2 ks re =>
                    simp only [chainN] at hcq
                    simp only [firstC]
                    split at hcq
                    · cases hcq
                    · rename_i w; rw [if_neg w]
                cases hcq : chainN g e with
                | nil =>
                  rw [hcq] at hdx
                  have hx := drop_nil hdx
                  have hx' : ¬ x + 1 < (chainN rest (q + 1 + kids.size)).length + 1 := by omega
                  rw [done hcq]
                  simp +contextual -dsimp -implicitDefEqProofs (maxSteps := 5000000) only [go_sem, reduceIte, reduceCtorEq, Nat.reduceEqDiff, Nat.reduceBEq, Nat.reduceAdd, Nat.reduceLeDiff, Nat.reduceMul, Nat.reduceLT, Int.reduceEq, Int.reduceLT, Int.reduceLE, t0, t5, t6, t7, toI_len, List.length_cons, hx', oI]
                  try rfl
                | cons q' tl =>
                  cases g with
                  | nil => simp [chainN] at hcq
                  | node k2 a2 b2 ks re =>
                    have hk2 : followsK k2 = true := by
                      simp only [chainN] at hcq
                      split at hcq
                      · assumption
                      · cases hcq
                    have hdx' : (chainN rest (q + 1 + kids.size)).drop x = e :: chainN re (e + 1 + ks.size) := by
                      rw [hdx]; simp only [chainN]; rw [if_pos hk2]
                    obtain ⟨hx1, hx2, hx3⟩ := drop_cons hdx'
                    have hx' : x + 1 < (chainN rest (q + 1 + kids.size)).length + 1 := by omega
                    have hh2 := hga.head
                    have hsz : (Fo.node k2 a2 b2 ks re).size = 1 + ks.size + re.size := rfl
                    obtain ⟨n1', n2', n3', n4', n5'⟩ := numsF_node hgn
                    have hkl' := hga.kids.len
                    obtain ⟨_, _, p1, p2⟩ | ⟨w, _⟩ := okF_node hgo
                    rotate_left
                    · rw [hk2] at w; cases w
                    have hfn : firstC (.node k2 a2 b2 ks re) e = if k2 = 8 then firstC re (e + 1 + ks.size) else match firstF ks (e + 1) false with
                        | some j => some j
                        | none => firstC re (e + 1 + ks.size) := by simp only [firstC]; rw [if_pos hk2]
                    have hwe : IntKind.i64.wrap ((e : Int) + 1) = ((e + 1 : Nat) : Int) := by rw [w64 (by omega) (by omega)]; rfl
                    have z1 : (-1 : Int) < 0 := by decide
                    have hsz8 : (Fo.node 8 a2 b2 ks re).size = 1 + ks.size + re.size := rfl
                    by_cases k8 : k2 = 8
                    · rw [if_pos k8] at hfn
                      simp +contextual -dsimp -implicitDefEqProofs (maxSteps := 5000000) only [go_sem, reduceIte, reduceCtorEq, Nat.reduceEqDiff, Nat.reduceBEq, Nat.reduceAdd, Nat.reduceLeDiff, Nat.reduceMul, Nat.reduceLT, Int.reduceEq, Int.reduceLT, Int.reduceLE, t0, t5, t6, t7, toI_len, toI_at, toI_cons_at, List.length_cons, hx', hx2, hh2.1, hh2.2, oI, z1, k8]
                      exact ⟨re.size, by omega, re, e + 1 + ks.size, x + 1, none, rfl, hga.rest, n5', p2, by omega, hx1, fun _ => ⟨hx3, by subst k8; exact hfn⟩, (fun j w => by cases w), rfl, I_wrap (by omega) (by omega) (by omega)⟩
                    · rw [if_neg k8] at hfn
                      simp +contextual -dsimp -implicitDefEqProofs (maxSteps := 5000000) only [go_sem, reduceIte, reduceCtorEq, Nat.reduceEqDiff, Nat.reduceBEq, Nat.reduceAdd, Nat.reduceLeDiff, Nat.reduceMul, Nat.reduceLT, Int.reduceEq, Int.reduceLT, Int.reduceLE, t0, t5, t6, t7, toI_len, toI_at, toI_cons_at, List.length_cons, hx', hx2, hh2.1, hh2.2, oI, z1, k8]
                      refine draw_intro [0, 0, 0, 0, 1, 0, 0, 0, 0, 0, 0, 3, 2, 0] AHeap.none (by kernel_rfl) none_le ?_
                      simp +contextual -dsimp -implicitDefEqProofs (maxSteps := 5000000) only [go_sem, reduceIte, reduceCtorEq, Nat.reduceEqDiff, Nat.reduceBEq, Nat.reduceAdd, Nat.reduceLeDiff, Nat.reduceMul, Nat.reduceLT, Int.reduceEq, Int.reduceLT, Int.reduceLE, t0, t5, t6, t7, toI_len, toI_at, toI_cons_at, List.length_cons, hx', hx2, hh2.1, hh2.2, hwe]
                      refine (c_blockEnd _ _ _ _ hh2.1).det ?_
                      rw [hga.endP]
                      simp +contextual -dsimp -implicitDefEqProofs (maxSteps := 5000000) only [go_sem, reduceIte, reduceCtorEq, Nat.reduceEqDiff, Nat.reduceBEq, Nat.reduceAdd, Nat.reduceLeDiff, Nat.reduceMul, Nat.reduceLT, Int.reduceEq, Int.reduceLT, Int.reduceLE, t0, t5, t6, t7, toI_len, toI_at, toI_cons_at, hx2, hwe]
                      refine (ih ks (e + 1) (d + 1) lp _ (by omega) hga.kids n4' p1).det ?_
                      simp +contextual -dsimp -implicitDefEqProofs (maxSteps := 5000000) only [go_sem, reduceIte, reduceCtorEq, Nat.reduceEqDiff, Nat.reduceBEq, Nat.reduceAdd, Nat.reduceLeDiff, Nat.reduceMul, Nat.reduceLT, Int.reduceEq, Int.reduceLT, Int.reduceLE, t0, t5, t6, t7]
                      refine ⟨re.size, by omega, re, e + 1 + ks.size, x + 1, firstF ks (e + 1) false, rfl, hga.rest, n5', p2, by omega, hx1, fun w => ⟨hx3, ?_⟩, fun j w => ?_, rfl, I_wrap (by omega) (by omega) (by omega)⟩
                      · rw [hfn, w]
                      · rw [hfn, w]
          · rw [if_neg k7]
            simp +contextual -dsimp -implicitDefEqProofs (maxSteps := 5000000) only [go_sem, reduceIte, reduceCtorEq, Nat.reduceEqDiff, Nat.reduceBEq, Nat.reduceAdd, Nat.reduceLeDiff, Nat.reduceMul, Nat.reduceLT, Int.reduceEq, Int.reduceLT, Int.reduceLE, hq, hqe, oI, k7]
            try rfl
      · simp +contextual -dsimp -implicitDefEqProofs (maxSteps := 5000000) only [go_sem, reduceIte, reduceCtorEq, Nat.reduceEqDiff, Nat.reduceBEq, Nat.reduceAdd, Nat.reduceLeDiff, Nat.reduceMul, Nat.reduceLT, Int.reduceEq, Int.reduceLT, Int.reduceLE, hq, hqe, k12, hwq]
        refine (c_blockEnd _ _ _ _ hq).det ?_
        rw [ha.endP]
        simp +contextual -dsimp -implicitDefEqProofs (maxSteps := 5000000) only [go_sem, reduceIte, reduceCtorEq, Nat.reduceEqDiff, Nat.reduceBEq, Nat.reduceAdd, Nat.reduceLeDiff, Nat.reduceMul, Nat.reduceLT, Int.reduceEq, Int.reduceLT, Int.reduceLE, hq, hqe]
        refine (ih kids (q + 1) (d + 1) lp' _ (by omega) ha.kids n4 o1).det ?_
        cases hfk : firstF kids (q + 1) false with
        | some j =>
          have z : (0 : Int) ≤ (j : Int) := by omega
          simp +contextual -dsimp -implicitDefEqProofs (maxSteps := 5000000) only [go_sem, reduceIte, reduceCtorEq, Nat.reduceEqDiff, Nat.reduceBEq, Nat.reduceAdd, Nat.reduceLeDiff, Nat.reduceMul, Nat.reduceLT, Int.reduceEq, Int.reduceLT, Int.reduceLE, hq, hqe, oI, z]
          try rfl
        | none =>
          by_cases k7 : k = 7
          · rw [if_pos k7]
            have o2 : okF rest lp true = true := by
              rcases okF_node ho with ⟨_, w, _⟩ | ⟨_, ⟨_, _, _, o⟩ | ⟨o, _⟩⟩
              · cases w
              · exact o
              · exact absurd k7 o
            simp +contextual -dsimp -implicitDefEqProofs (maxSteps := 5000000) only [go_sem, reduceIte, reduceCtorEq, Nat.reduceEqDiff, Nat.reduceBEq, Nat.reduceAdd, Nat.reduceLeDiff, Nat.reduceMul, Nat.reduceLT, Int.reduceEq, Int.reduceLT, Int.reduceLE, hq, hqe, oI, k7]
            refine acalls_frz (c_chainOf p cl q _ hq (by omega)) fun c6 => ?_
            rw [chainP_at ha]
            try simp +contextual -dsimp -implicitDefEqProofs (maxSteps := 5000000) only [go_sem, reduceIte, reduceCtorEq, Nat.reduceEqDiff, Nat.reduceBEq, Nat.reduceAdd, Nat.reduceLeDiff, Nat.reduceMul, Nat.reduceLT, Int.reduceEq, Int.reduceLT, Int.reduceLE, hq, hqe, oI, k7]
            have hrl := ha.rest.len
            have hcl := chain_len rest (q + 1 + kids.size)
            refine aloop mixed (fz := fun _ => []) (im := fun _ => false) (by kernel_rfl) (fun m tm H' => ∃ (g : Fo) (e x : Nat) (y : Option Nat), m = g.size ∧ At p e d g ∧ numsF t g d = true ∧ okF g lp true = true ∧ g.size ≤ rest.size ∧ x ≤ (chainN rest (q + 1 + kids.size)).length ∧ H' = H ∧ (y = none → (chainN rest (q + 1 + kids.size)).drop x = chainN g e ∧ firstC rest (q + 1 + kids.size) = firstC g e) ∧ (∀ j, y = some j → firstC rest (q + 1 + kids.size) = some j) ∧ tm 0 = aProg p cl ∧ tm 5 = I (oI y) ∧ tm 6 = .vsl ((toI (q :: chainN rest (q + 1 + kids.size))).map rI) c6 ∧ tm 7 = I (x + 1 : Nat)) rest.size ⟨rest, q + 1 + kids.size, 0, none, rfl, ha.rest, n5, o2, Nat.le_refl _, Nat.zero_le _, rfl, fun _ => ⟨rfl, rfl⟩, (fun j w => by cases w), ?_⟩ ?_
            · simp +contextual -dsimp -implicitDefEqProofs (maxSteps := 5000000) only [go_sem, reduceIte, reduceCtorEq, Nat.reduceEqDiff, Nat.reduceBEq, Nat.reduceAdd, Nat.reduceLeDiff, Nat.reduceMul, Nat.reduceLT, Int.reduceEq, Int.reduceLT, Int.reduceLE, oI]
              try rfl
            · rintro m tm H ⟨g, e, x, y, rfl, hga, hgn, hgo, hgs, hxl, rfl, hy1, hy2, t0, t5, t6, t7⟩
              cases y with
              | some j =>
                have z : ¬ (j : Int) < 0 := by omega
                rw [hy2 j rfl]
                by_cases hx' : x + 1 < (chainN rest (q + 1 + kids.size)).length + 1
                · simp +contextual -dsimp -implicitDefEqProofs (maxSteps := 5000000) only [go_sem, reduceIte, reduceCtorEq, Nat.reduceEqDiff, Nat.reduceBEq, Nat.reduceAdd, Nat.reduceLeDiff, Nat.reduceMul, Nat.reduceLT, Int.reduceEq, Int.reduceLT, Int.reduceLE, t0, t5, t6, t7, toI_len, List.length_cons, hx', oI, z]
                  try rfl
                · simp +contextual -dsimp -implicitDefEqProofs (maxSteps := 5000000) only [go_sem, reduceIte, reduceCtorEq, Nat.reduceEqDiff, Nat.reduceBEq, Nat.reduceAdd, Nat.reduceLeDiff, Nat.reduceMul, Nat.reduceLT, Int.reduceEq, Int.reduceLT, Int.reduceLE, t0, t5, t6, t7, toI_len, List.length_cons, hx', oI, z]
                  try rfl
              | none =>
                obtain ⟨hdx, hfc⟩ := hy1 rfl
                rw [hfc]
                have done : chainN g e = [] → firstC g e = none := fun hcq => by
                  cases g with
                  | nil => rfl
                  | node k2 a2 b2 ks re =>
                    simp only [chainN] at hcq
                    simp only [firstC]
                    split at hcq
                    · cases hcq
                    · rename_i w; rw [if_neg w]
                cases hcq : chainN g e with
                | nil =>
                  rw [hcq] at hdx
                  have hx := drop_nil hdx
                  have hx' : ¬ x + 1 < (chainN rest (q + 1 + kids.size)).length + 1 := by omega
                  rw [done hcq]
                  simp +contextual -dsimp -implicitDefEqProofs (maxSteps := 5000000) only [go_sem, reduceIte, reduceCtorEq, Nat.reduceEqDiff, Nat.reduceBEq, Nat.reduceAdd, Nat.reduceLeDiff, Nat.reduceMul, Nat.reduceLT, Int.reduceEq, Int.reduceLT, Int.reduceLE, t0, t5, t6, t7, toI_len, List.length_cons, hx', oI]
                  try rfl
                | cons q' tl =>
                  cases g with
                  | nil => simp [chainN] at hcq
                  | node k2 a2 b2 ks re =>
                    have hk2 : followsK k2 = true := by
                      simp only [chainN] at hcq
                      split at hcq
                      · assumption
                      · cases hcq
                    have hdx' : (chainN rest (q + 1 + kids.size)).drop x = e :: chainN re (e + 1 + ks.size) := by
                      rw [hdx]; simp only [chainN]; rw [if_pos hk2]
                    obtain ⟨hx1, hx2, hx3⟩ := drop_cons hdx'
                    have hx' : x + 1 < (chainN rest (q + 1 + kids.size)).length + 1 := by omega
                    have hh2 := hga.head
                    have hsz : (Fo.node k2 a2 b2 ks re).size = 1 + ks.size + re.size := rfl
                    obtain ⟨n1', n2', n3', n4', n5'⟩ := numsF_node hgn
                    have hkl' := hga.kids.len
                    obtain ⟨_, _, p1, p2⟩ | ⟨w, _⟩ := okF_node hgo
                    rotate_left
                    · rw [hk2] at w; cases w
                    have hfn : firstC (.node k2 a2 b2 ks re) e = if k2 = 8 then firstC re (e + 1 + ks.size) else match firstF ks (e + 1) false with
                        | some j => some j
                        | none => firstC re (e + 1 + ks.size) := by simp only [firstC]; rw [if_pos hk2]
                    have hwe : IntKind.i64.wrap ((e : Int) + 1) = ((e + 1 : Nat) : Int) := by rw [w64 (by omega) (by omega)]; rfl
                    have z1 : (-1 : Int) < 0 := by decide
                    have hsz8 : (Fo.node 8 a2 b2 ks re).size = 1 + ks.size + re.size := rfl
                    by_cases k8 : k2 = 8
                    · rw [if_pos k8] at hfn
                      simp +contextual -dsimp -implicitDefEqProofs (maxSteps := 5000000) only [go_sem, reduceIte, reduceCtorEq, Nat.reduceEqDiff, Nat.reduceBEq, Nat.reduceAdd, Nat.reduceLeDiff, Nat.reduceMul, Nat.reduceLT, Int.reduceEq, Int.reduceLT, Int.reduceLE, t0, t5, t6, t7, toI_len, toI_at, toI_cons_at, List.length_cons, hx', hx2, hh2.1, hh2.2, oI, z1, k8]
                      exact ⟨re.size, by omega, re, e + 1 + ks.size, x + 1, none, rfl, hga.rest, n5', p2, by omega, hx1, fun _ => ⟨hx3, by subst k8; exact hfn⟩, (fun j w => by cases w), rfl, I_wrap (by omega) (by omega) (by omega)⟩
                    · rw [if_neg k8] at hfn
                      simp +contextual -dsimp -implicitDefEqProofs (maxSteps := 5000000) only [go_sem, reduceIte, reduceCtorEq, Nat.reduceEqDiff, Nat.reduceBEq, Nat.reduceAdd, Nat.reduceLeDiff, Nat.reduceMul, Nat.reduceLT, Int.reduceEq, Int.reduceLT, Int.reduceLE, t0, t5, t6, t7, toI_len, toI_at, toI_cons_at, List.length_cons, hx', hx2, hh2.1, hh2.2, oI, z1, k8]
                      refine draw_intro [0, 0, 0, 0, 1, 0, 0, 0, 0, 0, 0, 3, 2, 0] AHeap.none (by kernel_rfl) none_le ?_
                      simp +contextual -dsimp -implicitDefEqProofs (maxSteps := 5000000) only [go_sem, reduceIte, reduceCtorEq, Nat.reduceEqDiff, Nat.reduceBEq, Nat.reduceAdd, Nat.reduceLeDiff, Nat.reduceMul, Nat.reduceLT, Int.reduceEq, Int.reduceLT, Int.reduceLE, t0, t5, t6, t7, toI_len, toI_at, toI_cons_at, List.length_cons, hx', hx2, hh2.1, hh2.2, hwe]
                      refine (c_blockEnd _ _ _ _ hh2.1).det ?_
                      rw [hga.endP]
                      simp +contextual -dsimp -implicitDefEqProofs (maxSteps := 5000000) only [go_sem, reduceIte, reduceCtorEq, Nat.reduceEqDiff, Nat.reduceBEq, Nat.reduceAdd, Nat.reduceLeDiff, Nat.reduceMul, Nat.reduceLT, Int.reduceEq, Int.reduceLT, Int.reduceLE, t0, t5, t6, t7, toI_len, toI_at, toI_cons_at, hx2, hwe]
                      refine (ih ks (e + 1) (d + 1) lp _ (by omega) hga.kids n4' p1).det ?_
                      simp +contextual -dsimp -implicitDefEqProofs (maxSteps := 5000000) only [go_sem, reduceIte, reduceCtorEq, Nat.reduceEqDiff, Nat.reduceBEq, Nat.reduceAdd, Nat.reduceLeDiff, Nat.reduceMul, Nat.reduceLT, Int.reduceEq, Int.reduceLT, Int.reduceLE, t0, t5, t6, t7]
                      refine ⟨re.size, by omega, re, e + 1 + ks.size, x + 1, firstF ks (e + 1) false, rfl, hga.rest, n5', p2, by omega, hx1, fun w => ⟨hx3, ?_⟩, fun j w => ?_, rfl, I_wrap (by omega) (by omega) (by omega)⟩
                      · rw [hfn, w]
                      · rw [hfn, w]
          · rw [if_neg k7]
            simp +contextual -dsimp -implicitDefEqProofs (maxSteps := 5000000) only [go_sem, reduceIte, reduceCtorEq, Nat.reduceEqDiff, Nat.reduceBEq, Nat.reduceAdd, Nat.reduceLeDiff, Nat.reduceMul, Nat.reduceLT, Int.reduceEq, Int.reduceLT, Int.reduceLE, hq, hqe, oI, k7]
            try rfl
theorem c_firstJump {t : List Class} {p : List Line} {cl : Bool} (hp : p.length ≤ 1000) : ∀ n, FJ t p cl n
  | 0 => fun f i d lp H hn => by omega
  | n + 1 => by
    intro f i d lp H hfn hat hnf hok
    have ih := c_firstJump (t := t) (cl := cl) hp n
    have hfl := hat.len
    refine acalls_of0 Tryz.func57 rfl (by kernel_rfl) rfl rfl (awp_sound (fz := fun _ => []) (im := fun _ => false) mixed _ _ _ _ (by kernel_rfl) ?_)
    simp +contextual -dsimp -implicitDefEqProofs (maxSteps := 5000000) only [go_sem, reduceIte, reduceCtorEq, Nat.reduceEqDiff, Nat.reduceBEq, Nat.reduceAdd, Nat.reduceLeDiff, Nat.reduceMul, Nat.reduceLT, Int.reduceEq, Int.reduceLT, Int.reduceLE]
    refine aloop mixed (fz := fun _ => []) (im := fun _ => false) (by kernel_rfl) (fun m tm H' => ∃ (g : Fo) (q : Nat), m = g.size ∧ At p q d g ∧ numsF t g d = true ∧ okF g lp false = true ∧ g.size ≤ f.size ∧ q + g.size = i + f.size ∧ firstF f i false = firstF g q false ∧ H' = H ∧ tm 0 = aProg p cl ∧ tm 2 = I (i + f.size : Nat) ∧ tm 7 = I q) f.size ⟨f, i, rfl, hat, hnf, hok, Nat.le_refl _, rfl, rfl, rfl, ?_⟩ ?_
    · simp +contextual -dsimp -implicitDefEqProofs (maxSteps := 5000000) only [go_sem, reduceIte, reduceCtorEq, Nat.reduceEqDiff, Nat.reduceBEq, Nat.reduceAdd, Nat.reduceLeDiff, Nat.reduceMul, Nat.reduceLT, Int.reduceEq, Int.reduceLT, Int.reduceLE]
    · rintro m tm H ⟨g, q, rfl, hga, hgn, hgo, hgs, hgq, he, rfl, t0, t2, t7⟩
      cases g with
      | nil =>
        have z : ¬ q < i + f.size := by simp only [Fo.size] at hgq; omega
        rw [he]
        simp +contextual -dsimp -implicitDefEqProofs (maxSteps := 5000000) only [go_sem, reduceIte, reduceCtorEq, Nat.reduceEqDiff, Nat.reduceBEq, Nat.reduceAdd, Nat.reduceLeDiff, Nat.reduceMul, Nat.reduceLT, Int.reduceEq, Int.reduceLT, Int.reduceLE, t0, t2, t7, z]
        rfl
      | node k a b kids rest =>
        have hsz : (Fo.node k a b kids rest).size = 1 + kids.size + rest.size := rfl
        have z : q < i + f.size := by omega
        obtain ⟨hq, hqe⟩ := hga.head
        obtain ⟨n1, n2, n3, n4, n5⟩ := numsF_node hgn
        rw [firstF_step hgn hgo] at he
        simp +contextual -dsimp -implicitDefEqProofs (maxSteps := 5000000) only [go_sem, reduceIte, reduceCtorEq, Nat.reduceEqDiff, Nat.reduceBEq, Nat.reduceAdd, Nat.reduceLeDiff, Nat.reduceMul, Nat.reduceLT, Int.reduceEq, Int.reduceLT, Int.reduceLE, t0, t2, t7, z, hq, hqe]
        refine (c_jumps _ _).det ?_
        cases hj : jumpsK k
        · rw [if_neg (by rw [hj]; decide)] at he
          simp +contextual -dsimp -implicitDefEqProofs (maxSteps := 5000000) only [go_sem, reduceIte, reduceCtorEq, Nat.reduceEqDiff, Nat.reduceBEq, Nat.reduceAdd, Nat.reduceLeDiff, Nat.reduceMul, Nat.reduceLT, Int.reduceEq, Int.reduceLT, Int.reduceLE, t0, t2, t7, z, hq, hqe]
          refine (c_jumpIn ih hp hga hgn hgo (by omega) _).det ?_
          cases hji : jumpInF k a kids rest q with
          | some j =>
            rw [hji] at he
            have : (0 : Int) ≤ (j : Int) := by omega
            simp +contextual -dsimp -implicitDefEqProofs (maxSteps := 5000000) only [go_sem, reduceIte, reduceCtorEq, Nat.reduceEqDiff, Nat.reduceBEq, Nat.reduceAdd, Nat.reduceLeDiff, Nat.reduceMul, Nat.reduceLT, Int.reduceEq, Int.reduceLT, Int.reduceLE, t0, t2, t7, z, hq, hqe, oI, this]
            rw [he]
            try rfl
          | none =>
            rw [hji] at he
            simp +contextual -dsimp -implicitDefEqProofs (maxSteps := 5000000) only [go_sem, reduceIte, reduceCtorEq, Nat.reduceEqDiff, Nat.reduceBEq, Nat.reduceAdd, Nat.reduceLeDiff, Nat.reduceMul, Nat.reduceLT, Int.reduceEq, Int.reduceLT, Int.reduceLE, t0, t2, t7, z, hq, hqe, oI]
            refine (c_snextLine _ hga (by omega)).det ?_
            by_cases k7 : k = 7
            · rw [if_pos k7] at he ⊢
              have o3 : okF rest lp true = true := by
                rcases okF_node hgo with ⟨_, w, _⟩ | ⟨_, ⟨_, _, _, o⟩ | ⟨o, _⟩⟩
                · cases w
                · exact o
                · exact absurd k7 o
              have hss := skipN_add rest (q + 1 + kids.size)
              have hsf := skipF_size rest
              simp +contextual -dsimp -implicitDefEqProofs (maxSteps := 5000000) only [go_sem, reduceIte, reduceCtorEq, Nat.reduceEqDiff, Nat.reduceBEq, Nat.reduceAdd, Nat.reduceLeDiff, Nat.reduceMul, Nat.reduceLT, Int.reduceEq, Int.reduceLT, Int.reduceLE, t0, t2, t7, z, hq, hqe]
              exact ⟨_, by simp only [Fo.size]; omega, skipF rest, _, rfl, hga.rest.skip, numsF_skip rest n5, okF_skip rest o3, by omega, by omega, he, rfl⟩
            · rw [if_neg k7] at he ⊢
              have o3 : okF rest lp false = true := by
                rcases okF_node hgo with ⟨_, w, _⟩ | ⟨_, ⟨o, _⟩ | ⟨_, o, _⟩⟩
                · cases w
                · exact absurd o k7
                · exact o
              simp +contextual -dsimp -implicitDefEqProofs (maxSteps := 5000000) only [go_sem, reduceIte, reduceCtorEq, Nat.reduceEqDiff, Nat.reduceBEq, Nat.reduceAdd, Nat.reduceLeDiff, Nat.reduceMul, Nat.reduceLT, Int.reduceEq, Int.reduceLT, Int.reduceLE, t0, t2, t7, z, hq, hqe]
              exact ⟨_, by simp only [Fo.size]; omega, rest, _, rfl, hga.rest, n5, o3, by omega, by omega, he, rfl⟩
        · rw [if_pos hj] at he
          simp +contextual -dsimp -implicitDefEqProofs (maxSteps := 5000000) only [go_sem, reduceIte, reduceCtorEq, Nat.reduceEqDiff, Nat.reduceBEq, Nat.reduceAdd, Nat.reduceLeDiff, Nat.reduceMul, Nat.reduceLT, Int.reduceEq, Int.reduceLT, Int.reduceLE, t0, t2, t7, z, hq, hqe]
          rw [he]
          try rfl
end
section
open Go Go.Sim
set_option maxRecDepth 100000

/-- How many faults a fault has behind it, itself counted. -/
def dep (fs : List Fault) (v : Int) : Nat := (dchF fs v).length
theorem dep_neg {fs : List Fault} {v : Int} (h : v < 0) : dep fs v = 0 := by unfold dep; rw [dchF_neg h]; rfl
theorem dep_pre {F X : List Fault} (ho : heapOk F) {v : Int} (h : v < F.length) : dep (F ++ X) v = dep F v := by
  unfold dep dchF
  rw [dch_pre ho _ v h]
theorem dep_new {fs : List Fault} (ho : heapOk fs) {c d g : Int} (hg : g < fs.length) : dep (raiseF fs c d g) fs.length = dep fs g + 1 := by
  have ho' := raiseF_ok (cls := c) (code := d) ho hg
  have hl : (raiseF fs c d g).length = fs.length + 1 := raiseF_len
  have e : ctxOf (raiseF fs c d g) fs.length = if 0 ≤ g then g else -1 := by
    unfold ctxOf raiseF
    simp [List.getD_eq_getElem?_getD]
  unfold dep
  rw [dchF_step ho' (by omega) (by omega), e, List.length_cons]
  by_cases q : 0 ≤ g
  · rw [if_pos q]
    have := dep_pre (X := [⟨c, d, -1, if 0 ≤ g then g else -1, false⟩]) ho hg
    unfold dep at this
    show (dchF (fs ++ _) g).length + 1 = _
    rw [this]
  · rw [if_neg q, dchF_neg (by omega), dchF_neg (by omega)]
def DepOk (fs : List Fault) (N : Nat) (e : En) : Prop := e.ed = 2 → dep fs e.val ≤ N
theorem DepOk.up {fs : List Fault} {N M : Nat} {e : En} (h : DepOk fs N e) (hm : N ≤ M) : DepOk fs M e := fun q => Nat.le_trans (h q) hm
theorem Goes.dep {t : List Class} {n : Nat} {s : RS} {e : En} {s' : RS} (h : Goes t n s e s') (ho : heapOk s.fs) {v : Int} (hv : v < s.fs.length) : dep s'.fs v = dep s.fs v := by
  obtain ⟨l, e1, _⟩ := h.fs
  rw [e1]; exact dep_pre ho hv
theorem dep_lineS {s : RS} (ho : heapOk s.fs) {k a b h : Int} {N : Nat} (hh : h < s.fs.length) (hN : dep s.fs h ≤ N) : DepOk (lineS k a b h s).2.fs (N + 1) (lineS k a b h s).1 := by
  unfold lineS
  split
  · exact fun q => by cases q
  · split
    · intro _
      show dep (raiseF s.fs a b h) s.fs.length ≤ N + 1
      rw [dep_new ho hh]; omega
    · split
      · split
        · intro _
          show dep (raiseF s.fs 0 0 (-1)) s.fs.length ≤ N + 1
          rw [dep_new ho (by omega), dep_neg (by omega)]; omega
        · intro _
          show dep s.fs h ≤ N + 1
          omega
      · split
        · exact fun q => by cases q
        · split
          · exact fun q => by cases q
          · split
            · exact fun q => by cases q
            · exact fun q => by cases q
theorem dep_run {t : List Class} (ht : validT t = true) : ∀ (f : Fo) (i : Nat) (pd : Option (En × En)) (d h : Int) (s : RS) (N : Nat), numsF t f d = true → FsOk t s.fs → h < s.fs.length → PdOk s pd → dep s.fs h ≤ N → (∀ q, pd = some q → DepOk s.fs N q.1 ∧ DepOk s.fs N q.2) → DepOk (runF t f i pd h s).2.fs (N + f.size) (runF t f i pd h s).1 := by
  intro f
  induction f with
  | nil =>
    intro i pd d h s N _ hs _ _ _ hq
    cases pd with
    | none => exact fun q => by cases q
    | some q =>
      simp only [runF]
      split
      · exact fun q => by cases q
      · exact ((hq q rfl).2).up (by omega)
  | node k a b kids rest ihk ihr =>
    intro i pd d h s N hn hs hh hp hN hq
    obtain ⟨n1, n2, n3, n4, n5⟩ := numsF_node hn
    have esz : (Fo.node k a b kids rest).size = 1 + kids.size + rest.size := rfl
    have hline : k ≠ 7 → DepOk ((fun r : En × RS => if r.1.ed = 0 then runF t rest (i + 1 + kids.size) none h r.2 else r) (lineR k a b i h (fun s => runF t kids (i + 1) none h s) s)).2.fs (N + (Fo.node k a b kids rest).size) ((fun r : En × RS => if r.1.ed = 0 then runF t rest (i + 1 + kids.size) none h r.2 else r) (lineR k a b i h (fun s => runF t kids (i + 1) none h s) s)).1 := by
      intro _
      have hg := goes_lineR (i := i) (body := fun s => runF t kids (i + 1) none h s) (n := cost kids) ht hs n1 hh (fun s' hs' hl => goes_run ht kids (i + 1) none (d + 1) h s' n4 hs' (by omega) trivial)
      have h1 : DepOk (lineR k a b i h (fun s => runF t kids (i + 1) none h s) s).2.fs (N + 1 + kids.size) (lineR k a b i h (fun s => runF t kids (i + 1) none h s) s).1 := by
        unfold lineR
        by_cases k11 : k = 11
        · rw [if_pos k11]
          have h2 := ihk (i + 1) none (d + 1) h (s.tell (100 + a)) N n4 hs hh trivial hN (fun q hq => by cases hq)
          unfold withS
          intro q
          by_cases c : (runF t kids (i + 1) none h (s.tell (100 + a))).1.ed = 2 ∧ b = 1
          · simp only [c, and_self, if_true] at q; cases q
          · simp only [c, if_false] at q ⊢
            have := h2 q
            show dep (runF t kids (i + 1) none h (s.tell (100 + a))).2.fs _ ≤ _
            omega
        · rw [if_neg k11]
          by_cases k12 : k = 12
          · rw [if_pos k12]
            have key : ∀ (m : Nat) (s' : RS), FsOk t s'.fs → h < s'.fs.length → dep s'.fs h ≤ N → DepOk (loopS (fun s => runF t kids (i + 1) none h s) m s').2.fs (N + 1 + kids.size) (loopS (fun s => runF t kids (i + 1) none h s) m s').1 := by
              intro m
              induction m with
              | zero => intro s' _ _ _; exact fun q => by cases q
              | succ m ih =>
                intro s' hs' hh' hN'
                have g1 := goes_run ht kids (i + 1) none (d + 1) h s' n4 hs' hh' trivial
                have h2 := ihk (i + 1) none (d + 1) h s' N n4 hs' hh' trivial hN' (fun q hq => by cases hq)
                have gl := g1.len
                simp only [loopS]
                split
                · exact h2.up (by omega)
                · split
                  · exact fun q => by cases q
                  · exact ih _ g1.ok (by omega) (by rw [g1.dep hs'.ho hh']; exact hN')
            exact key _ s hs hh hN
          · rw [if_neg k12]
            have e : (s.jump k i).fs = s.fs := by unfold RS.jump; split <;> rfl
            exact (dep_lineS (by rw [e]; exact hs.ho) (by rw [e]; exact hh) (by rw [e]; exact hN)).up (by omega)
      generalize lineR k a b i h (fun s => runF t kids (i + 1) none h s) s = r at h1 hg ⊢
      have gl := hg.len
      show DepOk (if r.1.ed = 0 then _ else r).2.fs _ (if r.1.ed = 0 then _ else r).1
      split
      · exact (ihr _ none d h r.2 N n5 hg.ok (by omega) trivial (by rw [hg.dep hs.ho hh]; exact hN) (fun q hq => by cases hq)).up (by omega)
      · exact h1.up (by omega)
    have htry : DepOk ((fun r : En × RS => runF t rest (i + 1 + kids.size) (some (r.1, r.1)) h r.2) (runF t kids (i + 1) none h s)).2.fs (N + (Fo.node k a b kids rest).size) ((fun r : En × RS => runF t rest (i + 1 + kids.size) (some (r.1, r.1)) h r.2) (runF t kids (i + 1) none h s)).1 := by
      have hg := goes_run ht kids (i + 1) none (d + 1) h s n4 hs hh trivial
      have h1 := ihk (i + 1) none (d + 1) h s N n4 hs hh trivial hN (fun q hq => by cases hq)
      generalize runF t kids (i + 1) none h s = r at h1 hg ⊢
      have gl := hg.len
      exact (ihr _ (some (r.1, r.1)) d h r.2 (N + kids.size) n5 hg.ok (by omega) ⟨hg.val, hg.val⟩ (by rw [hg.dep hs.ho hh]; omega) (fun q hq => by cases hq; exact ⟨h1, h1⟩)).up (by omega)
    cases pd with
    | none =>
      simp only [runF]
      split
      · exact htry
      · exact hline ‹_›
    | some q =>
      obtain ⟨q1, q2⟩ := hq q rfl
      simp only [runF]
      by_cases hk : followsK k = true
      · simp only [hk, if_true]
        have pass : DepOk (runF t rest (i + 1 + kids.size) (some q) h s).2.fs (N + (Fo.node k a b kids rest).size) (runF t rest (i + 1 + kids.size) (some q) h s).1 :=
          (ihr _ (some q) d h s N n5 hs hh hp hN (fun q' hq' => by cases hq'; exact ⟨q1, q2⟩)).up (by omega)
        have go : ∀ (g : Int) (st : En) (e : En → En), g < s.fs.length → dep s.fs g ≤ N → (st.ed = 2 → 0 ≤ st.val ∧ st.val < s.fs.length) → DepOk s.fs N st → (∀ x : En, e x = x ∨ e x = q.2) →
            DepOk ((fun r : En × RS => runF t rest (i + 1 + kids.size) (some (st, e r.1)) h r.2) (runF t kids (i + 1) none g s)).2.fs (N + (Fo.node k a b kids rest).size) ((fun r : En × RS => runF t rest (i + 1 + kids.size) (some (st, e r.1)) h r.2) (runF t kids (i + 1) none g s)).1 := by
          intro g st e hg0 hgd hst hsd he
          have hg := goes_run ht kids (i + 1) none (d + 1) g s n4 hs hg0 trivial
          have h1 := ihk (i + 1) none (d + 1) g s N n4 hs hg0 trivial hgd (fun q hq => by cases hq)
          generalize runF t kids (i + 1) none g s = r at h1 hg ⊢
          have gl := hg.len
          have hst2 : DepOk r.2.fs (N + kids.size) st := fun z => by
            have := hst z
            rw [hg.dep hs.ho this.2]; have := hsd z; omega
          have he2 : DepOk r.2.fs (N + kids.size) (e r.1) ∧ ((e r.1).ed = 2 → 0 ≤ (e r.1).val ∧ (e r.1).val < r.2.fs.length) := by
            rcases he r.1 with z | z
            · rw [z]; exact ⟨h1, hg.val⟩
            · rw [z]
              refine ⟨fun y => ?_, fun y => ?_⟩
              · rw [hg.dep hs.ho (hp.2 y).2]; have := q2 y; omega
              · have := hp.2 y; omega
          exact (ihr _ (some (st, e r.1)) d h r.2 (N + kids.size) n5 hg.ok (by omega) ⟨fun z => by have := hst z; show 0 ≤ st.val ∧ st.val < (r.2.fs.length : Int); omega, he2.2⟩ (by rw [hg.dep hs.ho hh]; omega) (fun q hq => by cases hq; exact ⟨hst2, he2.1⟩)).up (by omega)
        split
        · split
          · rename_i hc
            exact go q.1.val ⟨-1, 0⟩ (fun r => r) (hp.1 hc.1).2 (q1 hc.1) (fun z => by cases z) (fun z => by cases z) (fun x => .inl rfl)
          · exact pass
        · split
          · split
            · exact go h q.1 (fun r => r) hh hN hp.1 q1 (fun x => .inl rfl)
            · exact pass
          · refine go _ q.1 (fun r => if r.ed = 0 then q.2 else r) ?_ ?_ hp.1 q1 (fun x => ?_)
            · split
              · exact (hp.2 ‹_›).2
              · exact hh
            · split
              · exact q2 ‹_›
              · exact hN
            · show (if _ then _ else _) = x ∨ (if _ then _ else _) = q.2
              split
              · exact .inr rfl
              · exact .inl rfl
      · rw [if_neg hk]
        split
        · split
          · exact htry
          · exact hline ‹_›
        · exact q2.up (by omega)
theorem dep_top {t : List Class} {p : List Line} (h : ValidP t p) (h2 : (runP t p).1.ed = 2) : dep (runP t p).2.fs (runP t p).1.val ≤ 24 := by
  obtain ⟨h1, _, h3, h4, h5, h6⟩ := validP_forest h
  have := dep_run h1 (forestP p) 0 none 0 (-1) rs0 0 h3 (fsOk_nil t) (by show (-1 : Int) < 0; omega) trivial (by rw [dep_neg (by omega)]; omega) (fun q hq => by cases hq) h2
  rw [Nat.zero_add] at this
  exact Nat.le_trans this h6
end
section
open Go Go.Sim
set_option maxRecDepth 100000

theorem getD_app {α : Type} {a b : List α} {d : α} {i : Nat} (h : i < a.length) : (a ++ b).getD i d = a.getD i d := by
  rw [List.getD_eq_getElem?_getD, List.getD_eq_getElem?_getD, List.getElem?_append_left h]
theorem walkG_step {nx : Int → Int} : ∀ (n : Nat) (out : List Int) (f : Int), (∀ i, i + 1 < out.length → out.getD (i + 1) default = nx (out.getD i default)) → (∀ i, i + 1 = out.length → nx (out.getD i default) = f) →
    ∀ i, i + 1 < (walkG nx n out f).length → (walkG nx n out f).getD (i + 1) default = nx ((walkG nx n out f).getD i default)
  | 0, out, f, h, _, i, hi => h i hi
  | n + 1, out, f, h, h2, i, hi => by
    simp only [walkG] at hi ⊢
    by_cases c : 0 ≤ f ∧ (out.any fun x => decide (f = x)) = false
    · rw [if_pos c] at hi ⊢
      refine walkG_step n (out ++ [f]) (nx f) ?_ ?_ i hi
      · intro j hj
        rw [List.length_append, List.length_singleton] at hj
        rcases Nat.lt_or_ge (j + 1) out.length with q | q
        · rw [getD_app q, getD_app (show j < out.length by omega)]
          exact h j q
        · have e : j + 1 = out.length := by omega
          rw [getD_app (show j < out.length by omega), h2 j e, e]
          simp [List.getD_eq_getElem?_getD]
      · intro j hj
        rw [List.length_append, List.length_singleton] at hj
        have e : j = out.length := by omega
        subst e
        simp [List.getD_eq_getElem?_getD]
    · rw [if_neg c] at hi ⊢
      exact h i hi
theorem walkG_pre {nx : Int → Int} : ∀ (n : Nat) (out : List Int) (f : Int) (i : Nat), i < out.length → (walkG nx n out f).getD i default = out.getD i default
  | 0, out, f, i, hi => rfl
  | n + 1, out, f, i, hi => by
    simp only [walkG]
    split
    · rw [walkG_pre n (out ++ [f]) (nx f) i (by simp; omega), getD_app hi]
    · rfl
theorem chain_step {h : List Fault} {g : Int} {i : Nat} (hi : i + 1 < (chainF h g).length) : (chainF h g).getD (i + 1) default = ctxOf h ((chainF h g).getD i default) :=
  walkG_step (h.length + 1) [] g (fun i q => by simp at q) (fun i q => by simp at q) i hi
theorem chain_head {h : List Fault} {g : Int} (h0 : 0 ≤ g) : (chainF h g).getD 0 default = g := by
  unfold chainF walkF
  simp only [walkG]
  rw [if_pos ⟨h0, rfl⟩, walkG_pre _ _ _ 0 (by simp)]
  rfl
/-- Contexts of faults that come to an end. -/
structure Calm (h : List Fault) : Prop where
  ctx : ∀ k, k < h.length → -1 ≤ (h.getD k default).ctx ∧ (h.getD k default).ctx < h.length
  last : ∀ k, k < h.length → lastOk h k = true
theorem Calm.at {h : List Fault} (hc : Calm h) {g : Int} (h0 : 0 ≤ g) (hg : g < h.length) {i : Nat} (hi : i < (chainF h g).length) : (i + 1 < (chainF h g).length ∧ 0 ≤ ctxOf h ((chainF h g).getD i default)) ∨ (i + 1 = (chainF h g).length ∧ ctxOf h ((chainF h g).getD i default) = -1) := by
  rcases Nat.lt_or_ge (i + 1) (chainF h g).length with q | q
  · left
    refine ⟨q, ?_⟩
    rw [← chain_step q, List.getD_eq_getElem?_getD, List.getElem?_eq_getElem q]
    exact (chainF_in (fun k hk => (hc.ctx k hk).2) hg (List.getElem_mem q)).1
  · right
    have e : i + 1 = (chainF h g).length := by omega
    refine ⟨e, ?_⟩
    have := hc.last g.toNat (by omega)
    rw [lastOk, decide_eq_true_eq, lastI, Int.toNat_of_nonneg h0, ← e] at this
    simpa using this
end
section
open Go Go.Sim
set_option maxRecDepth 100000

/-- In so many steps there is nothing more. -/
def EndsAt (nx : Int → Int) : Nat → Int → Prop
  | 0, a => a < 0
  | m + 1, a => 0 ≤ a ∧ EndsAt nx m (nx a)
theorem EndsAt.uniq {nx : Int → Int} : ∀ {m m' : Nat} {a : Int}, EndsAt nx m a → EndsAt nx m' a → m = m'
  | 0, 0, _, _, _ => rfl
  | 0, m' + 1, a, h, h' => by have := h'.1; simp only [EndsAt] at h; omega
  | m + 1, 0, a, h, h' => by have := h.1; simp only [EndsAt] at h'; omega
  | m + 1, m' + 1, a, h, h' => by rw [EndsAt.uniq h.2 h'.2]
def Ends (nx : Int → Int) (a : Int) : Prop := ∃ m, EndsAt nx m a
theorem Ends.neg {nx : Int → Int} {a : Int} (h : a < 0) : Ends nx a := ⟨0, h⟩
theorem Ends.step {nx : Int → Int} {a : Int} (h : Ends nx (nx a)) : Ends nx a := by
  obtain ⟨m, hm⟩ := h
  by_cases c : a < 0
  · exact .neg c
  · exact ⟨m + 1, by omega, hm⟩
theorem Ends.ind {nx : Int → Int} {p : Int → Prop} (h0 : ∀ a, a < 0 → p a) (h1 : ∀ a, 0 ≤ a → p (nx a) → p a) {a : Int} (h : Ends nx a) : p a := by
  obtain ⟨m, hm⟩ := h
  induction m generalizing a with
  | zero => exact h0 a hm
  | succ m ih => exact h1 a hm.1 (ih hm.2)
theorem walkG_end {nx : Int → Int} {n : Nat} (hnx : ∀ a : Int, 0 ≤ a → a < n → nx a < n) : ∀ (m fuel : Nat) (out : List Int) (f : Int), EndsAt nx m f → f < n → (∀ a ∈ out, ∃ m', m < m' ∧ EndsAt nx m' a) → freeN n out < fuel → (out ≠ [] → nx (lastI out) = f) → walkG nx fuel out f ≠ [] → nx (lastI (walkG nx fuel out f)) < 0
  | m, 0, out, f, _, _, _, hfr, _, _ => by omega
  | 0, fuel + 1, out, f, he, hf, ho, hfr, hl, hne => by
    have hf0 : f < 0 := he
    simp only [walkG] at hne ⊢
    rw [if_neg (by omega)] at hne ⊢
    rw [hl hne]; exact hf0
  | m + 1, fuel + 1, out, f, he, hf, ho, hfr, hl, hne => by
    have hany : (out.any fun x => decide (f = x)) = false := by
      rw [List.any_eq_false]
      intro a ha
      obtain ⟨m', h1, h2⟩ := ho a ha
      have : ¬ f = a := by
        rintro rfl
        have := he.uniq h2
        omega
      simpa using this
    simp only [walkG] at hne ⊢
    rw [if_pos ⟨he.1, hany⟩] at hne ⊢
    have := freeN_lt he.1 hf hany
    refine walkG_end hnx m fuel (out ++ [f]) (nx f) he.2 (hnx f he.1 hf) ?_ (by omega) ?_ hne
    · intro a ha
      rcases List.mem_append.1 ha with q | q
      · obtain ⟨m', h1, h2⟩ := ho a q
        exact ⟨m', by omega, h2⟩
      · simp at q; subst q
        exact ⟨m + 1, by omega, he⟩
    · intro _
      congr 1
      simp [lastI, List.getD_eq_getElem?_getD]
theorem Calm.of_ends {h : List Fault} (hc : ∀ k, k < h.length → -1 ≤ (h.getD k default).ctx ∧ (h.getD k default).ctx < h.length) (he : ∀ k : Nat, k < h.length → Ends (ctxOf h) k) : Calm h := by
  refine ⟨hc, fun k hk => ?_⟩
  obtain ⟨m, hm⟩ := he k hk
  have hne := chainF_ne (h := h) (g := k) (by omega)
  have hnx : ∀ a : Int, 0 ≤ a → a < h.length → ctxOf h a < h.length := fun a a0 a1 => (hc a.toNat (by omega)).2
  have := walkG_end hnx m (h.length + 1) [] k hm (by omega) (fun a ha => by cases ha) (by have := freeN_nil h.length; omega) (fun q => absurd rfl q) hne
  have hin := lastI_in (fun k hk => (hc k hk).2) (f := k) (by omega) (by omega)
  have h1 := hc (lastI (chainF h k)).toNat (by omega)
  rw [lastOk, decide_eq_true_eq]
  unfold ctxOf at this ⊢
  unfold chainF walkF at h1 ⊢
  unfold ctxOf at h1 ⊢
  omega
theorem Calm.ends {h : List Fault} (hc : Calm h) {k : Int} (h0 : 0 ≤ k) (hk : k < h.length) : Ends (ctxOf h) k := by
  have hne := List.length_pos_iff.2 (chainF_ne (h := h) h0)
  have key : ∀ j, j < (chainF h k).length → Ends (ctxOf h) ((chainF h k).getD ((chainF h k).length - 1 - j) default) := by
    intro j
    induction j with
    | zero =>
      intro hj
      rcases hc.at h0 hk (i := (chainF h k).length - 1 - 0) (by omega) with ⟨q, _⟩ | ⟨_, q⟩
      · omega
      · exact .step (.neg (by omega))
    | succ j ih =>
      intro hj
      have e : (chainF h k).length - 1 - j = ((chainF h k).length - 1 - (j + 1)) + 1 := by omega
      have := ih (by omega)
      rw [e, chain_step (by omega)] at this
      exact .step this
  have := key ((chainF h k).length - 1) (by omega)
  rw [Nat.sub_self, chain_head h0] at this
  exact this
end
section
open Go Go.Sim
set_option maxRecDepth 100000
theorem Calm.nil : Calm [] := ⟨fun k hk => by simp at hk, fun k hk => by simp at hk⟩
theorem Calm.same {h h' : List Fault} (hc : Calm h) (hl : h'.length = h.length) (hx : ∀ k, k < h.length → (h'.getD k default).ctx = (h.getD k default).ctx) : Calm h' := by
  have e : ∀ a : Int, 0 ≤ a → a < h.length → ctxOf h' a = ctxOf h a := fun a a0 a1 => hx a.toNat (by omega)
  refine .of_ends (fun k hk => ?_) (fun k hk => ?_)
  · rw [hl] at hk ⊢; rw [hx k hk]; exact hc.ctx k hk
  · rw [hl] at hk
    have := hc.ends (k := k) (by omega) (by omega)
    refine Ends.ind (p := fun a => a < h.length → Ends (ctxOf h') a) (fun a q _ => .neg q) (fun a a0 q q1 => .step ?_) this (by omega)
    rw [e a a0 q1]
    exact q (hc.ctx a.toNat (by omega)).2
theorem Calm.add {h : List Fault} (hc : Calm h) {x : Fault} (hx : x.ctx = -1) : Calm (h ++ [x]) := by
  have e1 : ∀ a : Int, 0 ≤ a → a < h.length → ctxOf (h ++ [x]) a = ctxOf h a := fun a a0 a1 => by unfold ctxOf; rw [getD_app (by omega)]
  have e2 : ctxOf (h ++ [x]) h.length = -1 := by unfold ctxOf; simp [List.getD_eq_getElem?_getD, hx]
  refine .of_ends (fun k hk => ?_) (fun k hk => ?_)
  · rw [List.length_append, List.length_singleton] at hk ⊢
    show -1 ≤ ctxOf (h ++ [x]) (k : Int) ∧ ctxOf (h ++ [x]) (k : Int) < ((h.length + 1 : Nat) : Int)
    rcases Nat.lt_or_ge k h.length with q | q
    · rw [e1 k (by omega) (by omega)]
      have := hc.ctx k q
      unfold ctxOf
      simp only [Int.toNat_natCast]
      omega
    · have : k = h.length := by omega
      subst this
      rw [e2]; omega
  · rw [List.length_append, List.length_singleton] at hk
    rcases Nat.lt_or_ge k h.length with q | q
    · have := hc.ends (k := k) (by omega) (by omega)
      refine Ends.ind (p := fun a => a < h.length → Ends (ctxOf (h ++ [x])) a) (fun a q _ => .neg q) (fun a a0 q q1 => .step ?_) this (by omega)
      rw [e1 a a0 q1]
      exact q (hc.ctx a.toNat (by omega)).2
    · have : k = h.length := by omega
      subst this
      exact .step (by rw [e2]; exact .neg (by omega))
end
section
open Go Go.Sim
set_option maxRecDepth 100000

def Links (h : List Fault) : Prop := ∀ k, k < h.length → (h.getD k default).cause < h.length ∧ (h.getD k default).ctx < h.length
end
section
open Go Go.Sim
set_option maxRecDepth 100000
theorem Nums.nil (n : Nat) : Nums n [] where
  mem a ha := absurd ha (List.not_mem_nil)
  free := by have := freeN_nil n; simpa using this
end
section
open Go Go.Sim
set_option maxRecDepth 100000

def insR : List Int → Int → List Int
  | [], v => [v]
  | b :: out, v => if b < v then b :: insR out v else if b = v then b :: out else v :: b :: out
theorem insF_eq : ∀ (out : List Int) (v : Int), insF out v = insR out v
  | [], v => by simp [insF, insR, insK]
  | b :: out, v => by
    have ih := insF_eq out v
    unfold insR
    by_cases c : b < v
    · rw [if_pos c, ← ih]
      have hk : insK (b :: out) v = insK out v + 1 := by simp [insK, List.takeWhile_cons, c]
      unfold insF
      rw [hk]
      simp only [List.length_cons, List.getD_cons_succ, List.take_succ_cons, List.drop_succ_cons, Nat.add_right_cancel_iff]
      split <;> simp
    · rw [if_neg c]
      have hk : insK (b :: out) v = 0 := by simp [insK, List.takeWhile_cons, c]
      unfold insF
      rw [hk]
      by_cases e : b = v
      · rw [if_pos e, if_neg (by simp [e])]
      · rw [if_neg e, if_pos (by right; simpa using e)]
        simp
theorem insR_mem : ∀ {out : List Int} {v a : Int}, a ∈ insR out v ↔ a = v ∨ a ∈ out
  | [], v, a => by simp [insR]
  | b :: out, v, a => by
    unfold insR
    split
    · rw [List.mem_cons, insR_mem, List.mem_cons]
      constructor
      · rintro (q | q | q) <;> simp [q]
      · rintro (q | q | q) <;> simp [q]
    · split
      · rename_i e; subst e; simp
      · simp
theorem insR_asc : ∀ {out : List Int} {v : Int}, out.Pairwise (· < ·) → (insR out v).Pairwise (· < ·)
  | [], v, _ => by simp [insR]
  | b :: out, v, h => by
    obtain ⟨h1, h2⟩ := List.pairwise_cons.1 h
    unfold insR
    split
    · rename_i c
      refine .cons (fun a ha => ?_) (insR_asc h2)
      rcases insR_mem.1 ha with q | q
      · omega
      · exact h1 a q
    · split
      · exact h
      · rename_i c e
        refine .cons (fun a ha => ?_) h
        rcases List.mem_cons.1 ha with q | q
        · omega
        · have := h1 a q; omega
theorem fold_asc : ∀ (l out : List Int), out.Pairwise (· < ·) → (l.foldl insF out).Pairwise (· < ·) ∧ ∀ a, a ∈ l.foldl insF out ↔ a ∈ out ∨ a ∈ l
  | [], out, h => ⟨h, fun a => by simp⟩
  | v :: l, out, h => by
    rw [List.foldl_cons, insF_eq]
    obtain ⟨h1, h2⟩ := fold_asc l (insR out v) (insR_asc h)
    refine ⟨h1, fun a => ?_⟩
    rw [h2, insR_mem, List.mem_cons]
    constructor
    · rintro ((q | q) | q) <;> simp [q]
    · rintro (q | q | q) <;> simp [q]
theorem sortedF_asc (l : List Int) : (sortedF l).Pairwise (· < ·) := (fold_asc l [] .nil).1
theorem sortedF_iff {l : List Int} {a : Int} : a ∈ sortedF l ↔ a ∈ l := by
  have := (fold_asc l [] .nil).2 a
  simpa [sortedF] using this
/-- Numbers sorted, each once: told by what is in them. -/
theorem sort_ext {l m : List Int} (hl : l.Nodup) (h : ∀ a, a ∈ l ↔ a ∈ m) : sortI l = sortedF m := by
  have s1 : (sortI l).Pairwise (fun a b => a ≤ b) := by
    have := List.pairwise_mergeSort (le := fun x y : Int => decide (x ≤ y)) (fun a b c h1 h2 => by simp at *; omega) (fun a b => by simp; omega) l
    exact this.imp (fun h => by simpa using h)
  have a2 := sortedF_asc m
  have s2 : (sortedF m).Pairwise (fun a b => a ≤ b) := a2.imp (fun h => by omega)
  have n2 : (sortedF m).Nodup := a2.imp (fun h => by omega)
  have n1 : (sortI l).Nodup := (List.mergeSort_perm l _).nodup_iff.2 hl
  have pm : (sortI l).Perm (sortedF m) := (List.perm_ext_iff_of_nodup n1 n2).2 fun a => by rw [sortI_mem, sortedF_iff, h]
  exact pm.eq_of_pairwise (fun a b _ _ h1 h2 => by omega) s1 s2
/-- What a fault reaches. -/
inductive Rch (h : List Fault) (f : Int) : Int → Prop where
  | refl : Rch h f f
  | cause {a : Int} : Rch h f a → 0 ≤ causeOf h a → Rch h f (causeOf h a)
  | ctx {a : Int} : Rch h f a → 0 ≤ ctxOf h a → Rch h f (ctxOf h a)
theorem addF_mem {out : List Int} {g a : Int} : a ∈ addF out g ↔ a ∈ out ∨ (a = g ∧ 0 ≤ g) := by
  unfold addF
  by_cases c : 0 ≤ g ∧ (out.any fun x => decide (g = x)) = false
  · rw [if_pos c, List.mem_append, List.mem_singleton]
    constructor
    · rintro (q | q)
      · exact .inl q
      · exact .inr ⟨q, c.1⟩
    · rintro (q | q)
      · exact .inl q
      · exact .inr q.1
  · rw [if_neg c]
    refine ⟨.inl, ?_⟩
    rintro (q | ⟨rfl, q⟩)
    · exact q
    · have : ¬ (out.any fun x => decide (a = x)) = false := fun e => c ⟨q, e⟩
      simpa using this
theorem addF_nodup {out : List Int} {g : Int} (h : out.Nodup) : (addF out g).Nodup := by
  unfold addF
  split
  · rename_i c
    rw [List.nodup_append]
    refine ⟨h, by simp, fun a ha b hb => ?_⟩
    simp at hb; subst hb
    rintro rfl
    have := c.2
    rw [List.any_eq_false] at this
    exact this a ha (by simp)
  · exact h
theorem bfsG_clos {h : List Fault} (hlk : Links h) (f : Int) : ∀ (n i : Nat) (out : List Int), Nums h.length out → out.Nodup → h.length ≤ i + n → (∀ a ∈ out, Rch h f a) →
    (∀ j, j < i → j < out.length → (0 ≤ causeOf h (out.getD j default) → causeOf h (out.getD j default) ∈ out) ∧ (0 ≤ ctxOf h (out.getD j default) → ctxOf h (out.getD j default) ∈ out)) →
    (∀ a ∈ out, a ∈ bfsG h n i out) ∧ (bfsG h n i out).Nodup ∧ (∀ a ∈ bfsG h n i out, Rch h f a) ∧ (∀ a ∈ bfsG h n i out, (0 ≤ causeOf h a → causeOf h a ∈ bfsG h n i out) ∧ (0 ≤ ctxOf h a → ctxOf h a ∈ bfsG h n i out)) := by
  have stop : ∀ (i : Nat) (out : List Int), out.length ≤ i → (∀ j, j < i → j < out.length → (0 ≤ causeOf h (out.getD j default) → causeOf h (out.getD j default) ∈ out) ∧ (0 ≤ ctxOf h (out.getD j default) → ctxOf h (out.getD j default) ∈ out)) →
      ∀ a ∈ out, (0 ≤ causeOf h a → causeOf h a ∈ out) ∧ (0 ≤ ctxOf h a → ctxOf h a ∈ out) := by
    intro i out hi hj a ha
    obtain ⟨j, hj1, rfl⟩ := List.mem_iff_getElem.1 ha
    have := hj j (by omega) hj1
    simpa [List.getD_eq_getElem?_getD, hj1] using this
  intro n
  induction n with
  | zero =>
    intro i out hn hd hl hr hj
    have := hn.free
    exact ⟨fun a ha => ha, hd, hr, stop i out (by omega) hj⟩
  | succ n ih =>
    intro i out hn hd hl hr hj
    simp only [bfsG]
    by_cases c : i < out.length
    · rw [if_pos c]
      have hm : out.getD i default ∈ out := by rw [List.getD_eq_getElem?_getD, List.getElem?_eq_getElem c]; exact List.getElem_mem c
      have hmm := hn.mem _ hm
      have hk := hlk (out.getD i default).toNat (by omega)
      have hri := hr _ hm
      generalize hg : out.getD i default = v at hm hmm hk hri
      have hN := (hn.add (g := causeOf h v) hk.1).add (g := ctxOf h v) hk.2
      have keep : ∀ a ∈ out, a ∈ addF (addF out (causeOf h v)) (ctxOf h v) := fun a ha => addF_mem.2 (.inl (addF_mem.2 (.inl ha)))
      have pre : ∀ (o : List Int) (g : Int) (j : Nat), j < o.length → (addF o g).getD j default = o.getD j default := by
        intro o g j hjo
        unfold addF
        split
        · rw [getD_app hjo]
        · rfl
      have l1 := addF_len out (causeOf h v)
      obtain ⟨b1, b2, b3, b4⟩ := ih (i + 1) (addF (addF out (causeOf h v)) (ctxOf h v)) hN (addF_nodup (addF_nodup hd)) (by omega) (fun a ha => by
        rcases addF_mem.1 ha with q | ⟨e, q⟩
        · rcases addF_mem.1 q with q1 | ⟨e1, q1⟩
          · exact hr a q1
          · rw [e1]; exact .cause hri q1
        · rw [e]; exact .ctx hri q) (fun j hj1 hj2 => by
        have hjo : j < out.length := by omega
        rw [pre _ _ j (by omega), pre _ _ j hjo]
        by_cases e : j = i
        · subst e
          rw [hg]
          exact ⟨fun q => addF_mem.2 (.inl (addF_mem.2 (.inr ⟨rfl, q⟩))), fun q => addF_mem.2 (.inr ⟨rfl, q⟩)⟩
        · have := hj j (by omega) hjo
          exact ⟨fun q => keep _ (this.1 q), fun q => keep _ (this.2 q)⟩)
      exact ⟨fun a ha => b1 a (keep a ha), b2, b3, b4⟩
    · rw [if_neg c]
      exact ⟨fun a ha => ha, hd, hr, stop i out (by omega) hj⟩
theorem bfsF_iff {h : List Fault} (hlk : Links h) {f : Int} (h0 : 0 ≤ f) (hf : f < h.length) : (bfsF h f).Nodup ∧ ∀ a, a ∈ bfsF h f ↔ Rch h f a := by
  obtain ⟨b1, b2, b3, b4⟩ := bfsG_clos hlk f (h.length + 1) 0 [f] (Nums.one h0 hf) (by simp) (by omega) (fun a ha => by simp at ha; subst ha; exact .refl) (fun j hj => by omega)
  refine ⟨b2, fun a => ⟨b3 a, fun r => ?_⟩⟩
  induction r with
  | refl => exact b1 f (by simp)
  | cause _ q ih => exact (b4 _ ih).1 q
  | ctx _ q ih => exact (b4 _ ih).2 q
end
section
open Go Go.Sim
set_option maxRecDepth 100000

theorem validH_all {t : List Class} {h : List Fault} (hv : validH t h = true) : (List.range h.length).all (faultOk t h) = true ∧ (List.range h.length).all (lastOk h) = true ∧ validT t = true ∧ h.length ≤ 24 := by
  simpa only [validH, Bool.and_eq_true, decide_eq_true_eq] using hv
theorem validH_cls {t : List Class} {h : List Fault} (hv : validH t h = true) : ∀ k, k < h.length → 0 ≤ (h.getD k default).cls ∧ (h.getD k default).cls < t.length ∧ 0 ≤ (h.getD k default).code ∧ (h.getD k default).code < 100 := fun k hk => by
  have := (List.all_eq_true.1 (validH_all hv).1) k (by simp [hk])
  simp only [faultOk, hasF, inR, Bool.and_eq_true, decide_eq_true_eq] at this
  omega
theorem inR_len {f : Int} {n : Nat} : inR f 0 (n - 1) = true ↔ 0 ≤ f ∧ f < n := by
  simp only [inR, Bool.and_eq_true, decide_eq_true_eq]; omega
end
section
open Go Go.Sim
set_option maxRecDepth 100000

/-- Where a number stands in a list; -1 if it does not. -/
def posF (S : List Int) (a : Int) : Int := idxF (fun x => decide (a = x)) S
theorem posF_mem {S : List Int} {a : Int} (h : a ∈ S) : 0 ≤ posF S a ∧ posF S a < S.length ∧ S.getD (posF S a).toNat default = a := by
  unfold posF
  induction S with
  | nil => cases h
  | cons b S ih =>
    simp only [idxF]
    by_cases e : a = b
    · rw [if_pos (by simpa using e)]
      refine ⟨by omega, by simp only [List.length_cons]; omega, ?_⟩
      show (b :: S).getD 0 default = a
      rw [List.getD_cons_zero, e]
    · have hm : a ∈ S := by
        rcases List.mem_cons.1 h with q | q
        · exact absurd q e
        · exact q
      obtain ⟨i1, i2, i3⟩ := ih hm
      rw [if_neg (by simpa using e), if_neg (by omega)]
      refine ⟨by omega, by simp only [List.length_cons]; omega, ?_⟩
      have : (idxF (fun x => decide (a = x)) S + 1).toNat = (idxF (fun x => decide (a = x)) S).toNat + 1 := by omega
      rw [this, List.getD_cons_succ, i3]
theorem posF_none {S : List Int} {a : Int} (h : a ∉ S) : posF S a = -1 := by
  unfold posF
  rw [idxF_neg, List.any_eq_false]
  intro x hx
  have : ¬ a = x := by rintro rfl; exact h hx
  simpa using this
theorem posF_inj {S : List Int} {a b : Int} (ha : a ∈ S) (hb : b ∈ S) (h : posF S a = posF S b) : a = b := by
  have h1 := (posF_mem ha).2.2
  have h2 := (posF_mem hb).2.2
  rw [h] at h1
  rw [← h1, h2]
theorem posF_at {S : List Int} (hd : S.Nodup) {k : Nat} (hk : k < S.length) : posF S (S.getD k default) = k := by
  have hm : S.getD k default ∈ S := by rw [List.getD_eq_getElem?_getD, List.getElem?_eq_getElem hk]; exact List.getElem_mem hk
  obtain ⟨h1, h2, h3⟩ := posF_mem hm
  obtain ⟨j, hj⟩ : ∃ j : Nat, posF S (S.getD k default) = j := ⟨(posF S (S.getD k default)).toNat, by omega⟩
  rw [hj] at h1 h2 h3 ⊢
  have hj2 : j < S.length := by omega
  rw [Int.toNat_natCast, List.getD_eq_getElem?_getD, List.getD_eq_getElem?_getD, List.getElem?_eq_getElem hj2, List.getElem?_eq_getElem hk] at h3
  have h4 : S[j] = S[k] := by simpa using h3
  rcases Nat.lt_trichotomy j k with q | q | q
  · exact absurd h4 ((List.pairwise_iff_getElem.1 hd) j k hj2 hk q)
  · omega
  · exact absurd h4.symm ((List.pairwise_iff_getElem.1 hd) k j hk hj2 q)
theorem isoL_len (h : List Fault) (S : List Int) : (isoL h S).length = S.length := by simp [isoL]
theorem isoL_at {h : List Fault} {S : List Int} {k : Nat} (hk : k < S.length) : (isoL h S).getD k default = isoAt h S (S.getD k default) := by
  simp [isoL, List.getD_eq_getElem?_getD, hk]
theorem iso_cause {h : List Fault} {S : List Int} {a : Int} (ha : a ∈ S) : causeOf (isoL h S) (posF S a) = posF S (causeOf h a) := by
  obtain ⟨h1, h2, h3⟩ := posF_mem ha
  unfold causeOf
  rw [isoL_at (by omega), h3]
  rfl
theorem iso_ctx {h : List Fault} {S : List Int} {a : Int} (ha : a ∈ S) : ctxOf (isoL h S) (posF S a) = posF S (ctxOf h a) := by
  obtain ⟨h1, h2, h3⟩ := posF_mem ha
  unfold ctxOf
  rw [isoL_at (by omega), h3]
  rfl
theorem walk_iso {S : List Int} {n : Nat} (hS : ∀ a ∈ S, 0 ≤ a ∧ a < n) {nx nx' : Int → Int} (hnx : ∀ a ∈ S, nx a ∈ S ∨ nx a < 0) (hiso : ∀ a ∈ S, nx' (posF S a) = posF S (nx a)) :
    ∀ (fuel fuel' : Nat) (out : List Int) (f : Int), (f ∈ S ∨ f < 0) → (∀ a ∈ out, a ∈ S) → freeN n out < fuel → freeN S.length (out.map (posF S)) < fuel' → walkG nx' fuel' (out.map (posF S)) (posF S f) = (walkG nx fuel out f).map (posF S)
  | 0, fuel', out, f, _, _, h1, _ => by omega
  | fuel + 1, 0, out, f, _, _, _, h2 => by omega
  | fuel + 1, fuel' + 1, out, f, hf, ho, h1, h2 => by
    simp only [walkG]
    rcases hf with hf | hf
    · have hp := posF_mem hf
      have hany : ((out.map (posF S)).any fun x => decide (posF S f = x)) = (out.any fun x => decide (f = x)) := by
        rw [List.any_map, Bool.eq_iff_iff, List.any_eq_true, List.any_eq_true]
        constructor
        · rintro ⟨a, ha, q⟩
          exact ⟨a, ha, by simp only [Function.comp, decide_eq_true_eq] at q; simpa using posF_inj hf (ho a ha) q⟩
        · rintro ⟨a, ha, q⟩
          exact ⟨a, ha, by simp only [decide_eq_true_eq] at q; subst q; simp⟩
      rw [hany]
      cases hb : out.any fun x => decide (f = x)
      · rw [if_pos ⟨hp.1, rfl⟩, if_pos ⟨(hS f hf).1, rfl⟩, hiso f hf]
        have l1 := freeN_lt (hS f hf).1 (hS f hf).2 hb
        have l2 := freeN_lt (out := out.map (posF S)) hp.1 hp.2.1 (by rw [hany, hb])
        have e : out.map (posF S) ++ [posF S f] = (out ++ [f]).map (posF S) := by simp
        rw [e] at l2 ⊢
        refine walk_iso hS hnx hiso fuel fuel' (out ++ [f]) (nx f) (hnx f hf) (fun a ha => ?_) (by omega) (by omega)
        rcases List.mem_append.1 ha with q | q
        · exact ho a q
        · simp at q; subst q; exact hf
      · rw [if_neg (fun q => by cases q.2), if_neg (fun q => by cases q.2)]
    · have hn : f ∉ S := fun q => by have := hS f q; omega
      rw [posF_none hn, if_neg (by omega), if_neg (by omega)]
/-- What a set of faults reaches is in it. -/
structure Closed (h : List Fault) (S : List Int) : Prop where
  mem : ∀ a ∈ S, 0 ≤ a ∧ a < h.length
  cause : ∀ a ∈ S, causeOf h a ∈ S ∨ causeOf h a < 0
  ctx : ∀ a ∈ S, ctxOf h a ∈ S ∨ ctxOf h a < 0
theorem Closed.pos {h : List Fault} {S : List Int} (hc : Closed h S) {b : Int} (hb : b ∈ S ∨ b < 0) : (0 ≤ posF S b ↔ 0 ≤ b) ∧ (b < 0 → posF S b = -1) := by
  rcases hb with q | q
  · have h1 := (posF_mem q).1
    have h2 := (hc.mem b q).1
    exact ⟨⟨fun _ => h2, fun _ => h1⟩, fun w => by omega⟩
  · have hn : b ∉ S := fun w => by have := (hc.mem b w).1; omega
    rw [posF_none hn]
    exact ⟨⟨fun w => by omega, fun w => by omega⟩, fun _ => rfl⟩
theorem closed_reach {h : List Fault} (hlk : Links h) {f : Int} (h0 : 0 ≤ f) (hf : f < h.length) : Closed h (sortI (bfsF h f)) ∧ f ∈ sortI (bfsF h f) ∧ (sortI (bfsF h f)).Nodup := by
  obtain ⟨b1, b2⟩ := bfsF_iff hlk h0 hf
  have hn := bfsF_nums hlk h0 hf
  have m : ∀ a, a ∈ sortI (bfsF h f) ↔ Rch h f a := fun a => by rw [sortI_mem, b2]
  refine ⟨⟨fun a ha => hn.mem a (sortI_mem.1 ha), fun a ha => ?_, fun a ha => ?_⟩, (m f).2 .refl, (List.mergeSort_perm _ _).nodup_iff.2 b1⟩
  · by_cases c : causeOf h a < 0
    · exact .inr c
    · exact .inl ((m _).2 (.cause ((m a).1 ha) (by omega)))
  · by_cases c : ctxOf h a < 0
    · exact .inr c
    · exact .inl ((m _).2 (.ctx ((m a).1 ha) (by omega)))
theorem Closed.links {h : List Fault} {S : List Int} (hd : S.Nodup) : Links (isoL h S) := by
  intro k hk
  rw [isoL_len] at hk ⊢
  rw [isoL_at hk]
  exact ⟨idxF_lt _ _, idxF_lt _ _⟩
theorem Closed.rch {h : List Fault} {S : List Int} (hc : Closed h S) {f a : Int} (hf : f ∈ S) (r : Rch h f a) : a ∈ S ∧ Rch (isoL h S) (posF S f) (posF S a) := by
  induction r with
  | refl => exact ⟨hf, .refl⟩
  | @cause a r q ih =>
    obtain ⟨i1, i2⟩ := ih
    have hm := (hc.cause a i1).resolve_right (by omega)
    refine ⟨hm, ?_⟩
    rw [← iso_cause i1]
    exact .cause i2 (by rw [iso_cause i1]; exact (posF_mem hm).1)
  | @ctx a r q ih =>
    obtain ⟨i1, i2⟩ := ih
    have hm := (hc.ctx a i1).resolve_right (by omega)
    refine ⟨hm, ?_⟩
    rw [← iso_ctx i1]
    exact .ctx i2 (by rw [iso_ctx i1]; exact (posF_mem hm).1)
/-- The isolated heap is reached whole: sorted, it is all numbers in order. -/
theorem reach_all {h : List Fault} (hlk : Links h) {f : Int} (h0 : 0 ≤ f) (hf : f < h.length) :
    sortI (bfsF (isoL h (sortI (bfsF h f))) (posF (sortI (bfsF h f)) f)) = (List.range (sortI (bfsF h f)).length).map (fun (k : Nat) => (k : Int)) := by
  obtain ⟨hc, hm, hd⟩ := closed_reach hlk h0 hf
  have hall : ∀ a ∈ sortI (bfsF h f), Rch h f a := fun a ha => ((bfsF_iff hlk h0 hf).2 a).1 (sortI_mem.1 ha)
  generalize hS : sortI (bfsF h f) = S at hc hm hd hall ⊢
  obtain ⟨p1, p2, p3⟩ := posF_mem hm
  have hl2 : Links (isoL h S) := Closed.links hd
  obtain ⟨b1, b2⟩ := bfsF_iff hl2 p1 (by rw [isoL_len]; exact p2)
  have hn := bfsF_nums hl2 p1 (by rw [isoL_len]; exact p2)
  have s2 : ((List.range S.length).map (fun (k : Nat) => (k : Int))).Pairwise (fun a b => a < b) := by
    rw [List.pairwise_map]
    exact List.pairwise_lt_range.imp (fun q => by omega)
  have hsf : sortedF ((List.range S.length).map (fun (k : Nat) => (k : Int))) = (List.range S.length).map (fun (k : Nat) => (k : Int)) := by
    have a2 := sortedF_asc ((List.range S.length).map (fun (k : Nat) => (k : Int)))
    have pm : (sortedF ((List.range S.length).map (fun (k : Nat) => (k : Int)))).Perm ((List.range S.length).map (fun (k : Nat) => (k : Int))) :=
      (List.perm_ext_iff_of_nodup (a2.imp (fun q => by omega)) (s2.imp (fun q => by omega))).2 fun a => sortedF_iff
    exact pm.eq_of_pairwise (fun a b _ _ q1 q2 => by omega) (a2.imp (fun q => Int.le_of_lt q)) (s2.imp (fun q => Int.le_of_lt q))
  rw [← hsf]
  refine sort_ext b1 fun a => ?_
  rw [List.mem_map]
  constructor
  · intro ha
    have := hn.mem a ha
    rw [isoL_len] at this
    exact ⟨a.toNat, by simp; omega, by omega⟩
  · rintro ⟨k, hk, rfl⟩
    rw [List.mem_range] at hk
    rw [b2, ← posF_at hd hk]
    have hkm : S.getD k default ∈ S := by rw [List.getD_eq_getElem?_getD, List.getElem?_eq_getElem hk]; exact List.getElem_mem hk
    exact (hc.rch hm (hall _ hkm)).2
def natsF (n : Nat) : List Int := (List.range n).map (fun (k : Nat) => (k : Int))
theorem Closed.last {h : List Fault} {S : List Int} (hc : Closed h S) (hcm : Calm h) {a : Int} (ha : a ∈ S) : ctxOf (isoL h S) (lastI (chainF (isoL h S) (posF S a))) = -1 := by
  have hw : chainF (isoL h S) (posF S a) = (chainF h a).map (posF S) := by
    unfold chainF
    rw [isoL_len]
    exact walk_iso (S := S) (n := h.length) hc.mem (nx := ctxOf h) (nx' := ctxOf (isoL h S)) hc.ctx (fun a ha => iso_ctx ha) (h.length + 1) (S.length + 1) [] a (.inl ha) (fun a ha => by cases ha) (by have := freeN_nil h.length; omega) (by have := freeN_nil S.length; simp only [List.map_nil]; omega)
  have h0 := hc.mem a ha
  have hne := List.length_pos_iff.2 (chainF_ne (h := h) h0.1)
  have hl : (chainF h a).length - 1 < (chainF h a).length := by omega
  have hmem : ∀ b ∈ chainF h a, b ∈ S := by
    intro b hb
    have key := walkG_mem (nx := ctxOf h) (p := fun a => a ∈ S ∨ a < 0) (fun a a0 ha => hc.ctx a (ha.resolve_right (by omega))) (h.length + 1) [] a (.inl ha) b hb
    rcases key with q | ⟨q0, q⟩
    · cases q
    · exact q.resolve_right (by omega)
  have hlm : lastI (chainF h a) ∈ S := hmem _ (by unfold lastI; rw [List.getD_eq_getElem?_getD, List.getElem?_eq_getElem hl]; exact List.getElem_mem hl)
  have e : lastI ((chainF h a).map (posF S)) = posF S (lastI (chainF h a)) := by
    unfold lastI
    rw [List.length_map, List.getD_eq_getElem?_getD, List.getD_eq_getElem?_getD, List.getElem?_map, List.getElem?_eq_getElem hl]; rfl
  have hlast := hcm.last a.toNat (by omega)
  rw [lastOk, decide_eq_true_eq, Int.toNat_of_nonneg h0.1] at hlast
  rw [hw, e, iso_ctx hlm, hlast]
  exact (hc.pos (.inr (by omega))).2 (by omega)
theorem valid_isoG {t : List Class} {h : List Fault} {S : List Int} (v1 : (List.range h.length).all (faultOk t h) = true) (hcm : Calm h) (v3 : validT t = true) (hc : Closed h S) (hd : S.Nodup) (hlen : S.length ≤ 24) : validH t (isoL h S) = true := by
  have link : ∀ (k : Nat), k < S.length → ∀ b : Int, (b ∈ S ∨ b < 0) → b ≠ S.getD k default → linkF S.length k (posF S b) = true := by
    intro k hk b hb hne
    have hkm : S.getD k default ∈ S := by rw [List.getD_eq_getElem?_getD, List.getElem?_eq_getElem hk]; exact List.getElem_mem hk
    rcases hb with q | q
    · obtain ⟨p1, p2, p3⟩ := posF_mem q
      have hne2 : ¬ posF S b = k := fun e => hne (posF_inj q hkm (by rw [e, posF_at hd hk]))
      simp only [linkF, inR, Bool.or_eq_true, Bool.and_eq_true, decide_eq_true_eq, Bool.not_eq_true', decide_eq_false_iff_not]
      omega
    · rw [(hc.pos (.inr q)).2 q]; simp [linkF]
  simp only [validH, Bool.and_eq_true, decide_eq_true_eq, List.all_eq_true, List.mem_range, isoL_len]
  refine ⟨fun k hk => ?_, fun k hk => ?_, v3, hlen⟩
  · have hkm : S.getD k default ∈ S := by rw [List.getD_eq_getElem?_getD, List.getElem?_eq_getElem hk]; exact List.getElem_mem hk
    have hin := hc.mem _ hkm
    have hf := (List.all_eq_true.1 v1) (S.getD k default).toNat (List.mem_range.2 (by omega))
    simp only [faultOk, Bool.and_eq_true] at hf ⊢
    rw [isoL_at hk, isoL_len]
    have n1 : causeOf h (S.getD k default) ≠ S.getD k default := by
      have := hf.1.2
      unfold causeOf
      simp only [linkF, inR, Bool.or_eq_true, Bool.and_eq_true, decide_eq_true_eq, Bool.not_eq_true', decide_eq_false_iff_not] at this
      omega
    have n2 : ctxOf h (S.getD k default) ≠ S.getD k default := by
      have := hf.2
      unfold ctxOf
      simp only [linkF, inR, Bool.or_eq_true, Bool.and_eq_true, decide_eq_true_eq, Bool.not_eq_true', decide_eq_false_iff_not] at this
      omega
    exact ⟨⟨hf.1.1, link k hk _ (hc.cause _ hkm) n1⟩, link k hk _ (hc.ctx _ hkm) n2⟩
  · have hkm : S.getD k default ∈ S := by rw [List.getD_eq_getElem?_getD, List.getElem?_eq_getElem hk]; exact List.getElem_mem hk
    have := hc.last hcm hkm
    rw [posF_at hd hk] at this
    rw [lastOk, decide_eq_true_eq]
    exact this
end
section
open Go Go.Sim
set_option maxRecDepth 100000

theorem calm_heap {fs : List Fault} (ho : heapOk fs) : Calm fs := by
  refine .of_ends (fun k hk => by have := ho k hk; omega) (fun k hk => ?_)
  have key : ∀ n : Nat, ∀ k : Nat, k < n → k < fs.length → Ends (ctxOf fs) k := by
    intro n
    induction n with
    | zero => intro k hk; omega
    | succ n ih =>
      intro k hk hl
      obtain ⟨o1, o2, o3⟩ := ho k hl
      refine .step ?_
      have e : ctxOf fs k = (fs.getD k default).ctx := by unfold ctxOf; rw [Int.toNat_natCast]
      rw [e]
      by_cases c : (fs.getD k default).ctx < 0
      · exact .neg c
      · obtain ⟨m, hm⟩ : ∃ m : Nat, (fs.getD k default).ctx = m := ⟨(fs.getD k default).ctx.toNat, by omega⟩
        rw [hm]
        exact ih m (by omega) (by omega)
  exact key (k + 1) k (by omega) hk
/-- What a program ends with. -/
structure RunOut (t : List Class) (r : En × RS) (R : Res) : Prop where
  valid : validH t R.heap = true
  low : 0 ≤ R.val
  high : R.val < R.heap.length
  reach : sortI (bfsF R.heap R.val) = natsF R.heap.length
  cls : (R.heap.getD R.val.toNat default).cls = clsOf r.2 r.1.val
  code : (R.heap.getD R.val.toNat default).code = (r.2.fs.getD r.1.val.toNat default).code
theorem run_out {t : List Class} {r : En × RS} (ht : validT t = true) (hf : FsOk t r.2.fs) (h2 : r.1.ed = 2) (h0 : 0 ≤ r.1.val) (h1 : r.1.val < r.2.fs.length) (hd : dep r.2.fs r.1.val ≤ 24) : RunOut t r (resOf r) := by
  have ho := hf.ho
  have hlk : Links r.2.fs := heapOk_links ho
  obtain ⟨hc, hm, hn⟩ := closed_reach hlk h0 h1
  have hra := reach_all hlk h0 h1
  have hlen : (sortI (bfsF r.2.fs r.1.val)).length ≤ 24 := by
    rw [sort_dch ho h0 h1, List.length_reverse]; exact hd
  rw [res_two h2]
  unfold isoR
  generalize sortI (bfsF r.2.fs r.1.val) = S at hc hm hn hra hlen ⊢
  obtain ⟨p1, p2, p3⟩ := posF_mem hm
  have hat : (isoL r.2.fs S).getD (posF S r.1.val).toNat default = isoAt r.2.fs S r.1.val := by rw [isoL_at (by omega), p3]
  refine ⟨?_, p1, ?_, ?_, ?_, ?_⟩
  · refine valid_isoG ?_ (calm_heap ho) ht hc hn hlen
    rw [List.all_eq_true]
    intro k hk
    have hk' := List.mem_range.1 hk
    obtain ⟨o1, o2, o3⟩ := ho k hk'
    obtain ⟨c1, c2⟩ := hf.cls k hk'
    simp only [faultOk, Bool.and_eq_true]
    refine ⟨⟨⟨c1, c2⟩, ?_⟩, ?_⟩
    · rw [o1]; simp [linkF]
    · simp only [linkF, inR, Bool.or_eq_true, Bool.and_eq_true, decide_eq_true_eq, Bool.not_eq_true', decide_eq_false_iff_not]
      omega
  · show posF S r.1.val < (isoL r.2.fs S).length
    rw [isoL_len]; exact p2
  · show sortI (bfsF (isoL r.2.fs S) (posF S r.1.val)) = natsF (isoL r.2.fs S).length
    rw [hra, isoL_len]; rfl
  · show ((isoL r.2.fs S).getD (posF S r.1.val).toNat default).cls = _
    rw [hat]; rfl
  · show ((isoL r.2.fs S).getD (posF S r.1.val).toNat default).code = _
    rw [hat]; rfl
theorem run_valid {t : List Class} {p : List Line} (h : ValidP t p) (h2 : (runP t p).1.ed = 2) : RunOut t (runP t p) (resOf (runP t p)) := by
  have hg := runP_goes h
  exact run_out h.1 hg.ok h2 (hg.val h2).1 (hg.val h2).2 (dep_top h h2)
end
section
open Go Go.Sim
set_option maxRecDepth 100000
set_option maxHeartbeats 4000000

/-- The start of a result. -/
def stOf (t : List Class) (R : Res) : Sta × Bool :=
  if validT t = true then
    (if R.ed = 0 then (⟨false, 0, 0⟩, true)
     else if R.ed = 2 ∧ (validH t R.heap && inR R.val 0 (R.heap.length - 1)) = true then (⟨true, (R.heap.getD R.val.toNat default).cls, (R.heap.getD R.val.toNat default).code⟩, true)
     else (⟨false, 0, 0⟩, false))
  else (⟨false, 0, 0⟩, false)
theorem st_out {t : List Class} {r : En × RS} (ht : validT t = true) (ho : RunOut t r (resOf r)) (h2 : r.1.ed = 2) : stOf t (resOf r) = (⟨true, clsOf r.2 r.1.val, (r.2.fs.getD r.1.val.toNat default).code⟩, true) ∧ hasF t (clsOf r.2 r.1.val) = true := by
  have e2 : (resOf r).ed = 2 := by rw [res_ed, h2]
  rw [stOf, if_pos ht, if_neg (by rw [e2]; decide), if_pos ⟨e2, by rw [ho.valid, Bool.true_and]; exact inR_len.2 ⟨ho.low, ho.high⟩⟩, ho.cls, ho.code]
  refine ⟨rfl, ?_⟩
  have hl := ho.low
  have hh := ho.high
  have hc := validH_cls ho.valid (resOf r).val.toNat (by omega)
  rw [ho.cls] at hc
  simp only [hasF, inR, Bool.and_eq_true, decide_eq_true_eq]
  omega
theorem c_mStartOf (t : List Class) (cl : Bool) (R : Res) (c1 c2 : Bool) (H : AHeap) (hn : namesOk t) (hl : R.heap.length ≤ 1000000) : ACalls Tryz.prog 30 [aTree t cl, aRes R c1 c2] H fun r H' => r = .tup [.agg (rStart (stOf t R).1), B (stOf t R).2] ∧ H' = H := by
  refine acalls_of1 Tryz.func30 rfl (by kernel_rfl) rfl rfl (awp_sound (fz := fun _ => []) (im := fun s => s == 2 || s == 3 || s == 27) mixed _ _ _ _ (by kernel_rfl) ?_)
  simp +contextual -dsimp -implicitDefEqProofs (maxSteps := 5000000) only [go_sem, reduceIte, reduceCtorEq, Nat.reduceEqDiff, Nat.reduceBEq, Nat.reduceAdd, Nat.reduceLeDiff, Nat.reduceMul, Nat.reduceLT, Int.reduceEq, Int.reduceLT, Int.reduceLE]
  intro b4 hb4
  refine (c_ValidTree t cl _ hn).det ?_
  cases hv : validT t
  · simp +contextual -dsimp -implicitDefEqProofs (maxSteps := 5000000) only [go_sem, reduceIte, reduceCtorEq, Nat.reduceEqDiff, Nat.reduceBEq, Nat.reduceAdd, Nat.reduceLeDiff, Nat.reduceMul, Nat.reduceLT, Int.reduceEq, Int.reduceLT, Int.reduceLE]
    refine retR_less (l := [.agg (rStart (stOf t R).1), B (stOf t R).2]) (H' := H) ?_ (le_set hb4) ⟨rfl, rfl⟩
    simp only [stOf, hv, if_true, if_false, resA, go_sem, reduceIte, reduceCtorEq, Nat.reduceEqDiff, Nat.reduceBEq, Nat.reduceAdd, Nat.reduceLeDiff, Nat.reduceMul, Nat.reduceLT, Int.reduceEq, Int.reduceLT, Int.reduceLE]
    try rfl
  · simp +contextual -dsimp -implicitDefEqProofs (maxSteps := 5000000) only [go_sem, reduceIte, reduceCtorEq, Nat.reduceEqDiff, Nat.reduceBEq, Nat.reduceAdd, Nat.reduceLeDiff, Nat.reduceMul, Nat.reduceLT, Int.reduceEq, Int.reduceLT, Int.reduceLE]
    refine ⟨fun h0 => ?_, fun h0 => ?_⟩
    refine retR_less (l := [.agg (rStart (stOf t R).1), B (stOf t R).2]) (H' := H) ?_ (le_set hb4) ⟨rfl, rfl⟩
    simp only [stOf, hv, h0, if_true, if_false, resA, go_sem, reduceIte, reduceCtorEq, Nat.reduceEqDiff, Nat.reduceBEq, Nat.reduceAdd, Nat.reduceLeDiff, Nat.reduceMul, Nat.reduceLT, Int.reduceEq, Int.reduceLT, Int.reduceLE]
    try rfl
    refine ⟨fun h2 => ?_, fun h2 => ?_⟩
    · refine (c_faultsIn t cl R.heap c2 [R.val] true _ hn hl).det ?_
      simp only [List.all_cons, List.all_nil, Bool.and_true]
      cases hg : validH t R.heap && inR R.val 0 (R.heap.length - 1)
      · simp +contextual -dsimp -implicitDefEqProofs (maxSteps := 5000000) only [go_sem, reduceIte, reduceCtorEq, Nat.reduceEqDiff, Nat.reduceBEq, Nat.reduceAdd, Nat.reduceLeDiff, Nat.reduceMul, Nat.reduceLT, Int.reduceEq, Int.reduceLT, Int.reduceLE, h2]
        refine retR_less (l := [.agg (rStart (stOf t R).1), B (stOf t R).2]) (H' := H) ?_ (le_set hb4) ⟨rfl, rfl⟩
        simp only [stOf, hv, h0, h2, hg, if_true, if_false, resA, go_sem, reduceIte, reduceCtorEq, Nat.reduceEqDiff, Nat.reduceBEq, Nat.reduceAdd, Nat.reduceLeDiff, Nat.reduceMul, Nat.reduceLT, Int.reduceEq, Int.reduceLT, Int.reduceLE]
        try rfl
      · have hg2 := hg
        rw [Bool.and_eq_true] at hg2
        have hi := inR_len.1 hg2.2
        have i2 : R.val.toNat < R.heap.length := by omega
        simp +contextual -dsimp -implicitDefEqProofs (maxSteps := 5000000) only [go_sem, reduceIte, reduceCtorEq, Nat.reduceEqDiff, Nat.reduceBEq, Nat.reduceAdd, Nat.reduceLeDiff, Nat.reduceMul, Nat.reduceLT, Int.reduceEq, Int.reduceLT, Int.reduceLE, h2, hi.1, hi.2, i2]
        rintro b6 ⟨s1, s2, hb6⟩
        refine retR_less (l := [.agg (rStart (stOf t R).1), B (stOf t R).2]) (H' := H) ?_ (le_s1 (le_s1 (AHeap.le_refl _) hb4) hb6) ⟨rfl, rfl⟩
        have e0 : ¬ (2 : Int) = 0 := by decide
        simp only [stOf, hv, h0, h2, hg, e0, and_self, if_true, if_false, resA, go_sem, reduceIte, reduceCtorEq, Nat.reduceEqDiff, Nat.reduceBEq, Nat.reduceAdd, Nat.reduceLeDiff, Nat.reduceMul, Nat.reduceLT, Int.reduceEq, Int.reduceLT, Int.reduceLE, s1, s2]
        try rfl
    ·
      refine retR_less (l := [.agg (rStart (stOf t R).1), B (stOf t R).2]) (H' := H) ?_ (le_set hb4) ⟨rfl, rfl⟩
      simp only [stOf, hv, h0, h2, false_and, if_true, if_false, resA, go_sem, reduceIte, reduceCtorEq, Nat.reduceEqDiff, Nat.reduceBEq, Nat.reduceAdd, Nat.reduceLeDiff, Nat.reduceMul, Nat.reduceLT, Int.reduceEq, Int.reduceLT, Int.reduceLE]
      try rfl
end
section
open Go Go.Sim
set_option maxRecDepth 100000

theorem num_at {t : List Class} {p : List Line} (h : ValidP t p) {j : Nat} (hj : j < p.length) : numOk t (kd p j) (ak p j) (bk p j) = true := by
  obtain ⟨d, k, a, b, kids, rest, ha, hc⟩ := cx_all h hj
  obtain ⟨e1, e2, e3, e4, e5⟩ := dp_head ha
  have := (numsF_node hc.nums).1
  unfold ak bk
  rw [e2, e3, e4]
  exact this
theorem num_raise {t : List Class} {p : List Line} (h : ValidP t p) {j : Nat} (hj : j < p.length) (hk : kd p j = 2) : hasF t (ak p j) = true ∧ inR (bk p j) 0 99 = true := by
  have := num_at h hj
  unfold numOk at this
  rw [if_neg (by omega), if_pos hk, Bool.and_eq_true] at this
  exact this
theorem jl_law {t : List Class} {p : List Line} (h : ValidP t p) {J : Nat} (hj : jumpP p = J) (hu : UpOk t p J) : (runP t p).1 = jEn p J 0 ∧ (runP t p).2.fs = jFs p J (-1) [] := by
  obtain ⟨h1, h2, h3, h4, h5, h6⟩ := validP_forest h
  have hf : firstF (forestP p) 0 false = some J := by
    rw [jumpP_oI] at hj
    cases e : firstF (forestP p) 0 false with
    | none => rw [e] at hj; simp only [oI] at hj; omega
    | some j => rw [e] at hj; simp only [oI] at hj; congr 1; omega
  have hcl : ∀ fs g, (kd p J = 2 → ((raiseF fs (ak p J) (bk p J) g).getD fs.length default).cls = ak p J) := by
    intro fs g _
    rcases raiseF_at (fs := fs) (c := ak p J) (d := bk p J) (g := g) (k := fs.length) (by rw [raiseF_len]; omega) with ⟨q, _⟩ | ⟨_, q⟩
    · omega
    · exact q
  exact jl_run hu hcl (forestP p) false 0 0 none (-1) rs0 (at_top h2) h4 h3 rfl (fun q hq => by cases hq) (fun q => by cases q) hf
theorem jl_raise {t : List Class} {p : List Line} (h : ValidP t p) {J : Nat} (hj : jumpP p = J) (hk : kd p J = 2) (hJ : J < p.length) (hw : ∀ y ∈ wayL p (enD p (dp p J) J), kd p y ≠ 11 → plainB p y) (hc : NoCatch t p (ak p J) (enD p (dp p J) J)) :
    stOf t (resOf (runP t p)) = (⟨true, ak p J, bk p J⟩, true) ∧ (resOf (runP t p)).ed = 2 ∧ (resOf (runP t p)).heap.length = 1 := by
  obtain ⟨e1, e2⟩ := jl_law h hj (up_ok h (.inl hk) hJ hw (fun _ => hc))
  have e3 : jEn p J 0 = ⟨2, 0⟩ := by unfold jEn; rw [if_pos hk]; rfl
  have e4 : jFs p J (-1) [] = [⟨ak p J, bk p J, -1, -1, false⟩] := by unfold jFs; rw [if_pos hk]; rfl
  rw [e3] at e1
  rw [e4] at e2
  have h2 : (runP t p).1.ed = 2 := by rw [e1]
  obtain ⟨s1, s2⟩ := st_out h.1 (run_valid h h2) h2
  refine ⟨?_, ?_, ?_⟩
  · rw [s1]
    unfold clsOf
    rw [e1, e2]
    rfl
  · rw [res_ed, h2]
  · have ho : heapOk (runP t p).2.fs := (runP_goes h).ok.ho
    rw [res_two h2]
    show (isoR (runP t p).2.fs (runP t p).1.val).2.length = 1
    unfold isoR
    show (isoL _ _).length = 1
    rw [isoL_len, sort_dch ho (by rw [e1]; show (0 : Int) ≤ 0; decide) (by rw [e1, e2]; show (0 : Int) < 1; decide), List.length_reverse]
    have hd := dep_new (fs := []) heapOk_nil (c := ak p J) (d := bk p J) (g := -1) (by show (-1 : Int) < 0; omega)
    rw [dep_neg (v := -1) (by decide)] at hd
    rw [e1, e2]
    exact hd
end
section
open Go Go.Sim
set_option maxRecDepth 100000
set_option maxHeartbeats 4000000

noncomputable def jumpR (t : List Class) (p : List Line) : Int := if validB t p = true then jumpP p else -1
theorem c_mFirstJump (t : List Class) (cl : Bool) (p : List Line) (cl' : Bool) (H : AHeap) (hn : namesOk t) (hp : p.length ≤ 4398046511104) :
    ACalls Tryz.prog 24 [aTree t cl, aProg p cl'] H fun r H' => r = I (jumpR t p) ∧ H' = H := by
  refine acalls_of1 Tryz.func24 rfl (by kernel_rfl) rfl rfl (awp_sound (fz := fun _ => []) (im := fun s => s == 2) mixed _ _ _ _ (by kernel_rfl) ?_)
  simp +contextual -dsimp -implicitDefEqProofs (maxSteps := 5000000) only [go_sem, reduceIte, reduceCtorEq, Nat.reduceEqDiff, Nat.reduceBEq, Nat.reduceAdd, Nat.reduceLeDiff, Nat.reduceMul, Nat.reduceLT, Int.reduceEq, Int.reduceLT, Int.reduceLE]
  refine (c_ValidProgram t cl p cl' _ hn hp).det ?_
  cases hv : validB t p
  · have e : jumpR t p = -1 := by unfold jumpR; rw [hv]; rfl
    rw [e]
    simp +contextual -dsimp -implicitDefEqProofs (maxSteps := 5000000) only [go_sem, reduceIte, reduceCtorEq, Nat.reduceEqDiff, Nat.reduceBEq, Nat.reduceAdd, Nat.reduceLeDiff, Nat.reduceMul, Nat.reduceLT, Int.reduceEq, Int.reduceLT, Int.reduceLE]
    refine retR_less (l := [I (-1)]) (H' := H) ?_ (AHeap.le_refl _) ⟨rfl, rfl⟩
    simp only [resA, go_sem, reduceIte, reduceCtorEq, Nat.reduceEqDiff, Nat.reduceBEq, Nat.reduceAdd, Nat.reduceLeDiff, Nat.reduceMul, Nat.reduceLT, Int.reduceEq, Int.reduceLT, Int.reduceLE]
  · have hval := validB_true.1 hv
    obtain ⟨h1, h2, h3, h4, h5, h6⟩ := validP_forest hval
    have e : jumpR t p = (runP t p).2.first := by unfold jumpR; rw [if_pos hv, (first_law hval).1]
    rw [e]
    have hat := at_top h2
    have hcs := cost_small h3 h6
    have hlen : ((0 + (forestP p).size : Nat) : Int) = (p.length : Int) := by omega
    simp +contextual -dsimp -implicitDefEqProofs (maxSteps := 5000000) only [go_sem, reduceIte, reduceCtorEq, Nat.reduceEqDiff, Nat.reduceBEq, Nat.reduceAdd, Nat.reduceLeDiff, Nat.reduceMul, Nat.reduceLT, Int.reduceEq, Int.reduceLT, Int.reduceLE]
    refine (c_machineOf t cl _ (p.map rLine) cl').mono ?_
    rintro _ H1 ⟨bm, rfl, hM⟩
    simp +contextual -dsimp -implicitDefEqProofs (maxSteps := 5000000) only [go_sem, reduceIte, reduceCtorEq, Nat.reduceEqDiff, Nat.reduceBEq, Nat.reduceAdd, Nat.reduceLeDiff, Nat.reduceMul, Nat.reduceLT, Int.reduceEq, Int.reduceLT, Int.reduceLE]
    have key := c_linesAll (cl := cl) (P := p) (clp := cl') h1 hp ((forestP p).size + 1) (forestP p) 0 0 (-1) rs0 H H1 bm (by omega) hat h3 (fsOk_nil t) (by show (-1 : Int) < 0; omega) (by show 0 + _ ≤ _; omega) (by show 0 + _ ≤ _; omega) hM
    rw [hlen, show ((0 : Nat) : Int) = 0 from rfl] at key
    refine key.mono ?_
    rintro _ H2 ⟨rfl, hM2⟩
    have er : runF t (forestP p) 0 none (-1) rs0 = runP t p := rfl
    rw [er] at hM2 ⊢
    generalize runP t p = r at hM2 ⊢
    obtain ⟨xl, xf, G1, G2, f1, f2, f3, f4, rfl⟩ := hM2
    have o1 := one_grow f2
    have o2 := one_grow f3
    simp +contextual -dsimp -implicitDefEqProofs (maxSteps := 5000000) only [go_sem, reduceIte, reduceCtorEq, Nat.reduceEqDiff, Nat.reduceBEq, Nat.reduceAdd, Nat.reduceLeDiff, Nat.reduceMul, Nat.reduceLT, Int.reduceEq, Int.reduceLT, Int.reduceLE, rEn, o1.1, o1.2, o2.1, o2.2]
    refine retR_less (l := [I r.2.first]) (H' := H) ?_ (le_s1 (AHeap.le_trans (grow_le f2) (grow_le f3)) f1) ⟨rfl, rfl⟩
    simp only [resA, go_sem, reduceIte, reduceCtorEq, Nat.reduceEqDiff, Nat.reduceBEq, Nat.reduceAdd, Nat.reduceLeDiff, Nat.reduceMul, Nat.reduceLT, Int.reduceEq, Int.reduceLT, Int.reduceLE]
theorem c_sFirstJump (t : List Class) (cl : Bool) (p : List Line) (cl' : Bool) (H : AHeap) (hn : namesOk t) (hp : p.length ≤ 4398046511104) :
    ACalls Tryz.prog 25 [aTree t cl, aProg p cl'] H fun r H' => r = I (jumpR t p) ∧ H' = H := by
  refine acalls_of0 Tryz.func25 rfl (by kernel_rfl) rfl rfl (awp_sound (fz := fun _ => []) (im := fun s => s == 2) mixed _ _ _ _ (by kernel_rfl) ?_)
  simp +contextual -dsimp -implicitDefEqProofs (maxSteps := 5000000) only [go_sem, reduceIte, reduceCtorEq, Nat.reduceEqDiff, Nat.reduceBEq, Nat.reduceAdd, Nat.reduceLeDiff, Nat.reduceMul, Nat.reduceLT, Int.reduceEq, Int.reduceLT, Int.reduceLE]
  refine (c_svalidProgram t cl p cl' _ hn hp).det ?_
  cases hv : validB t p
  · have e : jumpR t p = -1 := by unfold jumpR; rw [hv]; rfl
    rw [e]
    simp +contextual -dsimp -implicitDefEqProofs (maxSteps := 5000000) only [go_sem, reduceIte, reduceCtorEq, Nat.reduceEqDiff, Nat.reduceBEq, Nat.reduceAdd, Nat.reduceLeDiff, Nat.reduceMul, Nat.reduceLT, Int.reduceEq, Int.reduceLT, Int.reduceLE]
  · have hval := validB_true.1 hv
    obtain ⟨h1, h2, h3, h4, h5, h6⟩ := validP_forest hval
    have e : jumpR t p = oI (firstF (forestP p) 0 false) := by unfold jumpR; rw [if_pos hv, jumpP_oI]
    rw [e]
    have hlen : ((0 + (forestP p).size : Nat) : Int) = (p.length : Int) := by omega
    have key := c_firstJump (t := t) (p := p) (cl := cl') (by omega) ((forestP p).size + 1) (forestP p) 0 0 false H (by omega) (at_top h2) h3 h4
    rw [hlen, show ((0 : Nat) : Int) = 0 from rfl] at key
    simp +contextual -dsimp -implicitDefEqProofs (maxSteps := 5000000) only [go_sem, reduceIte, reduceCtorEq, Nat.reduceEqDiff, Nat.reduceBEq, Nat.reduceAdd, Nat.reduceLeDiff, Nat.reduceMul, Nat.reduceLT, Int.reduceEq, Int.reduceLT, Int.reduceLE]
    refine key.det ?_
    simp +contextual -dsimp -implicitDefEqProofs (maxSteps := 5000000) only [go_sem, reduceIte, reduceCtorEq, Nat.reduceEqDiff, Nat.reduceBEq, Nat.reduceAdd, Nat.reduceLeDiff, Nat.reduceMul, Nat.reduceLT, Int.reduceEq, Int.reduceLT, Int.reduceLE]
end
section
open Go Go.Sim
set_option maxRecDepth 100000
set_option maxHeartbeats 4000000

theorem noc_step {t : List Class} {p : List Line} {a : Int} {en : List Nat} {k : Nat} (hk : k < en.length) (h : NoCatch t p a (en.take k)) (h1 : kd p (en.getD k default) = 11 → bk p (en.getD k default) ≠ 1) (h2 : kd p (en.getD k default) = 7 → ∀ y ∈ chainP p (en.getD k default), kd p y = 8 → isF t a (ak p y) = false) : NoCatch t p a (en.take (k + 1)) := by
  intro x hx
  rw [List.take_succ_eq_append_getElem hk] at hx
  have e : en[k] = en.getD k default := by rw [List.getD_eq_getElem?_getD, List.getElem?_eq_getElem hk]; rfl
  rcases List.mem_append.1 hx with q | q
  · exact h x q
  · rw [List.mem_singleton.1 q, e]
    exact ⟨h1, h2⟩
theorem c_catcher {t : List Class} (cl : Bool) (p : List Line) (cl' : Bool) (i : Nat) (a : Int) (H : AHeap) (h : ValidP t p) (hi : i < p.length) (ha : hasF t a = true) : ACalls Tryz.prog 60 [aTree t cl, aProg p cl', I i, I a] H fun r H' => (∃ b e : Int, r = .tup [I b, I e] ∧ ((¬ NoCatch t p a (enD p (dp p i) i) ∧ 0 ≤ e) ∨ (b = -1 ∧ e = -1 ∧ NoCatch t p a (enD p (dp p i) i)))) ∧ H' = H := by
  have hp := h.2.1
  have hen : backF (fun k => opensK (kd p k) && decide (i < endP p k)) i = enD p (dp p i) i := (en_told h hi).symm
  have hmem := enD_mem (p := p) i (dp p i)
  have hlen := enD_len (p := p) i (dp p i)
  have hab := (hasF_spec ha).2
  refine acalls_of0 Tryz.func60 rfl (by kernel_rfl) rfl rfl (awp_sound (fz := fun _ => []) (im := fun s => s == 4) mixed _ _ _ _ (by kernel_rfl) ?_)
  simp +contextual -dsimp -implicitDefEqProofs (maxSteps := 5000000) only [go_sem, reduceIte, reduceCtorEq, Nat.reduceEqDiff, Nat.reduceBEq, Nat.reduceAdd, Nat.reduceLeDiff, Nat.reduceMul, Nat.reduceLT, Int.reduceEq, Int.reduceLT, Int.reduceLE]
  refine acalls_frz (c_menclosing p cl' i _ hi (by omega)) fun c16 => ?_
  rw [hen]
  generalize enD p (dp p i) i = en at hmem hlen
  simp +contextual -dsimp -implicitDefEqProofs (maxSteps := 5000000) only [go_sem, reduceIte, reduceCtorEq, Nat.reduceEqDiff, Nat.reduceBEq, Nat.reduceAdd, Nat.reduceLeDiff, Nat.reduceMul, Nat.reduceLT, Int.reduceEq, Int.reduceLT, Int.reduceLE, toI_len]
  refine aloop mixed (fz := fun _ => []) (im := fun s => s == 4) (by kernel_rfl) (fun m tm H' => ∃ k : Nat, m = en.length - k ∧ k ≤ en.length ∧ H' = H ∧ NoCatch t p a (en.take k) ∧ tm 1 = aProg p cl' ∧ tm 3 = I a ∧ tm 4 = .vptr [[.vsl (t.map rClass) cl]] 0 0 ∧ tm 16 = .vsl ((toI en).map rI) c16 ∧ tm 17 = I en.length ∧ tm 18 = I k) en.length ⟨0, by omega, by omega, rfl, (fun x hx => by cases hx), ?_⟩ ?_
  · simp +contextual -dsimp -implicitDefEqProofs (maxSteps := 5000000) only [go_sem, reduceIte, reduceCtorEq, Nat.reduceEqDiff, Nat.reduceBEq, Nat.reduceAdd, Nat.reduceLeDiff, Nat.reduceMul, Nat.reduceLT, Int.reduceEq, Int.reduceLT, Int.reduceLE, toI_len]
  · rintro m tm H ⟨k, rfl, hk, rfl, hnc, t1, t3, t4, t16, t17, t18⟩
    by_cases hlt : k < en.length
    · have hxm : en.getD k default ∈ en := by rw [List.getD_eq_getElem?_getD, List.getElem?_eq_getElem hlt]; exact List.getElem_mem hlt
      have hx := hmem _ hxm
      have hxl : en.getD k default < p.length := by omega
      have hst := noc_step hlt hnc
      generalize hxe : en.getD k default = x at hx hxl hst hxm
      by_cases h11 : kd p x = 11
      · have h11' : (p.getD x default).kind = 11 := h11
        simp +contextual -dsimp -implicitDefEqProofs (maxSteps := 5000000) only [go_sem, reduceIte, reduceCtorEq, Nat.reduceEqDiff, Nat.reduceBEq, Nat.reduceAdd, Nat.reduceLeDiff, Nat.reduceMul, Nat.reduceLT, Int.reduceEq, Int.reduceLT, Int.reduceLE, t1, t3, t4, t16, t17, t18, hlt, toI_len, toI_at, hxe, hxl, h11']
        refine ⟨fun hb => ⟨_, _, rfl, .inl ⟨fun w => (w x hxm).1 h11 hb, by omega⟩⟩, fun hb => ⟨_, by omega, k + 1, rfl, hlt, hst (fun _ => hb) (fun q => by omega), I_wrap (by omega) (by omega) (by omega)⟩⟩
      · have h11' : ¬ (p.getD x default).kind = 11 := h11
        by_cases h7 : kd p x = 7
        · have h7' : (p.getD x default).kind = 7 := h7
          simp +contextual -dsimp -implicitDefEqProofs (maxSteps := 5000000) only [go_sem, reduceIte, reduceCtorEq, Nat.reduceEqDiff, Nat.reduceBEq, Nat.reduceAdd, Nat.reduceLeDiff, Nat.reduceMul, Nat.reduceLT, Int.reduceEq, Int.reduceLT, Int.reduceLE, t1, t3, t4, t16, t17, t18, hlt, toI_len, toI_at, hxe, hxl, h7']
          refine acalls_frz (c_tryFrom p cl' x _ hxl (by omega)) fun c41 => ?_
          have hcl : (chainP p x).length ≤ p.length := endP_len hxl
          have hcm := chainP_mem hxl
          have hst2 := hst (fun q => by omega)
          have hnx : (∃ y ∈ chainP p x, kd p y = 8 ∧ isF t a (ak p y) = true) → ¬ NoCatch t p a en := by
            rintro ⟨y, hy, h8, hq⟩ w
            rw [(w x hxm).2 h7 y hy h8] at hq
            cases hq
          generalize chainP p x = ch at hcl hcm hst2 hnx
          simp +contextual -dsimp -implicitDefEqProofs (maxSteps := 5000000) only [go_sem, reduceIte, reduceCtorEq, Nat.reduceEqDiff, Nat.reduceBEq, Nat.reduceAdd, Nat.reduceLeDiff, Nat.reduceMul, Nat.reduceLT, Int.reduceEq, Int.reduceLT, Int.reduceLE, t1, t3, t4, t16, t17, t18, hlt, toI_len, toI_at, hxe, hxl, h7']
          refine aloop mixed (fz := fun _ => []) (im := fun s => s == 4) (by kernel_rfl) (fun m tm H' => ∃ j : Nat, m = ch.length - j ∧ j ≤ ch.length ∧ H' = H ∧ (∀ y ∈ ch.take j, kd p y = 8 → isF t a (ak p y) = false) ∧ tm 1 = aProg p cl' ∧ tm 3 = I a ∧ tm 4 = .vptr [[.vsl (t.map rClass) cl]] 0 0 ∧ tm 11 = I x ∧ tm 16 = .vsl ((toI en).map rI) c16 ∧ tm 17 = I en.length ∧ tm 18 = I k ∧ tm 41 = .vsl ((toI ch).map rI) c41 ∧ tm 42 = I ch.length ∧ tm 43 = I j) ch.length ⟨0, by omega, by omega, rfl, (fun y hy => by cases hy), ?_⟩ ?_
          · simp +contextual -dsimp -implicitDefEqProofs (maxSteps := 5000000) only [go_sem, reduceIte, reduceCtorEq, Nat.reduceEqDiff, Nat.reduceBEq, Nat.reduceAdd, Nat.reduceLeDiff, Nat.reduceMul, Nat.reduceLT, Int.reduceEq, Int.reduceLT, Int.reduceLE, t1, t3, t4, t16, t17, t18, hlt, toI_len, toI_at, hxe, hxl, h7']
          · rintro m tm H ⟨j, rfl, hj, rfl, hno, t1, t3, t4, t11, t16, t17, t18, t41, t42, t43⟩
            by_cases hjl : j < ch.length
            · have hym : ch.getD j default ∈ ch := by rw [List.getD_eq_getElem?_getD, List.getElem?_eq_getElem hjl]; exact List.getElem_mem hjl
              have hy := hcm _ hym
              have hno2 : (kd p (ch.getD j default) = 8 → isF t a (ak p (ch.getD j default)) = false) → ∀ y ∈ ch.take (j + 1), kd p y = 8 → isF t a (ak p y) = false := by
                intro w y hy
                rw [List.take_succ_eq_append_getElem hjl] at hy
                have e : ch[j] = ch.getD j default := by rw [List.getD_eq_getElem?_getD, List.getElem?_eq_getElem hjl]; rfl
                rcases List.mem_append.1 hy with q | q
                · exact hno y q
                · rw [List.mem_singleton.1 q, e]; exact w
              generalize hye : ch.getD j default = y at hy hno2 hym
              by_cases h8 : kd p y = 8
              · have h8' : (p.getD y default).kind = 8 := h8
                simp +contextual -dsimp -implicitDefEqProofs (maxSteps := 5000000) only [go_sem, reduceIte, reduceCtorEq, Nat.reduceEqDiff, Nat.reduceBEq, Nat.reduceAdd, Nat.reduceLeDiff, Nat.reduceMul, Nat.reduceLT, Int.reduceEq, Int.reduceLT, Int.reduceLE, t1, t3, t4, t11, t16, t17, t18, t41, t42, t43, hjl, toI_len, toI_at, hye, hy, h8']
                refine draw_intro [0, 0, 0, 0, 0, 0, 0, 0, 0, 0, 0, 0, 0, 0, 2, 0] AHeap.none (by kernel_rfl) none_le ?_
                simp +contextual -dsimp -implicitDefEqProofs (maxSteps := 5000000) only [go_sem, reduceIte, reduceCtorEq, Nat.reduceEqDiff, Nat.reduceBEq, Nat.reduceAdd, Nat.reduceLeDiff, Nat.reduceMul, Nat.reduceLT, Int.reduceEq, Int.reduceLT, Int.reduceLE, t1, t3, t4, t11, t16, t17, t18, t41, t42, t43, hjl, toI_len, toI_at, hye, hy, h8']
                refine (c_is t cl a (p.getD y default).a _ h.1 hab).det ?_
                simp +contextual -dsimp -implicitDefEqProofs (maxSteps := 5000000) only [go_sem, reduceIte, reduceCtorEq, Nat.reduceEqDiff, Nat.reduceBEq, Nat.reduceAdd, Nat.reduceLeDiff, Nat.reduceMul, Nat.reduceLT, Int.reduceEq, Int.reduceLT, Int.reduceLE, t1, t3, t4, t11, t16, t17, t18, t41, t42, t43, hjl, toI_len, toI_at, hye, hy, h8']
                refine ⟨fun hq => ⟨_, _, rfl, .inl ⟨hnx ⟨y, hym, h8, hq⟩, by omega⟩⟩, fun hq => ⟨_, by omega, j + 1, rfl, hjl, hno2 (fun _ => hq), I_wrap (by omega) (by omega) (by omega)⟩⟩
              · have h8' : ¬ (p.getD y default).kind = 8 := h8
                simp +contextual -dsimp -implicitDefEqProofs (maxSteps := 5000000) only [go_sem, reduceIte, reduceCtorEq, Nat.reduceEqDiff, Nat.reduceBEq, Nat.reduceAdd, Nat.reduceLeDiff, Nat.reduceMul, Nat.reduceLT, Int.reduceEq, Int.reduceLT, Int.reduceLE, t1, t3, t4, t11, t16, t17, t18, t41, t42, t43, hjl, toI_len, toI_at, hye, hy, h8']
                refine draw_intro [0, 0, 0, 0, 0, 0, 0, 0, 0, 0, 0, 0, 0, 0, 2, 0] AHeap.none (by kernel_rfl) none_le ?_
                simp +contextual -dsimp -implicitDefEqProofs (maxSteps := 5000000) only [go_sem, reduceIte, reduceCtorEq, Nat.reduceEqDiff, Nat.reduceBEq, Nat.reduceAdd, Nat.reduceLeDiff, Nat.reduceMul, Nat.reduceLT, Int.reduceEq, Int.reduceLT, Int.reduceLE, t1, t3, t4, t11, t16, t17, t18, t41, t42, t43, hjl, toI_len, toI_at, hye, hy, h8']
                exact ⟨_, by omega, j + 1, rfl, hjl, hno2 (fun q => absurd q h8), I_wrap (by omega) (by omega) (by omega)⟩
            · have hj2 : j = ch.length := by omega
              subst hj2
              rw [List.take_length] at hno
              simp +contextual -dsimp -implicitDefEqProofs (maxSteps := 5000000) only [go_sem, reduceIte, reduceCtorEq, Nat.reduceEqDiff, Nat.reduceBEq, Nat.reduceAdd, Nat.reduceLeDiff, Nat.reduceMul, Nat.reduceLT, Int.reduceEq, Int.reduceLT, Int.reduceLE, t1, t3, t4, t11, t16, t17, t18, t41, t42, t43, hjl]
              exact ⟨_, by omega, k + 1, rfl, hlt, hst2 (fun _ => hno), I_wrap (by omega) (by omega) (by omega)⟩
        · have h7' : ¬ (p.getD x default).kind = 7 := h7
          simp +contextual -dsimp -implicitDefEqProofs (maxSteps := 5000000) only [go_sem, reduceIte, reduceCtorEq, Nat.reduceEqDiff, Nat.reduceBEq, Nat.reduceAdd, Nat.reduceLeDiff, Nat.reduceMul, Nat.reduceLT, Int.reduceEq, Int.reduceLT, Int.reduceLE, t1, t3, t4, t16, t17, t18, hlt, toI_len, toI_at, hxe, hxl, h11', h7']
          exact ⟨_, by omega, k + 1, rfl, hlt, hst (fun q => absurd q h11) (fun q => absurd q h7), I_wrap (by omega) (by omega) (by omega)⟩
    · have hk2 : k = en.length := by omega
      subst hk2
      rw [List.take_length] at hnc
      simp +contextual -dsimp -implicitDefEqProofs (maxSteps := 5000000) only [go_sem, reduceIte, reduceCtorEq, Nat.reduceEqDiff, Nat.reduceBEq, Nat.reduceAdd, Nat.reduceLeDiff, Nat.reduceMul, Nat.reduceLT, Int.reduceEq, Int.reduceLT, Int.reduceLE, t1, t3, t4, t16, t17, t18, hlt]
      exact ⟨_, _, rfl, .inr ⟨rfl, rfl, hnc⟩⟩
theorem c_CatcherOf {t : List Class} (cl : Bool) (p : List Line) (cl' : Bool) (i : Nat) (a : Int) (H : AHeap) (hn : namesOk t) (h : ValidP t p) (hi : i < p.length) (ha : hasF t a = true) : ACalls Tryz.prog 27 [aTree t cl, aProg p cl', I i, I a] H fun r H' => (∃ e : Int, r = I e ∧ (0 ≤ e ∨ NoCatch t p a (enD p (dp p i) i))) ∧ H' = H := by
  have hp := h.2.1
  have hv := validB_true.2 h
  refine acalls_of0 Tryz.func27 rfl (by kernel_rfl) rfl rfl (awp_sound (fz := fun _ => []) (im := fun s => s == 4) mixed _ _ _ _ (by kernel_rfl) ?_)
  simp +contextual -dsimp -implicitDefEqProofs (maxSteps := 5000000) only [go_sem, reduceIte, reduceCtorEq, Nat.reduceEqDiff, Nat.reduceBEq, Nat.reduceAdd, Nat.reduceLeDiff, Nat.reduceMul, Nat.reduceLT, Int.reduceEq, Int.reduceLT, Int.reduceLE]
  refine (c_lineIn t cl p cl' i _ hn (by omega) hi).det ?_
  rw [hv]
  simp +contextual -dsimp -implicitDefEqProofs (maxSteps := 5000000) only [go_sem, reduceIte, reduceCtorEq, Nat.reduceEqDiff, Nat.reduceBEq, Nat.reduceAdd, Nat.reduceLeDiff, Nat.reduceMul, Nat.reduceLT, Int.reduceEq, Int.reduceLT, Int.reduceLE]
  refine (c_has _ _ _ _).det ?_
  rw [ha]
  simp +contextual -dsimp -implicitDefEqProofs (maxSteps := 5000000) only [go_sem, reduceIte, reduceCtorEq, Nat.reduceEqDiff, Nat.reduceBEq, Nat.reduceAdd, Nat.reduceLeDiff, Nat.reduceMul, Nat.reduceLT, Int.reduceEq, Int.reduceLT, Int.reduceLE]
  refine (c_catcher cl p cl' i a _ h hi ha).mono ?_
  rintro _ _ ⟨⟨b, e, rfl, hq⟩, rfl⟩
  simp +contextual -dsimp -implicitDefEqProofs (maxSteps := 5000000) only [go_sem, reduceIte, reduceCtorEq, Nat.reduceEqDiff, Nat.reduceBEq, Nat.reduceAdd, Nat.reduceLeDiff, Nat.reduceMul, Nat.reduceLT, Int.reduceEq, Int.reduceLT, Int.reduceLE]
  rcases hq with ⟨_, q⟩ | ⟨_, _, q⟩
  · exact ⟨_, rfl, .inl q⟩
  · exact ⟨_, rfl, .inr q⟩
theorem c_WayOfFault {t : List Class} (cl : Bool) (p : List Line) (cl' : Bool) (i : Nat) (a : Int) (H : AHeap) (hn : namesOk t) (h : ValidP t p) (hi : i < p.length) (ha : hasF t a = true) (hc : NoCatch t p a (enD p (dp p i) i)) : ACalls Tryz.prog 29 [aTree t cl, aProg p cl', I i, I a] H fun r H' => Grow rI 1 3 H H' r (toI (wayL p (enD p (dp p i) i))) := by
  have hp := h.2.1
  have hv := validB_true.2 h
  refine acalls_of0 Tryz.func29 rfl (by kernel_rfl) rfl rfl (awp_sound (fz := fun _ => []) (im := fun s => s == 4) mixed _ _ _ _ (by kernel_rfl) ?_)
  simp +contextual -dsimp -implicitDefEqProofs (maxSteps := 5000000) only [go_sem, reduceIte, reduceCtorEq, Nat.reduceEqDiff, Nat.reduceBEq, Nat.reduceAdd, Nat.reduceLeDiff, Nat.reduceMul, Nat.reduceLT, Int.reduceEq, Int.reduceLT, Int.reduceLE]
  refine (c_lineIn t cl p cl' i _ hn (by omega) hi).det ?_
  rw [hv]
  simp +contextual -dsimp -implicitDefEqProofs (maxSteps := 5000000) only [go_sem, reduceIte, reduceCtorEq, Nat.reduceEqDiff, Nat.reduceBEq, Nat.reduceAdd, Nat.reduceLeDiff, Nat.reduceMul, Nat.reduceLT, Int.reduceEq, Int.reduceLT, Int.reduceLE]
  refine (c_has _ _ _ _).det ?_
  rw [ha]
  simp +contextual -dsimp -implicitDefEqProofs (maxSteps := 5000000) only [go_sem, reduceIte, reduceCtorEq, Nat.reduceEqDiff, Nat.reduceBEq, Nat.reduceAdd, Nat.reduceLeDiff, Nat.reduceMul, Nat.reduceLT, Int.reduceEq, Int.reduceLT, Int.reduceLE]
  refine (c_catcher cl p cl' i a _ h hi ha).mono ?_
  rintro _ _ ⟨⟨b, e, rfl, hq⟩, rfl⟩
  rcases hq with ⟨q, _⟩ | ⟨rfl, rfl, q⟩
  · exact absurd hc q
  simp +contextual -dsimp -implicitDefEqProofs (maxSteps := 5000000) only [go_sem, reduceIte, reduceCtorEq, Nat.reduceEqDiff, Nat.reduceBEq, Nat.reduceAdd, Nat.reduceLeDiff, Nat.reduceMul, Nat.reduceLT, Int.reduceEq, Int.reduceLT, Int.reduceLE]
  refine (c_way p cl' i _ h hi).mono ?_
  rintro r H2 hg
  simp +contextual -dsimp -implicitDefEqProofs (maxSteps := 5000000) only [go_sem, reduceIte, reduceCtorEq, Nat.reduceEqDiff, Nat.reduceBEq, Nat.reduceAdd, Nat.reduceLeDiff, Nat.reduceMul, Nat.reduceLT, Int.reduceEq, Int.reduceLT, Int.reduceLE]
  exact hg
/-- Lines, of which each that is no with-line has a block without jumps. -/
theorem c_plain (p : List Line) (cl : Bool) (l : List Nat) (cl' : Bool) (H : AHeap) (hp : p.length ≤ 1000) (hl : ∀ x ∈ l, x < p.length) (hll : l.length ≤ 1000) : ACalls Tryz.prog 28 [aProg p cl, .vsl ((toI l).map rI) cl'] H fun r H' => (∃ b : Bool, r = B b ∧ (b = true → ∀ y ∈ l, kd p y ≠ 11 → plainB p y)) ∧ H' = H := by
  refine acalls_of0 Tryz.func28 rfl (by kernel_rfl) rfl rfl (awp_sound (fz := fun _ => []) (im := fun _ => false) mixed _ _ _ _ (by kernel_rfl) ?_)
  simp +contextual -dsimp -implicitDefEqProofs (maxSteps := 5000000) only [go_sem, reduceIte, reduceCtorEq, Nat.reduceEqDiff, Nat.reduceBEq, Nat.reduceAdd, Nat.reduceLeDiff, Nat.reduceMul, Nat.reduceLT, Int.reduceEq, Int.reduceLT, Int.reduceLE]
  refine aloop mixed (fz := fun _ => []) (im := fun _ => false) (by kernel_rfl) (fun m tm H' => ∃ k : Nat, m = l.length - k ∧ k ≤ l.length ∧ H' = H ∧ (∀ y ∈ l.take k, kd p y ≠ 11 → plainB p y) ∧ tm 0 = aProg p cl ∧ tm 1 = .vsl ((toI l).map rI) cl' ∧ tm 5 = I k) l.length ⟨0, by omega, by omega, rfl, (fun y hy => by cases hy), ?_⟩ ?_
  · simp +contextual -dsimp -implicitDefEqProofs (maxSteps := 5000000) only [go_sem, reduceIte, reduceCtorEq, Nat.reduceEqDiff, Nat.reduceBEq, Nat.reduceAdd, Nat.reduceLeDiff, Nat.reduceMul, Nat.reduceLT, Int.reduceEq, Int.reduceLT, Int.reduceLE]
  · rintro m tm H ⟨k, rfl, hk, rfl, hno, t0, t1, t5⟩
    by_cases hlt : k < l.length
    · have hxm : l.getD k default ∈ l := by rw [List.getD_eq_getElem?_getD, List.getElem?_eq_getElem hlt]; exact List.getElem_mem hlt
      have hx := hl _ hxm
      have hst : (kd p (l.getD k default) ≠ 11 → plainB p (l.getD k default)) → ∀ y ∈ l.take (k + 1), kd p y ≠ 11 → plainB p y := by
        intro w y hy
        rw [List.take_succ_eq_append_getElem hlt] at hy
        have e : l[k] = l.getD k default := by rw [List.getD_eq_getElem?_getD, List.getElem?_eq_getElem hlt]; rfl
        rcases List.mem_append.1 hy with q | q
        · exact hno y q
        · rw [List.mem_singleton.1 q, e]; exact w
      generalize hxe : l.getD k default = x at hx hst
      by_cases h11 : kd p x = 11
      · have h11' : (p.getD x default).kind = 11 := h11
        simp +contextual -dsimp -implicitDefEqProofs (maxSteps := 5000000) only [go_sem, reduceIte, reduceCtorEq, Nat.reduceEqDiff, Nat.reduceBEq, Nat.reduceAdd, Nat.reduceLeDiff, Nat.reduceMul, Nat.reduceLT, Int.reduceEq, Int.reduceLT, Int.reduceLE, t0, t1, t5, hlt, toI_len, toI_at, hxe, hx, h11']
        exact ⟨_, by omega, k + 1, rfl, hlt, hst (fun q => absurd h11 q), I_wrap (by omega) (by omega) (by omega)⟩
      · have h11' : ¬ (p.getD x default).kind = 11 := h11
        simp +contextual -dsimp -implicitDefEqProofs (maxSteps := 5000000) only [go_sem, reduceIte, reduceCtorEq, Nat.reduceEqDiff, Nat.reduceBEq, Nat.reduceAdd, Nat.reduceLeDiff, Nat.reduceMul, Nat.reduceLT, Int.reduceEq, Int.reduceLT, Int.reduceLE, t0, t1, t5, hlt, toI_len, toI_at, hxe, hx, h11']
        refine aloop mixed (fz := fun _ => []) (im := fun _ => false) (by kernel_rfl) (fun m tm H' => ∃ j : Nat, m = p.length - j ∧ x < j ∧ j ≤ p.length ∧ H' = H ∧ (∀ q, x < q → q < j → dp p x < dp p q ∧ (kd p q = 0 ∨ kd p q = 1)) ∧ tm 0 = aProg p cl ∧ tm 1 = .vsl ((toI l).map rI) cl' ∧ tm 5 = I k ∧ tm 6 = I j) (p.length - (x + 1)) ⟨x + 1, by omega, by omega, by omega, rfl, (fun q h1 h2 => by omega), ?_⟩ ?_
        · simp +contextual -dsimp -implicitDefEqProofs (maxSteps := 5000000) only [go_sem, reduceIte, reduceCtorEq, Nat.reduceEqDiff, Nat.reduceBEq, Nat.reduceAdd, Nat.reduceLeDiff, Nat.reduceMul, Nat.reduceLT, Int.reduceEq, Int.reduceLT, Int.reduceLE, t0, t1, t5, hlt, toI_len, toI_at, hxe, hx, h11']
          exact I_wrap (by omega) (by omega) (by omega)
        · rintro m tm H ⟨j, rfl, hxj, hj, rfl, hin, t0, t1, t5, t6⟩
          have done : ¬ (j < p.length ∧ dp p x < dp p j) → plainB p x := by
            intro hle m m1 m2
            have hml := endP_le hx
            rcases Nat.lt_or_ge m j with q | q
            · exact (hin m m1 q).2
            · exfalso
              have := (endP_in (i := x) (j := m) (by omega) m1).1 m2 j hxj q
              exact hle ⟨by omega, this⟩
          by_cases hjl : j < p.length
          · simp +contextual -dsimp -implicitDefEqProofs (maxSteps := 5000000) only [go_sem, reduceIte, reduceCtorEq, Nat.reduceEqDiff, Nat.reduceBEq, Nat.reduceAdd, Nat.reduceLeDiff, Nat.reduceMul, Nat.reduceLT, Int.reduceEq, Int.reduceLT, Int.reduceLE, t0, t1, t5, t6, hlt, hjl, toI_len, toI_at, hxe, hx, h11']
            refine draw_intro [0, 0, 0, 0, 0, 0, 0, 0, 0, 0, 0, 0, 0, 0, 0, 0, 0, 0, 0, 0] AHeap.none (by kernel_rfl) none_le ?_
            simp +contextual -dsimp -implicitDefEqProofs (maxSteps := 5000000) only [go_sem, reduceIte, reduceCtorEq, Nat.reduceEqDiff, Nat.reduceBEq, Nat.reduceAdd, Nat.reduceLeDiff, Nat.reduceMul, Nat.reduceLT, Int.reduceEq, Int.reduceLT, Int.reduceLE, t0, t1, t5, t6, hlt, hjl, toI_len, toI_at, hxe, hx, h11']
            refine ⟨fun hd => ?_, fun hd => ?_⟩
            · have go : (kd p j = 0 ∨ kd p j = 1) → ∀ q, x < q → q < j + 1 → dp p x < dp p q ∧ (kd p q = 0 ∨ kd p q = 1) := by
                intro w q q1 q2
                rcases Nat.lt_or_ge q j with v | v
                · exact hin q q1 v
                · have : q = j := by omega
                  subst this
                  exact ⟨hd, w⟩
              by_cases k1 : kd p j = 1
              · have k1' : (p.getD j default).kind = 1 := k1
                simp +contextual -dsimp -implicitDefEqProofs (maxSteps := 5000000) only [go_sem, reduceIte, reduceCtorEq, Nat.reduceEqDiff, Nat.reduceBEq, Nat.reduceAdd, Nat.reduceLeDiff, Nat.reduceMul, Nat.reduceLT, Int.reduceEq, Int.reduceLT, Int.reduceLE, t0, t1, t5, t6, hlt, hjl, toI_len, toI_at, hxe, hx, h11', k1']
                exact ⟨_, by omega, j + 1, rfl, by omega, by omega, go (.inr k1), I_wrap (by omega) (by omega) (by omega)⟩
              · have k1' : ¬ (p.getD j default).kind = 1 := k1
                by_cases k0 : kd p j = 0
                · have k0' : (p.getD j default).kind = 0 := k0
                  simp +contextual -dsimp -implicitDefEqProofs (maxSteps := 5000000) only [go_sem, reduceIte, reduceCtorEq, Nat.reduceEqDiff, Nat.reduceBEq, Nat.reduceAdd, Nat.reduceLeDiff, Nat.reduceMul, Nat.reduceLT, Int.reduceEq, Int.reduceLT, Int.reduceLE, t0, t1, t5, t6, hlt, hjl, toI_len, toI_at, hxe, hx, h11', k1', k0']
                  exact ⟨_, by omega, j + 1, rfl, by omega, by omega, go (.inl k0), I_wrap (by omega) (by omega) (by omega)⟩
                · have k0' : ¬ (p.getD j default).kind = 0 := k0
                  simp +contextual -dsimp -implicitDefEqProofs (maxSteps := 5000000) only [go_sem, reduceIte, reduceCtorEq, Nat.reduceEqDiff, Nat.reduceBEq, Nat.reduceAdd, Nat.reduceLeDiff, Nat.reduceMul, Nat.reduceLT, Int.reduceEq, Int.reduceLT, Int.reduceLE, t0, t1, t5, t6, hlt, hjl, toI_len, toI_at, hxe, hx, h11', k1', k0']
                  exact ⟨_, rfl, fun q => by cases q⟩
            · exact ⟨_, by omega, k + 1, rfl, hlt, hst (fun _ => done (fun w => hd w.2)), I_wrap (by omega) (by omega) (by omega)⟩
          · simp +contextual -dsimp -implicitDefEqProofs (maxSteps := 5000000) only [go_sem, reduceIte, reduceCtorEq, Nat.reduceEqDiff, Nat.reduceBEq, Nat.reduceAdd, Nat.reduceLeDiff, Nat.reduceMul, Nat.reduceLT, Int.reduceEq, Int.reduceLT, Int.reduceLE, t0, t1, t5, t6, hlt, hjl, toI_len, toI_at, hxe, hx, h11']
            refine draw_intro [0, 0, 0, 0, 0, 0, 0, 0, 0, 0, 0, 0, 0, 0, 0, 0, 0, 0, 0, 0] AHeap.none (by kernel_rfl) none_le ?_
            simp +contextual -dsimp -implicitDefEqProofs (maxSteps := 5000000) only [go_sem, reduceIte, reduceCtorEq, Nat.reduceEqDiff, Nat.reduceBEq, Nat.reduceAdd, Nat.reduceLeDiff, Nat.reduceMul, Nat.reduceLT, Int.reduceEq, Int.reduceLT, Int.reduceLE, t0, t1, t5, t6, hlt, hjl, toI_len, toI_at, hxe, hx, h11']
            exact ⟨_, by omega, k + 1, rfl, hlt, hst (fun _ => done (fun w => hjl w.1)), I_wrap (by omega) (by omega) (by omega)⟩
    · have hk2 : k = l.length := by omega
      subst hk2
      rw [List.take_length] at hno
      simp +contextual -dsimp -implicitDefEqProofs (maxSteps := 5000000) only [go_sem, reduceIte, reduceCtorEq, Nat.reduceEqDiff, Nat.reduceBEq, Nat.reduceAdd, Nat.reduceLeDiff, Nat.reduceMul, Nat.reduceLT, Int.reduceEq, Int.reduceLT, Int.reduceLE, t0, t1, t5, hlt, toI_len]
      exact ⟨true, rfl, fun _ => hno⟩
end
section
open Go Go.Sim
set_option maxRecDepth 100000
set_option maxHeartbeats 4000000

theorem wayL_mem {t : List Class} {p : List Line} (h : ValidP t p) {i : Nat} (hi : i < p.length) : (∀ x ∈ wayL p (enD p (dp p i) i), x < p.length) ∧ (wayL p (enD p (dp p i) i)).length ≤ 1000 := by
  have hp := h.2.1
  have hmem := enD_mem (p := p) i (dp p i)
  have hlen := enD_len (p := p) i (dp p i)
  have hl2 := wayL_len p (enD p (dp p i) i)
  refine ⟨?_, by omega⟩
  generalize enD p (dp p i) i = en at hmem
  clear hlen hl2
  induction en with
  | nil => intro x hx; cases hx
  | cons k en ih =>
    intro x hx
    have hk := hmem k (List.mem_cons_self ..)
    have hwt := fun q => way_try h (x := k) (by omega) q
    simp only [wayL] at hx
    rcases List.mem_append.1 hx with q | q
    · by_cases h11 : kd p k = 11
      · rw [if_pos h11] at q
        rw [List.mem_singleton.1 q]; omega
      · rw [if_neg h11] at q
        by_cases ht : kd p k = 7 ∨ (kd p k = 8 ∨ kd p k = 9)
        · rw [if_pos ht] at q
          obtain ⟨hd, h1, h2, h3, h4, h5⟩ := hwt ht
          rw [h5] at q
          by_cases h10 : kd p ((chainP p hd).getLastD 0) = 10
          · rw [if_pos h10] at q
            rw [List.mem_singleton.1 q]
            obtain ⟨tl, htl⟩ : ∃ tl, chainP p hd = hd :: tl := ⟨_, rfl⟩
            have hcm := chainP_mem h1
            rw [htl] at hcm ⊢
            rw [← getD_last hd tl]
            refine hcm _ ?_
            rw [List.getD_eq_getElem?_getD, List.getElem?_eq_getElem (by simp)]
            exact List.getElem_mem _
          · rw [if_neg h10] at q; cases q
        · rw [if_neg ht] at q; cases q
    · exact ih (fun y hy => hmem y (List.mem_cons_of_mem _ hy)) x q
theorem c_LawFirstJumpRaise (bs : List UInt8) (cb : Bool) (H : AHeap) : ACalls Tryz.prog 7 [.vsl (bs.map rU) cb] H fun r H' => r = B true ∧ H' = H := by
  refine acalls_of1 Tryz.func7 rfl (by kernel_rfl) rfl rfl (awp_sound (fz := fun r => if r = 3 then [3] else if r = 7 then [6] else if r = 10 then [7] else if r = 11 then [8] else []) (im := fun _ => false) mixed _ _ _ _ (by kernel_rfl) ?_)
  simp +contextual -dsimp -implicitDefEqProofs (maxSteps := 5000000) only [go_sem, reduceIte, reduceCtorEq, Nat.reduceEqDiff, Nat.reduceBEq, Nat.reduceAdd, Nat.reduceLeDiff, Nat.reduceMul, Nat.reduceLT, Int.reduceEq, Int.reduceLT, Int.reduceLE]
  refine ⟨fun hbig => ?_, fun hsmall => ?_⟩
  · refine retR_less (l := [B true]) (H' := H) ?_ (AHeap.le_refl _) ⟨rfl, rfl⟩
    simp only [resA, go_sem, reduceIte, reduceCtorEq, Nat.reduceEqDiff, Nat.reduceBEq, Nat.reduceAdd, Nat.reduceLeDiff, Nat.reduceMul, Nat.reduceLT, Int.reduceEq, Int.reduceLT, Int.reduceLE]
  refine (c_DrawFirstJump H bs cb).mono ?_
  rintro _ H1 ⟨t, cl, p, cl', rfl, hH, hs, ht8, hl8⟩
  rw [hH]
  have hn := short_ok hs
  have hp : p.length ≤ 4398046511104 := by omega
  simp +contextual -dsimp -implicitDefEqProofs (maxSteps := 5000000) only [go_sem, reduceIte, reduceCtorEq, Nat.reduceEqDiff, Nat.reduceBEq, Nat.reduceAdd, Nat.reduceLeDiff, Nat.reduceMul, Nat.reduceLT, Int.reduceEq, Int.reduceLT, Int.reduceLE]
  intro b3 hb3
  refine (c_mFirstJump t cl p cl' _ hn hp).det ?_
  simp +contextual -dsimp -implicitDefEqProofs (maxSteps := 5000000) only [go_sem, reduceIte, reduceCtorEq, Nat.reduceEqDiff, Nat.reduceBEq, Nat.reduceAdd, Nat.reduceLeDiff, Nat.reduceMul, Nat.reduceLT, Int.reduceEq, Int.reduceLT, Int.reduceLE]
  refine (c_sFirstJump t cl p cl' _ hn hp).det ?_
  have out : jumpR t p < 0 ∨ 0 ≤ jumpR t p := by omega
  by_cases hneg : jumpR t p < 0
  · simp +contextual -dsimp -implicitDefEqProofs (maxSteps := 5000000) only [go_sem, reduceIte, reduceCtorEq, Nat.reduceEqDiff, Nat.reduceBEq, Nat.reduceAdd, Nat.reduceLeDiff, Nat.reduceMul, Nat.reduceLT, Int.reduceEq, Int.reduceLT, Int.reduceLE, hneg]
    refine (c_sFirstJump t cl p cl' _ hn hp).det ?_
    simp +contextual -dsimp -implicitDefEqProofs (maxSteps := 5000000) only [go_sem, reduceIte, reduceCtorEq, Nat.reduceEqDiff, Nat.reduceBEq, Nat.reduceAdd, Nat.reduceLeDiff, Nat.reduceMul, Nat.reduceLT, Int.reduceEq, Int.reduceLT, Int.reduceLE, hneg]
    refine retR_less (l := [B true]) (H' := H) ?_ (AHeap.le_refl _) ⟨rfl, rfl⟩
    simp only [resA, go_sem, reduceIte, reduceCtorEq, Nat.reduceEqDiff, Nat.reduceBEq, Nat.reduceAdd, Nat.reduceLeDiff, Nat.reduceMul, Nat.reduceLT, Int.reduceEq, Int.reduceLT, Int.reduceLE]
  have hv : validB t p = true := by
    cases hv : validB t p
    · unfold jumpR at hneg; rw [hv] at hneg; exact absurd (show (-1 : Int) < 0 by decide) hneg
    · rfl
  have hval := validB_true.1 hv
  have e : jumpR t p = jumpP p := by unfold jumpR; rw [if_pos hv]
  have g3 := first_place hval
  rw [e] at hneg ⊢
  obtain ⟨J, hJ⟩ := Int.eq_ofNat_of_zero_le (show 0 ≤ jumpP p by omega)
  have hneg2 : ¬ ((J : Nat) : Int) < 0 := by omega
  obtain ⟨k1, _, _⟩ := g3 (by omega)
  rw [hJ] at hneg k1 ⊢
  simp only [Int.toNat_natCast] at k1
  obtain ⟨hwm, hwl⟩ := wayL_mem hval k1
  simp +contextual -dsimp -implicitDefEqProofs (maxSteps := 5000000) only [go_sem, reduceIte, reduceCtorEq, Nat.reduceEqDiff, Nat.reduceBEq, Nat.reduceAdd, Nat.reduceLeDiff, Nat.reduceMul, Nat.reduceLT, Int.reduceEq, Int.reduceLT, Int.reduceLE, k1, hneg2]
  by_cases hk : kd p J = 2
  · have hk' : (p.getD J default).kind = 2 := hk
    have hha := (num_raise hval k1 hk).1
    simp +contextual -dsimp -implicitDefEqProofs (maxSteps := 5000000) only [go_sem, reduceIte, reduceCtorEq, Nat.reduceEqDiff, Nat.reduceBEq, Nat.reduceAdd, Nat.reduceLeDiff, Nat.reduceMul, Nat.reduceLT, Int.reduceEq, Int.reduceLT, Int.reduceLE, k1, hk']
    intro b6 hb6
    refine (c_CatcherOf cl p cl' J (p.getD J default).a _ hn hval k1 hha).mono ?_
    rintro _ H ⟨⟨e, rfl, hq⟩, rfl⟩
    by_cases he : 0 ≤ e
    · simp +contextual -dsimp -implicitDefEqProofs (maxSteps := 5000000) only [go_sem, reduceIte, reduceCtorEq, Nat.reduceEqDiff, Nat.reduceBEq, Nat.reduceAdd, Nat.reduceLeDiff, Nat.reduceMul, Nat.reduceLT, Int.reduceEq, Int.reduceLT, Int.reduceLE, k1, hk', he]
      refine retR_less (l := [B true]) (H' := H) ?_ (AHeap.le_refl _) ⟨rfl, rfl⟩
      simp only [resA, go_sem, reduceIte, reduceCtorEq, Nat.reduceEqDiff, Nat.reduceBEq, Nat.reduceAdd, Nat.reduceLeDiff, Nat.reduceMul, Nat.reduceLT, Int.reduceEq, Int.reduceLT, Int.reduceLE]
    have hnc := hq.resolve_left he
    simp +contextual -dsimp -implicitDefEqProofs (maxSteps := 5000000) only [go_sem, reduceIte, reduceCtorEq, Nat.reduceEqDiff, Nat.reduceBEq, Nat.reduceAdd, Nat.reduceLeDiff, Nat.reduceMul, Nat.reduceLT, Int.reduceEq, Int.reduceLT, Int.reduceLE, k1, hk', he]
    refine acalls_frz (c_WayOfFault cl p cl' J (p.getD J default).a _ hn hval k1 hha hnc) fun c1 => ?_
    simp +contextual -dsimp -implicitDefEqProofs (maxSteps := 5000000) only [go_sem, reduceIte, reduceCtorEq, Nat.reduceEqDiff, Nat.reduceBEq, Nat.reduceAdd, Nat.reduceLeDiff, Nat.reduceMul, Nat.reduceLT, Int.reduceEq, Int.reduceLT, Int.reduceLE, k1, hk']
    refine (c_plain p cl' _ c1 _ (by omega) hwm hwl).mono ?_
    rintro _ H ⟨⟨b, rfl, hpl⟩, rfl⟩
    cases b
    · simp +contextual -dsimp -implicitDefEqProofs (maxSteps := 5000000) only [go_sem, reduceIte, reduceCtorEq, Nat.reduceEqDiff, Nat.reduceBEq, Nat.reduceAdd, Nat.reduceLeDiff, Nat.reduceMul, Nat.reduceLT, Int.reduceEq, Int.reduceLT, Int.reduceLE, k1, hk']
      refine retR_less (l := [B true]) (H' := H) ?_ (AHeap.le_refl _) ⟨rfl, rfl⟩
      simp only [resA, go_sem, reduceIte, reduceCtorEq, Nat.reduceEqDiff, Nat.reduceBEq, Nat.reduceAdd, Nat.reduceLeDiff, Nat.reduceMul, Nat.reduceLT, Int.reduceEq, Int.reduceLT, Int.reduceLE]
    · obtain ⟨r1, r2, r3⟩ := jl_raise hval hJ hk k1 (hpl rfl) hnc
      simp +contextual -dsimp -implicitDefEqProofs (maxSteps := 5000000) only [go_sem, reduceIte, reduceCtorEq, Nat.reduceEqDiff, Nat.reduceBEq, Nat.reduceAdd, Nat.reduceLeDiff, Nat.reduceMul, Nat.reduceLT, Int.reduceEq, Int.reduceLT, Int.reduceLE, k1, hk']
      refine (c_mRunV t cl p cl' _ hn (by omega) hv).mono ?_
      rintro _ H ⟨⟨c5, c6, rfl⟩, rfl⟩
      have hrl : (resOf (runP t p)).heap.length ≤ 1000000 := by omega
      simp +contextual -dsimp -implicitDefEqProofs (maxSteps := 5000000) only [go_sem, reduceIte, reduceCtorEq, Nat.reduceEqDiff, Nat.reduceBEq, Nat.reduceAdd, Nat.reduceLeDiff, Nat.reduceMul, Nat.reduceLT, Int.reduceEq, Int.reduceLT, Int.reduceLE, k1, hk']
      intro b8 hb8
      refine (c_mStartOf t cl _ c5 c6 _ hn hrl).det ?_
      rw [r1]
      unfold ak bk
      simp +contextual -dsimp -implicitDefEqProofs (maxSteps := 5000000) only [go_sem, reduceIte, reduceCtorEq, Nat.reduceEqDiff, Nat.reduceBEq, Nat.reduceAdd, Nat.reduceLeDiff, Nat.reduceMul, Nat.reduceLT, Int.reduceEq, Int.reduceLT, Int.reduceLE, k1, hk', r2, r3]
      intro b9 hb9
      refine retR_less (l := [B true]) (H' := H) ?_ (AHeap.le_refl _) ⟨rfl, rfl⟩
      simp only [resA, go_sem, reduceIte, reduceCtorEq, Nat.reduceEqDiff, Nat.reduceBEq, Nat.reduceAdd, Nat.reduceLeDiff, Nat.reduceMul, Nat.reduceLT, Int.reduceEq, Int.reduceLT, Int.reduceLE, r2, r3]
      rfl
  · have hk' : ¬ (p.getD J default).kind = 2 := hk
    simp +contextual -dsimp -implicitDefEqProofs (maxSteps := 5000000) only [go_sem, reduceIte, reduceCtorEq, Nat.reduceEqDiff, Nat.reduceBEq, Nat.reduceAdd, Nat.reduceLeDiff, Nat.reduceMul, Nat.reduceLT, Int.reduceEq, Int.reduceLT, Int.reduceLE, k1, hk']
    intro b6 hb6
    refine retR_less (l := [B true]) (H' := H) ?_ (AHeap.le_refl _) ⟨rfl, rfl⟩
    simp only [resA, go_sem, reduceIte, reduceCtorEq, Nat.reduceEqDiff, Nat.reduceBEq, Nat.reduceAdd, Nat.reduceLeDiff, Nat.reduceMul, Nat.reduceLT, Int.reduceEq, Int.reduceLT, Int.reduceLE]
end
end
end Go.Proofs.YtoacjmckefahcaaGreat
