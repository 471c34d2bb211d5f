/- Walks and plain laws that the claims of this seat lean on. No condition. -/
import Derived.Test.YtoacjmckefahcaaGreatJ5
set_option linter.unusedVariables false
set_option linter.unusedSimpArgs false
namespace Go.Proofs.YtoacjmckefahcaaGreat
open Go Go.Sim
section
set_option maxRecDepth 100000
attribute [local go_sem ↓] aw_skip aw_ret aw_exit aw_region aw_draw aw_seq aw_block aw_loop aw_cond frz_nil frz_cons sq_normal sq_ret sq_exit exB_normal exB_ret exB_same exB_other retQ_ret retQ_normal ret0_ret ret0_normal ao_nil go1 g_move g_assign g_pick g_build g_load g_binOp g_unOp g_convert g_fieldAddr g_field g_indexAddr g_index g_extract g_lookup g_slice g_nilCheck g_len g_makeFunc h_call h_append h_alloc h_box h_buildSlice h_makeSlice h_store gV i_box i_buildSlice i_move i_assign i_build i_load i_binOp i_unOp i_convert i_fieldAddr i_field i_indexAddr i_index i_extract i_lookup i_makeMap i_mapUpdate i_slice i_nilCheck i_makeFunc i_len i_max i_min i_alloc i_makeSlice i_store i_append i_call i_pick boxI boxA buildSliceI buildSliceA makeSliceA makeMapA allocA storeA p_move p_assign p_pick p_build p_load p_binOp p_unOp p_convert p_fieldAddr p_field p_indexAddr p_index p_extract p_lookup p_makeMap p_mapUpdate p_slice p_nilCheck p_makeFunc p_len p_max p_min p_alloc p_box p_buildSlice p_makeSlice p_store p_append p_call x_nil x_go1 x_g0 x_g1 x_g2 x_g3 x_s0 x_s1 x_s2 x_s3 u_move u_assign u_pick u_build u_load u_binOp u_unOp u_convert u_fieldAddr u_field u_indexAddr u_index u_extract u_lookup u_slice u_nilCheck u_makeFunc u_len u_buildSlice x_s4 x_g4 rq_normal rq_ret rq_exit aw_range
attribute [local go_sem] frzV_sl frzK_some set_none set_other AHeap.set_self set_del set_set cnd_t cnd_f cnd_b retA_one retA_two retA_three retA_four retA_nil gIf_b mrgV_b mrgV_wh mrgV_U gIf_U gIf_wh mrgB_f mrgB_some mrgB_if wh_true wh_false keepA_some keepA_if gD_zero gD_succ gT_some bxA_t bxA_f callA_fn ev_tmp ev_const ev_global ev_func oc_bool oc_int oc_string oc_nil oc_nilptr oc_nilfunc cl_bool cl_int cl_string cl_nil updO_some updO_none upd_same upd_other init_at pickA_b pickA_wh selA_t selA_f selA_and selA_or selA_orn selA_orm selA_bb selA_ii beqt b_add b_sub b_mul b_and b_or b_xor b_eql b_neq b_lss b_leq b_gtr b_geq b_quo b_rem b_shr b_seql b_sneq b_sadd b_beql b_bneq b_aeql b_aneq u_not u_neg isConstOp eqA eqCellV List.getD_cons_zero List.getD_cons_succ List.map_cons List.map_nil List.nil_append List.cons_append List.append_nil if_true if_false Option.map_some Option.map_none ne_eq not_false_eq_true oneA ldv ld1v ld1s wr1s ldRow stRow row_lit row_agg row_vsl row_sl row_ptr row_fn one_I one_B one_S one_vsl one_sl one_ptr one_fn extractA okA rI rS rU rClass rFault rExit rStart rLine Int.toNat_natCast List.length_cons List.length_nil List.length_map List.all_cons List.all_nil Bool.and_true Nat.zero_add List.getElem?_cons_zero List.getElem?_cons_succ List.take_succ_cons List.take_zero List.drop_succ_cons List.drop_zero and_self true_and and_true implies_true decide_eq_true_eq decide_eq_false_iff_not Bool.or_eq_true Bool.or_eq_false_iff Bool.and_eq_true Bool.not_eq_true' Bool.not_eq_false' beq_false decide_true decide_false Int.ofNat_lt Int.ofNat_le Int.natCast_nonneg Bool.or_true Bool.or_false Bool.true_or Bool.false_or beq_self_eq_true List.drop_one Bool.not_true Bool.not_false Bool.not_not Bool.false_eq_true Bool.true_eq_false false_implies true_implies Bool.true_and Bool.false_and Bool.and_false not_true_eq_false Int.natCast_eq_zero Int.natCast_pos Int.natCast_zero false_and and_false or_false false_or or_true true_or Bool.or_self none_le_iff List.replicate_zero Int.toNat_zero List.replicate_succ buildRows List.set_cons_zero List.set_cons_succ List.set_nil List.mapM_nil maxLen_eq Nat.zero_le Nat.mul_one Nat.one_mul bldA fillA spliceA List.take_nil List.drop_nil List.getElem?_nil ld1o wr1o bldSliceA le_same cv_i cvI_t quietT_fn qvd_some ld_o ldO_1 ldO_l wr_o wrO_1 set_2 set_3 set_4 putL_nil putL_cons List.zip_cons_cons List.zip_nil_left List.zip_nil_right List.toList_toArray frzV_set ti1 ti2 tk2 ti3 te3 ts3 tk3 tz3 ti4 tb4 ti5 tk5 tz5 ti9 te9 ts9 tk9 tz9 ti12 tk12 ti13 tp13 tf13_0 tf13_1 ti20 ti21 tk21 tz21 ti22 te22 tz22 ti23 te23 ti24 tp24 tf24_0 ti25 tp25 tf25_0 ti26 te26 ti28 ti29 ti30 ti31 ti32 ti33 te33 ti34 te34 ti35 tp35 tf35_0 ti36 tp36 tf36_0 ti37 tp37 tf37_0 tf37_1 tf37_2 tf37_3 ti38 tp38 tf38_0 tf38_1 tf38_2 tf38_3 ti39 ti40 ti41 ti42 ti43 tq43 tp43 tf43_0 tf43_1 tf43_2 tf43_3 ti44 tq44 tp44 tf44_0 tf44_1 tf44_2 tf44_3 ti45 ti46 ti47 ti48 ti49 ti50 ti51 tq51 tp51 tf51_0 tf51_1 tf51_2 ti52 tq52 tp52 tf52_0 tf52_1 tf52_2 ti54 ti55 ti56 ti57 ti58 ti59 ti60 ti61 ti62 ti63 ti64 ti65 ti66 ti67 ti68 ti69 ti70 tq70 tp70 tf70_0 tf70_1 ti71 tq71 tp71 tf71_0 tf71_1 ti72 ti73 ti74 ti75 ti76 ti77 ti78 ti79 tp79 tf79_0 tf79_1 tf79_2 tf79_3 tf79_4 ti80 tp80 tf80_0 tf80_1 tf80_2 tf80_3 tf80_4 ti81 ti83 ti84 ti85 ti86 tq86 tp86 tf86_0 tf86_1 tf86_2 tf86_3 tf86_4 ti87 tq87 tp87 tf87_0 tf87_1 tf87_2 tf87_3 tf87_4 ti88 ti89 ti90 ti91 ti92 tp92 tf92_0 tf92_1 ti93 tp93 tf93_0 tf93_1 ti94 ti95 ti96 ti97 tq97 tp97 tf97_0 tf97_1 ti98 tq98 tp98 tf98_0 tf98_1 ti99 ti100 ti101 ti103 ti104 ti105 ti106 ti107 ti108 ti109 ti110 ti111 te111 ti112 ti113 ti114 ti115 ti116 ti117 ti118 ti119 ti120 ti121 ti122 ti123 ti124 ti125 ti126 ti127 tk127 tz127 ti128 ti129 ti130 tk130 ti132 ti133 ti134 ti136 ti137 ti138 tk138 tz138 ti139 ti140 tk140 tz140 ti141 tk141 ti142 ti143 ti144 ti145 ti146 ti147 ti148 ti149 ti155 ti159 fp13_0 fv13_0 fp13_1 fv13_1 fp24_0 fv24_0 fp25_0 fv25_0 fp35_0 fv35_0 fp36_0 fv36_0 fp37_0 fv37_0 fp37_1 fv37_1 fp37_2 fv37_2 fp37_3 fv37_3 fp38_0 fv38_0 fp38_1 fv38_1 fp38_2 fv38_2 fp38_3 fv38_3 fp43_0 fv43_0 fp43_1 fv43_1 fp43_2 fv43_2 fp43_3 fv43_3 fp44_0 fv44_0 fp44_1 fv44_1 fp44_2 fv44_2 fp44_3 fv44_3 fp51_0 fv51_0 fp51_1 fv51_1 fp51_2 fv51_2 fp52_0 fv52_0 fp52_1 fv52_1 fp52_2 fv52_2 fp70_0 fv70_0 fp70_1 fv70_1 fp71_0 fv71_0 fp71_1 fv71_1 fp79_0 fv79_0 fp79_1 fv79_1 fp79_2 fv79_2 fp79_3 fv79_3 fp79_4 fv79_4 fp80_0 fv80_0 fp80_1 fv80_1 fp80_2 fv80_2 fp80_3 fv80_3 fp80_4 fv80_4 fp86_0 fv86_0 fp86_1 fv86_1 fp86_2 fv86_2 fp86_3 fv86_3 fp86_4 fv86_4 fp87_0 fv87_0 fp87_1 fv87_1 fp87_2 fv87_2 fp87_3 fv87_3 fp87_4 fv87_4 fp92_0 fv92_0 fp92_1 fv92_1 fp93_0 fv93_0 fp93_1 fv93_1 fp97_0 fv97_0 fp97_1 fv97_1 fp98_0 fv98_0 fp98_1 fv98_1 lv22 ll22 is22 ix22 sh22 so22 sb22 sm22 sp22 lv23 ll23 is23 ix23 sh23 so23 sb23 sm23 sp23 lv26 ll26 is26 ix26 sh26 so26 sb26 sm26 sp26 lv33 ll33 is33 ix33 sh33 so33 sb33 sm33 sp33 lv34 ll34 is34 ix34 sh34 so34 sb34 sm34 sp34 lv111 ll111 is111 ix111 sh111 so111 sb111 sm111 sp111 xs9 ls9 sx9 sy9 sz9
section
open Go Go.Sim
set_option maxRecDepth 100000
set_option maxHeartbeats 4000000

/-- The first jump in what goes on with a try. -/
def firstC : Fo → Nat → Option Nat
  | .nil, _ => none
  | .node k _ _ kids rest, e => if followsK k = true then (if k = 8 then firstC rest (e + 1 + kids.size) else match firstF kids (e + 1) false with
    | some j => some j
    | none => firstC rest (e + 1 + kids.size)) else none
theorem firstF_chain : ∀ (f : Fo) (e : Nat) (lp : Bool), okF f lp true = true → firstF f e true = match firstC f e with
    | some j => some j
    | none => firstF (skipF f) (skipN f e) false
  | .nil, e, lp, _ => rfl
  | .node k a b kids rest, e, lp, h => by
    by_cases hf : followsK k = true
    · have hf' := followsK_iff.1 hf
      rcases okF_node h with ⟨_, _, o1, o2⟩ | ⟨q, _⟩
      rotate_left
      · rw [hf] at q; cases q
      have ih := firstF_chain rest (e + 1 + kids.size) lp o2
      by_cases k8 : k = 8
      · have e1 : firstF (.node k a b kids rest) e true = firstF rest (e + 1 + kids.size) true := by simp only [firstF]; rw [if_pos ⟨trivial, k8⟩]
        have e2 : firstC (.node k a b kids rest) e = firstC rest (e + 1 + kids.size) := by simp only [firstC]; rw [if_pos hf, if_pos k8]
        have e3 : skipF (.node k a b kids rest) = skipF rest := by simp only [skipF]; rw [if_pos hf]
        have e4 : skipN (.node k a b kids rest) e = skipN rest (e + 1 + kids.size) := by simp only [skipN]; rw [if_pos hf]
        rw [e1, e2, e3, e4, ih]
      · have hj : ¬ jumpsK k = true := by rw [jumpsK_iff]; omega
        have e1 : firstF (.node k a b kids rest) e true = match firstF kids (e + 1) false with
            | some j => some j
            | none => firstF rest (e + 1 + kids.size) true := by
          have o1 : ¬ (k = 12 ∧ a = 0) := by omega
          simp only [firstF]
          rw [if_neg (show ¬ (True ∧ k = 8) from fun q => k8 q.2), if_neg hj, if_neg o1, hf]
          simp only [Bool.and_self, Bool.or_true]
          cases firstF kids (e + 1) false <;> rfl
        have e2 : firstC (.node k a b kids rest) e = match firstF kids (e + 1) false with
            | some j => some j
            | none => firstC rest (e + 1 + kids.size) := by
          simp only [firstC]
          rw [if_pos hf, if_neg k8]
        have e3 : skipF (.node k a b kids rest) = skipF rest := by simp only [skipF]; rw [if_pos hf]
        have e4 : skipN (.node k a b kids rest) e = skipN rest (e + 1 + kids.size) := by simp only [skipN]; rw [if_pos hf]
        rw [e1, e2, e3, e4]
        cases firstF kids (e + 1) false with
        | some j => rfl
        | none => exact ih
    · have e2 : firstC (.node k a b kids rest) e = none := by simp only [firstC]; rw [if_neg hf]
      have e3 : skipF (.node k a b kids rest) = .node k a b kids rest := by simp only [skipF]; rw [if_neg hf]
      have e4 : skipN (.node k a b kids rest) e = e := by simp only [skipN]; rw [if_neg hf]
      have k8 : k ≠ 8 := fun q => by subst q; exact hf rfl
      have hf' : followsK k = false := by simpa using hf
      rw [e2, e3, e4]
      simp only [firstF]
      rw [if_neg (show ¬ (True ∧ k = 8) from fun q => k8 q.2), if_neg (show ¬ (false = true ∧ k = 8) from fun q => k8 q.2), hf']
      simp only [Bool.and_false, Bool.or_false]
def jumpInF (k a : Int) (kids rest : Fo) (q : Nat) : Option Nat :=
  if opensK k = false ∨ (k = 12 ∧ a = 0) then none else match firstF kids (q + 1) false with
    | some j => some j
    | none => if k = 7 then firstC rest (q + 1 + kids.size) else none
theorem firstF_step {t : List Class} {k a b d : Int} {kids rest : Fo} {q : Nat} {lp : Bool} (hn : numsF t (.node k a b kids rest) d = true) (h : okF (.node k a b kids rest) lp false = true) :
    firstF (.node k a b kids rest) q false = if jumpsK k = true then some q else match jumpInF k a kids rest q with
      | some j => some j
      | none => if k = 7 then firstF (skipF rest) (skipN rest (q + 1 + kids.size)) false else firstF rest (q + 1 + kids.size) false := by
  have hf : followsK k = false := by
    rcases okF_node h with ⟨_, w, _⟩ | ⟨w, _⟩
    · cases w
    · exact w
  simp only [firstF]
  rw [if_neg (fun w => by cases w.1), hf, Bool.and_false, Bool.or_false]
  by_cases hj : jumpsK k = true
  · rw [if_pos hj, if_pos hj]
  · rw [if_neg hj, if_neg hj]
    unfold jumpInF
    by_cases k7 : k = 7
    · subst k7
      rw [if_neg (by omega), if_neg (fun w => by rcases w with w | w; exact absurd w (by decide); omega), if_pos rfl, if_pos rfl, decide_eq_true rfl]
      have o2 : okF rest lp true = true := by
        rcases okF_node h with ⟨w, _⟩ | ⟨_, ⟨_, _, _, o⟩ | ⟨o, _⟩⟩
        · cases w
        · exact o
        · exact absurd rfl o
      rw [firstF_chain rest _ lp o2]
      cases firstF kids (q + 1) false with
      | some j => rfl
      | none => rfl
    · rw [decide_eq_false k7, if_neg k7, if_neg k7]
      by_cases hz : k = 12 ∧ a = 0
      · rw [if_pos hz, if_pos (.inr hz)]
      · rw [if_neg hz]
        by_cases ho : opensK k = false
        · rw [if_pos (.inl ho)]
          have hkn : kids = .nil := by
            cases kids with
            | nil => rfl
            | node _ _ _ _ _ => rw [opens_kids hn (fun w => by cases w)] at ho; cases ho
          subst hkn
          rfl
        · rw [if_neg (fun w => by rcases w with w | w; exact ho w; exact hz w)]
          cases firstF kids (q + 1) false <;> rfl
def oI : Option Nat → Int
  | none => -1
  | some j => j
theorem jumpP_oI (p : List Line) : jumpP p = oI (firstF (forestP p) 0 false) := by
  unfold jumpP
  cases firstF (forestP p) 0 false <;> rfl
def FJ (t : List Class) (p : List Line) (cl : Bool) (n : Nat) : Prop :=
  ∀ (f : Fo) (i : Nat) (d : Int) (lp : Bool) (H : AHeap), f.size < n → At p i d f → numsF t f d = true → okF f lp false = true → ACalls Tryz.prog 57 [aProg p cl, I i, I (i + f.size : Nat)] H fun r H' => r = I (oI (firstF f i false)) ∧ H' = H
theorem c_jumpIn {t : List Class} {p : List Line} {cl : Bool} {n : Nat} (ih : FJ t p cl n) (hp : p.length ≤ 1000) {q : Nat} {d k a b : Int} {kids rest : Fo} {lp : Bool} (ha : At p q d (.node k a b kids rest)) (hn : numsF t (.node k a b kids rest) d = true) (ho : okF (.node k a b kids rest) lp false = true) (hk : kids.size + rest.size < n) (H : AHeap) :
    ACalls Tryz.prog 90 [aProg p cl, I q] H fun r H' => r = I (oI (jumpInF k a kids rest q)) ∧ H' = H := by
  obtain ⟨hq, hqe⟩ := ha.head
  obtain ⟨n1, n2, n3, n4, n5⟩ := numsF_node hn
  have hkl := ha.kids.len
  have hwq : IntKind.i64.wrap ((q : Int) + 1) = ((q + 1 : Nat) : Int) := by rw [w64 (by omega) (by omega)]; rfl
  refine acalls_of0 Tryz.func90 rfl (by kernel_rfl) rfl rfl (awp_sound (fz := fun _ => []) (im := fun _ => false) mixed _ _ _ _ (by kernel_rfl) ?_)
  simp +contextual -dsimp -implicitDefEqProofs (maxSteps := 5000000) only [go_sem, reduceIte, reduceCtorEq, Nat.reduceEqDiff, Nat.reduceBEq, Nat.reduceAdd, Nat.reduceLeDiff, Nat.reduceMul, Nat.reduceLT, Int.reduceEq, Int.reduceLT, Int.reduceLE, hq, hqe]
  refine (c_opens _ _).det ?_
  unfold jumpInF
  cases hop : opensK k
  · rw [if_pos (.inl rfl)]
    simp +contextual -dsimp -implicitDefEqProofs (maxSteps := 5000000) only [go_sem, reduceIte, reduceCtorEq, Nat.reduceEqDiff, Nat.reduceBEq, Nat.reduceAdd, Nat.reduceLeDiff, Nat.reduceMul, Nat.reduceLT, Int.reduceEq, Int.reduceLT, Int.reduceLE, hq, hqe]
    rfl
  · by_cases hz : k = 12 ∧ a = 0
    · rw [if_pos (.inr hz)]
      obtain ⟨k12, a0⟩ := hz
      simp +contextual -dsimp -implicitDefEqProofs (maxSteps := 5000000) only [go_sem, reduceIte, reduceCtorEq, Nat.reduceEqDiff, Nat.reduceBEq, Nat.reduceAdd, Nat.reduceLeDiff, Nat.reduceMul, Nat.reduceLT, Int.reduceEq, Int.reduceLT, Int.reduceLE, hq, hqe, k12, a0]
      rfl
    · rw [if_neg (fun w => by rcases w with w | w; cases w; exact hz w)]
      obtain ⟨lp', o1⟩ := ok_kids ho hop
      by_cases k12 : k = 12
      · have a0 : ¬ a = 0 := fun w => hz ⟨k12, w⟩
        simp +contextual -dsimp -implicitDefEqProofs (maxSteps := 5000000) only [go_sem, reduceIte, reduceCtorEq, Nat.reduceEqDiff, Nat.reduceBEq, Nat.reduceAdd, Nat.reduceLeDiff, Nat.reduceMul, Nat.reduceLT, Int.reduceEq, Int.reduceLT, Int.reduceLE, hq, hqe, k12, a0, hwq]
        refine (c_blockEnd _ _ _ _ hq).det ?_
        rw [ha.endP]
        simp +contextual -dsimp -implicitDefEqProofs (maxSteps := 5000000) only [go_sem, reduceIte, reduceCtorEq, Nat.reduceEqDiff, Nat.reduceBEq, Nat.reduceAdd, Nat.reduceLeDiff, Nat.reduceMul, Nat.reduceLT, Int.reduceEq, Int.reduceLT, Int.reduceLE, hq, hqe]
        refine (ih kids (q + 1) (d + 1) lp' _ (by omega) ha.kids n4 o1).det ?_
        cases hfk : firstF kids (q + 1) false with
        | some j =>
          have z : (0 : Int) ≤ (j : Int) := by omega
          simp +contextual -dsimp -implicitDefEqProofs (maxSteps := 5000000) only [go_sem, reduceIte, reduceCtorEq, Nat.reduceEqDiff, Nat.reduceBEq, Nat.reduceAdd, Nat.reduceLeDiff, Nat.reduceMul, Nat.reduceLT, Int.reduceEq, Int.reduceLT, Int.reduceLE, hq, hqe, oI, z]
          try rfl
        | none =>
          by_cases k7 : k = 7
          · rw [if_pos k7]
            have o2 : okF rest lp true = true := by
              rcases okF_node ho with ⟨_, w, _⟩ | ⟨_, ⟨_, _, _, o⟩ | ⟨o, _⟩⟩
              · cases w
              · exact o
              · exact absurd k7 o
            simp +contextual -dsimp -implicitDefEqProofs (maxSteps := 5000000) only [go_sem, reduceIte, reduceCtorEq, Nat.reduceEqDiff, Nat.reduceBEq, Nat.reduceAdd, Nat.reduceLeDiff, Nat.reduceMul, Nat.reduceLT, Int.reduceEq, Int.reduceLT, Int.reduceLE, hq, hqe, oI, k7]
            refine acalls_frz (c_chainOf p cl q _ hq (by omega)) fun c6 => ?_
            rw [chainP_at ha]
            try simp +contextual -dsimp -implicitDefEqProofs (maxSteps := 5000000) only [go_sem, reduceIte, reduceCtorEq, Nat.reduceEqDiff, Nat.reduceBEq, Nat.reduceAdd, Nat.reduceLeDiff, Nat.reduceMul, Nat.reduceLT, Int.reduceEq, Int.reduceLT, Int.reduceLE, hq, hqe, oI, k7]
            have hrl := ha.rest.len
            have hcl := chain_len rest (q + 1 + kids.size)
            refine aloop mixed (fz := fun _ => []) (im := fun _ => false) (by kernel_rfl) (fun m tm H' => ∃ (g : Fo) (e x : Nat) (y : Option Nat), m = g.size ∧ At p e d g ∧ numsF t g d = true ∧ okF g lp true = true ∧ g.size ≤ rest.size ∧ x ≤ (chainN rest (q + 1 + kids.size)).length ∧ H' = H ∧ (y = none → (chainN rest (q + 1 + kids.size)).drop x = chainN g e ∧ firstC rest (q + 1 + kids.size) = firstC g e) ∧ (∀ j, y = some j → firstC rest (q + 1 + kids.size) = some j) ∧ tm 0 = aProg p cl ∧ tm 5 = I (oI y) ∧ tm 6 = .vsl ((toI (q :: chainN rest (q + 1 + kids.size))).map rI) c6 ∧ tm 7 = I (x + 1 : Nat)) rest.size ⟨rest, q + 1 + kids.size, 0, none, rfl, ha.rest, n5, o2, Nat.le_refl _, Nat.zero_le _, rfl, fun _ => ⟨rfl, rfl⟩, (fun j w => by cases w), ?_⟩ ?_
            · simp +contextual -dsimp -implicitDefEqProofs (maxSteps := 5000000) only [go_sem, reduceIte, reduceCtorEq, Nat.reduceEqDiff, Nat.reduceBEq, Nat.reduceAdd, Nat.reduceLeDiff, Nat.reduceMul, Nat.reduceLT, Int.reduceEq, Int.reduceLT, Int.reduceLE, oI]
              try rfl
            · rintro m tm H ⟨g, e, x, y, rfl, hga, hgn, hgo, hgs, hxl, rfl, hy1, hy2, t0, t5, t6, t7⟩
              cases y with
              | some j =>
                have z : ¬ (j : Int) < 0 := by omega
                rw [hy2 j rfl]
                by_cases hx' : x + 1 < (chainN rest (q + 1 + kids.size)).length + 1
                · simp +contextual -dsimp -implicitDefEqProofs (maxSteps := 5000000) only [go_sem, reduceIte, reduceCtorEq, Nat.reduceEqDiff, Nat.reduceBEq, Nat.reduceAdd, Nat.reduceLeDiff, Nat.reduceMul, Nat.reduceLT, Int.reduceEq, Int.reduceLT, Int.reduceLE, t0, t5, t6, t7, toI_len, List.length_cons, hx', oI, z]
                  try rfl
                · simp +contextual -dsimp -implicitDefEqProofs (maxSteps := 5000000) only [go_sem, reduceIte, reduceCtorEq, Nat.reduceEqDiff, Nat.reduceBEq, Nat.reduceAdd, Nat.reduceLeDiff, Nat.reduceMul, Nat.reduceLT, Int.reduceEq, Int.reduceLT, Int.reduceLE, t0, t5, t6, t7, toI_len, List.length_cons, hx', oI, z]
                  try rfl
              | none =>
                obtain ⟨hdx, hfc⟩ := hy1 rfl
                rw [hfc]
                have done : chainN g e = [] → firstC g e = none := fun hcq => by
                  cases g with
                  | nil => rfl
                  | node k2 a2 b2 ks re =>
                    simp only [chainN] at hcq
                    simp only [firstC]
                    split at hcq
                    · cases hcq
                    · rename_i w; rw [if_neg w]
                cases hcq : chainN g e with
                | nil =>
                  rw [hcq] at hdx
                  have hx := drop_nil hdx
                  have hx' : ¬ x + 1 < (chainN rest (q + 1 + kids.size)).length + 1 := by omega
                  rw [done hcq]
                  simp +contextual -dsimp -implicitDefEqProofs (maxSteps := 5000000) only [go_sem, reduceIte, reduceCtorEq, Nat.reduceEqDiff, Nat.reduceBEq, Nat.reduceAdd, Nat.reduceLeDiff, Nat.reduceMul, Nat.reduceLT, Int.reduceEq, Int.reduceLT, Int.reduceLE, t0, t5, t6, t7, toI_len, List.length_cons, hx', oI]
                  try rfl
                | cons q' tl =>
                  cases g with
                  | nil => simp [chainN] at hcq
                  | node k2 a2 b2 ks re =>
                    have hk2 : followsK k2 = true := by
                      simp only [chainN] at hcq
                      split at hcq
                      · assumption
                      · cases hcq
                    have hdx' : (chainN rest (q + 1 + kids.size)).drop x = e :: chainN re (e + 1 + ks.size) := by
                      rw [hdx]; simp only [chainN]; rw [if_pos hk2]
                    obtain ⟨hx1, hx2, hx3⟩ := drop_cons hdx'
                    have hx' : x + 1 < (chainN rest (q + 1 + kids.size)).length + 1 := by omega
                    have hh2 := hga.head
                    have hsz : (Fo.node k2 a2 b2 ks re).size = 1 + ks.size + re.size := rfl
                    obtain ⟨n1', n2', n3', n4', n5'⟩ := numsF_node hgn
                    have hkl' := hga.kids.len
                    obtain ⟨_, _, p1, p2⟩ | ⟨w, _⟩ := okF_node hgo
                    rotate_left
                    · rw [hk2] at w; cases w
                    have hfn : firstC (.node k2 a2 b2 ks re) e = if k2 = 8 then firstC re (e + 1 + ks.size) else match firstF ks (e + 1) false with
                        | some j => some j
                        | none => firstC re (e + 1 + ks.size) := by simp only [firstC]; rw [if_pos hk2]
                    have hwe : IntKind.i64.wrap ((e : Int) + 1) = ((e + 1 : Nat) : Int) := by rw [w64 (by omega) (by omega)]; rfl
                    have z1 : (-1 : Int) < 0 := by decide
                    have hsz8 : (Fo.node 8 a2 b2 ks re).size = 1 + ks.size + re.size := rfl
                    by_cases k8 : k2 = 8
                    · rw [if_pos k8] at hfn
                      simp +contextual -dsimp -implicitDefEqProofs (maxSteps := 5000000) only [go_sem, reduceIte, reduceCtorEq, Nat.reduceEqDiff, Nat.reduceBEq, Nat.reduceAdd, Nat.reduceLeDiff, Nat.reduceMul, Nat.reduceLT, Int.reduceEq, Int.reduceLT, Int.reduceLE, t0, t5, t6, t7, toI_len, toI_at, toI_cons_at, List.length_cons, hx', hx2, hh2.1, hh2.2, oI, z1, k8]
                      exact ⟨re.size, by omega, re, e + 1 + ks.size, x + 1, none, rfl, hga.rest, n5', p2, by omega, hx1, fun _ => ⟨hx3, by subst k8; exact hfn⟩, (fun j w => by cases w), rfl, I_wrap (by omega) (by omega) (by omega)⟩
                    · rw [if_neg k8] at hfn
                      simp +contextual -dsimp -implicitDefEqProofs (maxSteps := 5000000) only [go_sem, reduceIte, reduceCtorEq, Nat.reduceEqDiff, Nat.reduceBEq, Nat.reduceAdd, Nat.reduceLeDiff, Nat.reduceMul, Nat.reduceLT, Int.reduceEq, Int.reduceLT, Int.reduceLE, t0, t5, t6, t7, toI_len, toI_at, toI_cons_at, List.length_cons, hx', hx2, hh2.1, hh2.2, oI, z1, k8]
                      refine draw_intro [0, 0, 0, 0, 1, 0, 0, 0, 0, 0, 0, 3, 2, 0] AHeap.none (by kernel_rfl) none_le ?_
                      simp +contextual -dsimp -implicitDefEqProofs (maxSteps := 5000000) only [go_sem, reduceIte, reduceCtorEq, Nat.reduceEqDiff, Nat.reduceBEq, Nat.reduceAdd, Nat.reduceLeDiff, Nat.reduceMul, Nat.reduceLT, Int.reduceEq, Int.reduceLT, Int.reduceLE, t0, t5, t6, t7, toI_len, toI_at, toI_cons_at, List.length_cons, hx', hx2, hh2.1, hh2.2, hwe]
                      refine (c_blockEnd _ _ _ _ hh2.1).det ?_
                      rw [hga.endP]
                      simp +contextual -dsimp -implicitDefEqProofs (maxSteps := 5000000) only [go_sem, reduceIte, reduceCtorEq, Nat.reduceEqDiff, Nat.reduceBEq, Nat.reduceAdd, Nat.reduceLeDiff, Nat.reduceMul, Nat.reduceLT, Int.reduceEq, Int.reduceLT, Int.reduceLE, t0, t5, t6, t7, toI_len, toI_at, toI_cons_at, hx2, hwe]
                      refine (ih ks (e + 1) (d + 1) lp _ (by omega) hga.kids n4' p1).det ?_
                      simp +contextual -dsimp -implicitDefEqProofs (maxSteps := 5000000) only [go_sem, reduceIte, reduceCtorEq, Nat.reduceEqDiff, Nat.reduceBEq, Nat.reduceAdd, Nat.reduceLeDiff, Nat.reduceMul, Nat.reduceLT, Int.reduceEq, Int.reduceLT, Int.reduceLE, t0, t5, t6, t7]
                      refine ⟨re.size, by omega, re, e + 1 + ks.size, x + 1, firstF ks (e + 1) false, rfl, hga.rest, n5', p2, by omega, hx1, fun w => ⟨hx3, ?_⟩, fun j w => ?_, rfl, I_wrap (by omega) (by omega) (by omega)⟩
                      · rw [hfn, w]
                      · rw [hfn, w]
          · rw [if_neg k7]
            simp +contextual -dsimp -implicitDefEqProofs (maxSteps := 5000000) only [go_sem, reduceIte, reduceCtorEq, Nat.reduceEqDiff, Nat.reduceBEq, Nat.reduceAdd, Nat.reduceLeDiff, Nat.reduceMul, Nat.reduceLT, Int.reduceEq, Int.reduceLT, Int.reduceLE, hq, hqe, oI, k7]
            try rfl
      · simp +contextual -dsimp -implicitDefEqProofs (maxSteps := 5000000) only [go_sem, reduceIte, reduceCtorEq, Nat.reduceEqDiff, Nat.reduceBEq, Nat.reduceAdd, Nat.reduceLeDiff, Nat.reduceMul, Nat.reduceLT, Int.reduceEq, Int.reduceLT, Int.reduceLE, hq, hqe, k12, hwq]
        refine (c_blockEnd _ _ _ _ hq).det ?_
        rw [ha.endP]
        simp +contextual -dsimp -implicitDefEqProofs (maxSteps := 5000000) only [go_sem, reduceIte, reduceCtorEq, Nat.reduceEqDiff, Nat.reduceBEq, Nat.reduceAdd, Nat.reduceLeDiff, Nat.reduceMul, Nat.reduceLT, Int.reduceEq, Int.reduceLT, Int.reduceLE, hq, hqe]
        refine (ih kids (q + 1) (d + 1) lp' _ (by omega) ha.kids n4 o1).det ?_
        cases hfk : firstF kids (q + 1) false with
        | some j =>
          have z : (0 : Int) ≤ (j : Int) := by omega
          simp +contextual -dsimp -implicitDefEqProofs (maxSteps := 5000000) only [go_sem, reduceIte, reduceCtorEq, Nat.reduceEqDiff, Nat.reduceBEq, Nat.reduceAdd, Nat.reduceLeDiff, Nat.reduceMul, Nat.reduceLT, Int.reduceEq, Int.reduceLT, Int.reduceLE, hq, hqe, oI, z]
          try rfl
        | none =>
          by_cases k7 : k = 7
          · rw [if_pos k7]
            have o2 : okF rest lp true = true := by
              rcases okF_node ho with ⟨_, w, _⟩ | ⟨_, ⟨_, _, _, o⟩ | ⟨o, _⟩⟩
              · cases w
              · exact o
              · exact absurd k7 o
            simp +contextual -dsimp -implicitDefEqProofs (maxSteps := 5000000) only [go_sem, reduceIte, reduceCtorEq, Nat.reduceEqDiff, Nat.reduceBEq, Nat.reduceAdd, Nat.reduceLeDiff, Nat.reduceMul, Nat.reduceLT, Int.reduceEq, Int.reduceLT, Int.reduceLE, hq, hqe, oI, k7]
            refine acalls_frz (c_chainOf p cl q _ hq (by omega)) fun c6 => ?_
            rw [chainP_at ha]
            try simp +contextual -dsimp -implicitDefEqProofs (maxSteps := 5000000) only [go_sem, reduceIte, reduceCtorEq, Nat.reduceEqDiff, Nat.reduceBEq, Nat.reduceAdd, Nat.reduceLeDiff, Nat.reduceMul, Nat.reduceLT, Int.reduceEq, Int.reduceLT, Int.reduceLE, hq, hqe, oI, k7]
            have hrl := ha.rest.len
            have hcl := chain_len rest (q + 1 + kids.size)
            refine aloop mixed (fz := fun _ => []) (im := fun _ => false) (by kernel_rfl) (fun m tm H' => ∃ (g : Fo) (e x : Nat) (y : Option Nat), m = g.size ∧ At p e d g ∧ numsF t g d = true ∧ okF g lp true = true ∧ g.size ≤ rest.size ∧ x ≤ (chainN rest (q + 1 + kids.size)).length ∧ H' = H ∧ (y = none → (chainN rest (q + 1 + kids.size)).drop x = chainN g e ∧ firstC rest (q + 1 + kids.size) = firstC g e) ∧ (∀ j, y = some j → firstC rest (q + 1 + kids.size) = some j) ∧ tm 0 = aProg p cl ∧ tm 5 = I (oI y) ∧ tm 6 = .vsl ((toI (q :: chainN rest (q + 1 + kids.size))).map rI) c6 ∧ tm 7 = I (x + 1 : Nat)) rest.size ⟨rest, q + 1 + kids.size, 0, none, rfl, ha.rest, n5, o2, Nat.le_refl _, Nat.zero_le _, rfl, fun _ => ⟨rfl, rfl⟩, (fun j w => by cases w), ?_⟩ ?_
            · simp +contextual -dsimp -implicitDefEqProofs (maxSteps := 5000000) only [go_sem, reduceIte, reduceCtorEq, Nat.reduceEqDiff, Nat.reduceBEq, Nat.reduceAdd, Nat.reduceLeDiff, Nat.reduceMul, Nat.reduceLT, Int.reduceEq, Int.reduceLT, Int.reduceLE, oI]
              try rfl
            · rintro m tm H ⟨g, e, x, y, rfl, hga, hgn, hgo, hgs, hxl, rfl, hy1, hy2, t0, t5, t6, t7⟩
              cases y with
              | some j =>
                have z : ¬ (j : Int) < 0 := by omega
                rw [hy2 j rfl]
                by_cases hx' : x + 1 < (chainN rest (q + 1 + kids.size)).length + 1
                · simp +contextual -dsimp -implicitDefEqProofs (maxSteps := 5000000) only [go_sem, reduceIte, reduceCtorEq, Nat.reduceEqDiff, Nat.reduceBEq, Nat.reduceAdd, Nat.reduceLeDiff, Nat.reduceMul, Nat.reduceLT, Int.reduceEq, Int.reduceLT, Int.reduceLE, t0, t5, t6, t7, toI_len, List.length_cons, hx', oI, z]
                  try rfl
                · simp +contextual -dsimp -implicitDefEqProofs (maxSteps := 5000000) only [go_sem, reduceIte, reduceCtorEq, Nat.reduceEqDiff, Nat.reduceBEq, Nat.reduceAdd, Nat.reduceLeDiff, Nat.reduceMul, Nat.reduceLT, Int.reduceEq, Int.reduceLT, Int.reduceLE, t0, t5, t6, t7, toI_len, List.length_cons, hx', oI, z]
                  try rfl
              | none =>
                obtain ⟨hdx, hfc⟩ := hy1 rfl
                rw [hfc]
                have done : chainN g e = [] → firstC g e = none := fun hcq => by
                  cases g with
                  | nil => rfl
                  | node k2 a2 b2 ks re =>
                    simp only [chainN] at hcq
                    simp only [firstC]
                    split at hcq
                    · cases hcq
                    · rename_i w; rw [if_neg w]
                cases hcq : chainN g e with
                | nil =>
                  rw [hcq] at hdx
                  have hx := drop_nil hdx
                  have hx' : ¬ x + 1 < (chainN rest (q + 1 + kids.size)).length + 1 := by omega
                  rw [done hcq]
                  simp +contextual -dsimp -implicitDefEqProofs (maxSteps := 5000000) only [go_sem, reduceIte, reduceCtorEq, Nat.reduceEqDiff, Nat.reduceBEq, Nat.reduceAdd, Nat.reduceLeDiff, Nat.reduceMul, Nat.reduceLT, Int.reduceEq, Int.reduceLT, Int.reduceLE, t0, t5, t6, t7, toI_len, List.length_cons, hx', oI]
                  try rfl
                | cons q' tl =>
                  cases g with
                  | nil => simp [chainN] at hcq
                  | node k2 a2 b2 ks re =>
                    have hk2 : followsK k2 = true := by
                      simp only [chainN] at hcq
                      split at hcq
                      · assumption
                      · cases hcq
                    have hdx' : (chainN rest (q + 1 + kids.size)).drop x = e :: chainN re (e + 1 + ks.size) := by
                      rw [hdx]; simp only [chainN]; rw [if_pos hk2]
                    obtain ⟨hx1, hx2, hx3⟩ := drop_cons hdx'
                    have hx' : x + 1 < (chainN rest (q + 1 + kids.size)).length + 1 := by omega
                    have hh2 := hga.head
                    have hsz : (Fo.node k2 a2 b2 ks re).size = 1 + ks.size + re.size := rfl
                    obtain ⟨n1', n2', n3', n4', n5'⟩ := numsF_node hgn
                    have hkl' := hga.kids.len
                    obtain ⟨_, _, p1, p2⟩ | ⟨w, _⟩ := okF_node hgo
                    rotate_left
                    · rw [hk2] at w; cases w
                    have hfn : firstC (.node k2 a2 b2 ks re) e = if k2 = 8 then firstC re (e + 1 + ks.size) else match firstF ks (e + 1) false with
                        | some j => some j
                        | none => firstC re (e + 1 + ks.size) := by simp only [firstC]; rw [if_pos hk2]
                    have hwe : IntKind.i64.wrap ((e : Int) + 1) = ((e + 1 : Nat) : Int) := by rw [w64 (by omega) (by omega)]; rfl
                    have z1 : (-1 : Int) < 0 := by decide
                    have hsz8 : (Fo.node 8 a2 b2 ks re).size = 1 + ks.size + re.size := rfl
                    by_cases k8 : k2 = 8
                    · rw [if_pos k8] at hfn
                      simp +contextual -dsimp -implicitDefEqProofs (maxSteps := 5000000) only [go_sem, reduceIte, reduceCtorEq, Nat.reduceEqDiff, Nat.reduceBEq, Nat.reduceAdd, Nat.reduceLeDiff, Nat.reduceMul, Nat.reduceLT, Int.reduceEq, Int.reduceLT, Int.reduceLE, t0, t5, t6, t7, toI_len, toI_at, toI_cons_at, List.length_cons, hx', hx2, hh2.1, hh2.2, oI, z1, k8]
                      exact ⟨re.size, by omega, re, e + 1 + ks.size, x + 1, none, rfl, hga.rest, n5', p2, by omega, hx1, fun _ => ⟨hx3, by subst k8; exact hfn⟩, (fun j w => by cases w), rfl, I_wrap (by omega) (by omega) (by omega)⟩
                    · rw [if_neg k8] at hfn
                      simp +contextual -dsimp -implicitDefEqProofs (maxSteps := 5000000) only [go_sem, reduceIte, reduceCtorEq, Nat.reduceEqDiff, Nat.reduceBEq, Nat.reduceAdd, Nat.reduceLeDiff, Nat.reduceMul, Nat.reduceLT, Int.reduceEq, Int.reduceLT, Int.reduceLE, t0, t5, t6, t7, toI_len, toI_at, toI_cons_at, List.length_cons, hx', hx2, hh2.1, hh2.2, oI, z1, k8]
                      refine draw_intro [0, 0, 0, 0, 1, 0, 0, 0, 0, 0, 0, 3, 2, 0] AHeap.none (by kernel_rfl) none_le ?_
                      simp +contextual -dsimp -implicitDefEqProofs (maxSteps := 5000000) only [go_sem, reduceIte, reduceCtorEq, Nat.reduceEqDiff, Nat.reduceBEq, Nat.reduceAdd, Nat.reduceLeDiff, Nat.reduceMul, Nat.reduceLT, Int.reduceEq, Int.reduceLT, Int.reduceLE, t0, t5, t6, t7, toI_len, toI_at, toI_cons_at, List.length_cons, hx', hx2, hh2.1, hh2.2, hwe]
                      refine (c_blockEnd _ _ _ _ hh2.1).det ?_
                      rw [hga.endP]
                      simp +contextual -dsimp -implicitDefEqProofs (maxSteps := 5000000) only [go_sem, reduceIte, reduceCtorEq, Nat.reduceEqDiff, Nat.reduceBEq, Nat.reduceAdd, Nat.reduceLeDiff, Nat.reduceMul, Nat.reduceLT, Int.reduceEq, Int.reduceLT, Int.reduceLE, t0, t5, t6, t7, toI_len, toI_at, toI_cons_at, hx2, hwe]
                      refine (ih ks (e + 1) (d + 1) lp _ (by omega) hga.kids n4' p1).det ?_
                      simp +contextual -dsimp -implicitDefEqProofs (maxSteps := 5000000) only [go_sem, reduceIte, reduceCtorEq, Nat.reduceEqDiff, Nat.reduceBEq, Nat.reduceAdd, Nat.reduceLeDiff, Nat.reduceMul, Nat.reduceLT, Int.reduceEq, Int.reduceLT, Int.reduceLE, t0, t5, t6, t7]
                      refine ⟨re.size, by omega, re, e + 1 + ks.size, x + 1, firstF ks (e + 1) false, rfl, hga.rest, n5', p2, by omega, hx1, fun w => ⟨hx3, ?_⟩, fun j w => ?_, rfl, I_wrap (by omega) (by omega) (by omega)⟩
                      · rw [hfn, w]
                      · rw [hfn, w]
          · rw [if_neg k7]
            simp +contextual -dsimp -implicitDefEqProofs (maxSteps := 5000000) only [go_sem, reduceIte, reduceCtorEq, Nat.reduceEqDiff, Nat.reduceBEq, Nat.reduceAdd, Nat.reduceLeDiff, Nat.reduceMul, Nat.reduceLT, Int.reduceEq, Int.reduceLT, Int.reduceLE, hq, hqe, oI, k7]
            try rfl
theorem c_firstJump {t : List Class} {p : List Line} {cl : Bool} (hp : p.length ≤ 1000) : ∀ n, FJ t p cl n
  | 0 => fun f i d lp H hn => by omega
  | n + 1 => by
    intro f i d lp H hfn hat hnf hok
    have ih := c_firstJump (t := t) (cl := cl) hp n
    have hfl := hat.len
    refine acalls_of0 Tryz.func57 rfl (by kernel_rfl) rfl rfl (awp_sound (fz := fun _ => []) (im := fun _ => false) mixed _ _ _ _ (by kernel_rfl) ?_)
    simp +contextual -dsimp -implicitDefEqProofs (maxSteps := 5000000) only [go_sem, reduceIte, reduceCtorEq, Nat.reduceEqDiff, Nat.reduceBEq, Nat.reduceAdd, Nat.reduceLeDiff, Nat.reduceMul, Nat.reduceLT, Int.reduceEq, Int.reduceLT, Int.reduceLE]
    refine aloop mixed (fz := fun _ => []) (im := fun _ => false) (by kernel_rfl) (fun m tm H' => ∃ (g : Fo) (q : Nat), m = g.size ∧ At p q d g ∧ numsF t g d = true ∧ okF g lp false = true ∧ g.size ≤ f.size ∧ q + g.size = i + f.size ∧ firstF f i false = firstF g q false ∧ H' = H ∧ tm 0 = aProg p cl ∧ tm 2 = I (i + f.size : Nat) ∧ tm 7 = I q) f.size ⟨f, i, rfl, hat, hnf, hok, Nat.le_refl _, rfl, rfl, rfl, ?_⟩ ?_
    · simp +contextual -dsimp -implicitDefEqProofs (maxSteps := 5000000) only [go_sem, reduceIte, reduceCtorEq, Nat.reduceEqDiff, Nat.reduceBEq, Nat.reduceAdd, Nat.reduceLeDiff, Nat.reduceMul, Nat.reduceLT, Int.reduceEq, Int.reduceLT, Int.reduceLE]
    · rintro m tm H ⟨g, q, rfl, hga, hgn, hgo, hgs, hgq, he, rfl, t0, t2, t7⟩
      cases g with
      | nil =>
        have z : ¬ q < i + f.size := by simp only [Fo.size] at hgq; omega
        rw [he]
        simp +contextual -dsimp -implicitDefEqProofs (maxSteps := 5000000) only [go_sem, reduceIte, reduceCtorEq, Nat.reduceEqDiff, Nat.reduceBEq, Nat.reduceAdd, Nat.reduceLeDiff, Nat.reduceMul, Nat.reduceLT, Int.reduceEq, Int.reduceLT, Int.reduceLE, t0, t2, t7, z]
        rfl
      | node k a b kids rest =>
        have hsz : (Fo.node k a b kids rest).size = 1 + kids.size + rest.size := rfl
        have z : q < i + f.size := by omega
        obtain ⟨hq, hqe⟩ := hga.head
        obtain ⟨n1, n2, n3, n4, n5⟩ := numsF_node hgn
        rw [firstF_step hgn hgo] at he
        simp +contextual -dsimp -implicitDefEqProofs (maxSteps := 5000000) only [go_sem, reduceIte, reduceCtorEq, Nat.reduceEqDiff, Nat.reduceBEq, Nat.reduceAdd, Nat.reduceLeDiff, Nat.reduceMul, Nat.reduceLT, Int.reduceEq, Int.reduceLT, Int.reduceLE, t0, t2, t7, z, hq, hqe]
        refine (c_jumps _ _).det ?_
        cases hj : jumpsK k
        · rw [if_neg (by rw [hj]; decide)] at he
          simp +contextual -dsimp -implicitDefEqProofs (maxSteps := 5000000) only [go_sem, reduceIte, reduceCtorEq, Nat.reduceEqDiff, Nat.reduceBEq, Nat.reduceAdd, Nat.reduceLeDiff, Nat.reduceMul, Nat.reduceLT, Int.reduceEq, Int.reduceLT, Int.reduceLE, t0, t2, t7, z, hq, hqe]
          refine (c_jumpIn ih hp hga hgn hgo (by omega) _).det ?_
          cases hji : jumpInF k a kids rest q with
          | some j =>
            rw [hji] at he
            have : (0 : Int) ≤ (j : Int) := by omega
            simp +contextual -dsimp -implicitDefEqProofs (maxSteps := 5000000) only [go_sem, reduceIte, reduceCtorEq, Nat.reduceEqDiff, Nat.reduceBEq, Nat.reduceAdd, Nat.reduceLeDiff, Nat.reduceMul, Nat.reduceLT, Int.reduceEq, Int.reduceLT, Int.reduceLE, t0, t2, t7, z, hq, hqe, oI, this]
            rw [he]
            try rfl
          | none =>
            rw [hji] at he
            simp +contextual -dsimp -implicitDefEqProofs (maxSteps := 5000000) only [go_sem, reduceIte, reduceCtorEq, Nat.reduceEqDiff, Nat.reduceBEq, Nat.reduceAdd, Nat.reduceLeDiff, Nat.reduceMul, Nat.reduceLT, Int.reduceEq, Int.reduceLT, Int.reduceLE, t0, t2, t7, z, hq, hqe, oI]
            refine (c_snextLine _ hga (by omega)).det ?_
            by_cases k7 : k = 7
            · rw [if_pos k7] at he ⊢
              have o3 : okF rest lp true = true := by
                rcases okF_node hgo with ⟨_, w, _⟩ | ⟨_, ⟨_, _, _, o⟩ | ⟨o, _⟩⟩
                · cases w
                · exact o
                · exact absurd k7 o
              have hss := skipN_add rest (q + 1 + kids.size)
              have hsf := skipF_size rest
              simp +contextual -dsimp -implicitDefEqProofs (maxSteps := 5000000) only [go_sem, reduceIte, reduceCtorEq, Nat.reduceEqDiff, Nat.reduceBEq, Nat.reduceAdd, Nat.reduceLeDiff, Nat.reduceMul, Nat.reduceLT, Int.reduceEq, Int.reduceLT, Int.reduceLE, t0, t2, t7, z, hq, hqe]
              exact ⟨_, by simp only [Fo.size]; omega, skipF rest, _, rfl, hga.rest.skip, numsF_skip rest n5, okF_skip rest o3, by omega, by omega, he, rfl⟩
            · rw [if_neg k7] at he ⊢
              have o3 : okF rest lp false = true := by
                rcases okF_node hgo with ⟨_, w, _⟩ | ⟨_, ⟨o, _⟩ | ⟨_, o, _⟩⟩
                · cases w
                · exact absurd o k7
                · exact o
              simp +contextual -dsimp -implicitDefEqProofs (maxSteps := 5000000) only [go_sem, reduceIte, reduceCtorEq, Nat.reduceEqDiff, Nat.reduceBEq, Nat.reduceAdd, Nat.reduceLeDiff, Nat.reduceMul, Nat.reduceLT, Int.reduceEq, Int.reduceLT, Int.reduceLE, t0, t2, t7, z, hq, hqe]
              exact ⟨_, by simp only [Fo.size]; omega, rest, _, rfl, hga.rest, n5, o3, by omega, by omega, he, rfl⟩
        · rw [if_pos hj] at he
          simp +contextual -dsimp -implicitDefEqProofs (maxSteps := 5000000) only [go_sem, reduceIte, reduceCtorEq, Nat.reduceEqDiff, Nat.reduceBEq, Nat.reduceAdd, Nat.reduceLeDiff, Nat.reduceMul, Nat.reduceLT, Int.reduceEq, Int.reduceLT, Int.reduceLE, t0, t2, t7, z, hq, hqe]
          rw [he]
          try rfl
end
section
open Go Go.Sim
set_option maxRecDepth 100000
set_option maxHeartbeats 4000000

theorem c_mDeadLines (t : List Class) (cl : Bool) (p : List Line) (cl' : Bool) (H : AHeap) (hn : namesOk t) (hp : p.length ≤ 4398046511104) : ACalls Tryz.prog 18 [aTree t cl, aProg p cl'] H fun r H' => (∃ c, r = .vsl ((deadsR t p).map rI) c) ∧ H' = H := by
  refine acalls_fz (c_mDeadLines0 t cl p cl' H hn hp) ?_
  rintro _ H' hg
  obtain ⟨c1, hz⟩ := grow_fz hg
  exact ⟨_, H, grow_le hg, hz, ⟨c1, rfl⟩, rfl⟩
end
section
open Go Go.Sim
set_option maxRecDepth 100000
set_option maxHeartbeats 4000000

noncomputable def jumpR (t : List Class) (p : List Line) : Int := if validB t p = true then jumpP p else -1
theorem c_mFirstJump (t : List Class) (cl : Bool) (p : List Line) (cl' : Bool) (H : AHeap) (hn : namesOk t) (hp : p.length ≤ 4398046511104) :
    ACalls Tryz.prog 24 [aTree t cl, aProg p cl'] H fun r H' => r = I (jumpR t p) ∧ H' = H := by
  refine acalls_of1 Tryz.func24 rfl (by kernel_rfl) rfl rfl (awp_sound (fz := fun _ => []) (im := fun s => s == 2) mixed _ _ _ _ (by kernel_rfl) ?_)
  simp +contextual -dsimp -implicitDefEqProofs (maxSteps := 5000000) only [go_sem, reduceIte, reduceCtorEq, Nat.reduceEqDiff, Nat.reduceBEq, Nat.reduceAdd, Nat.reduceLeDiff, Nat.reduceMul, Nat.reduceLT, Int.reduceEq, Int.reduceLT, Int.reduceLE]
  refine (c_ValidProgram t cl p cl' _ hn hp).det ?_
  cases hv : validB t p
  · have e : jumpR t p = -1 := by unfold jumpR; rw [hv]; rfl
    rw [e]
    simp +contextual -dsimp -implicitDefEqProofs (maxSteps := 5000000) only [go_sem, reduceIte, reduceCtorEq, Nat.reduceEqDiff, Nat.reduceBEq, Nat.reduceAdd, Nat.reduceLeDiff, Nat.reduceMul, Nat.reduceLT, Int.reduceEq, Int.reduceLT, Int.reduceLE]
    refine retR_less (l := [I (-1)]) (H' := H) ?_ (AHeap.le_refl _) ⟨rfl, rfl⟩
    simp only [resA, go_sem, reduceIte, reduceCtorEq, Nat.reduceEqDiff, Nat.reduceBEq, Nat.reduceAdd, Nat.reduceLeDiff, Nat.reduceMul, Nat.reduceLT, Int.reduceEq, Int.reduceLT, Int.reduceLE]
  · have hval := validB_true.1 hv
    obtain ⟨h1, h2, h3, h4, h5, h6⟩ := validP_forest hval
    have e : jumpR t p = (runP t p).2.first := by unfold jumpR; rw [if_pos hv, (first_law hval).1]
    rw [e]
    have hat := at_top h2
    have hcs := cost_small h3 h6
    have hlen : ((0 + (forestP p).size : Nat) : Int) = (p.length : Int) := by omega
    simp +contextual -dsimp -implicitDefEqProofs (maxSteps := 5000000) only [go_sem, reduceIte, reduceCtorEq, Nat.reduceEqDiff, Nat.reduceBEq, Nat.reduceAdd, Nat.reduceLeDiff, Nat.reduceMul, Nat.reduceLT, Int.reduceEq, Int.reduceLT, Int.reduceLE]
    refine (c_machineOf t cl _ (p.map rLine) cl').mono ?_
    rintro _ H1 ⟨bm, rfl, hM⟩
    simp +contextual -dsimp -implicitDefEqProofs (maxSteps := 5000000) only [go_sem, reduceIte, reduceCtorEq, Nat.reduceEqDiff, Nat.reduceBEq, Nat.reduceAdd, Nat.reduceLeDiff, Nat.reduceMul, Nat.reduceLT, Int.reduceEq, Int.reduceLT, Int.reduceLE]
    have key := c_linesAll (cl := cl) (P := p) (clp := cl') h1 hp ((forestP p).size + 1) (forestP p) 0 0 (-1) rs0 H H1 bm (by omega) hat h3 (fsOk_nil t) (by show (-1 : Int) < 0; omega) (by show 0 + _ ≤ _; omega) (by show 0 + _ ≤ _; omega) hM
    rw [hlen, show ((0 : Nat) : Int) = 0 from rfl] at key
    refine key.mono ?_
    rintro _ H2 ⟨rfl, hM2⟩
    have er : runF t (forestP p) 0 none (-1) rs0 = runP t p := rfl
    rw [er] at hM2 ⊢
    generalize runP t p = r at hM2 ⊢
    obtain ⟨xl, xf, G1, G2, f1, f2, f3, f4, rfl⟩ := hM2
    have o1 := one_grow f2
    have o2 := one_grow f3
    simp +contextual -dsimp -implicitDefEqProofs (maxSteps := 5000000) only [go_sem, reduceIte, reduceCtorEq, Nat.reduceEqDiff, Nat.reduceBEq, Nat.reduceAdd, Nat.reduceLeDiff, Nat.reduceMul, Nat.reduceLT, Int.reduceEq, Int.reduceLT, Int.reduceLE, rEn, o1.1, o1.2, o2.1, o2.2]
    refine retR_less (l := [I r.2.first]) (H' := H) ?_ (le_s1 (AHeap.le_trans (grow_le f2) (grow_le f3)) f1) ⟨rfl, rfl⟩
    simp only [resA, go_sem, reduceIte, reduceCtorEq, Nat.reduceEqDiff, Nat.reduceBEq, Nat.reduceAdd, Nat.reduceLeDiff, Nat.reduceMul, Nat.reduceLT, Int.reduceEq, Int.reduceLT, Int.reduceLE]
theorem c_sFirstJump (t : List Class) (cl : Bool) (p : List Line) (cl' : Bool) (H : AHeap) (hn : namesOk t) (hp : p.length ≤ 4398046511104) :
    ACalls Tryz.prog 25 [aTree t cl, aProg p cl'] H fun r H' => r = I (jumpR t p) ∧ H' = H := by
  refine acalls_of0 Tryz.func25 rfl (by kernel_rfl) rfl rfl (awp_sound (fz := fun _ => []) (im := fun s => s == 2) mixed _ _ _ _ (by kernel_rfl) ?_)
  simp +contextual -dsimp -implicitDefEqProofs (maxSteps := 5000000) only [go_sem, reduceIte, reduceCtorEq, Nat.reduceEqDiff, Nat.reduceBEq, Nat.reduceAdd, Nat.reduceLeDiff, Nat.reduceMul, Nat.reduceLT, Int.reduceEq, Int.reduceLT, Int.reduceLE]
  refine (c_svalidProgram t cl p cl' _ hn hp).det ?_
  cases hv : validB t p
  · have e : jumpR t p = -1 := by unfold jumpR; rw [hv]; rfl
    rw [e]
    simp +contextual -dsimp -implicitDefEqProofs (maxSteps := 5000000) only [go_sem, reduceIte, reduceCtorEq, Nat.reduceEqDiff, Nat.reduceBEq, Nat.reduceAdd, Nat.reduceLeDiff, Nat.reduceMul, Nat.reduceLT, Int.reduceEq, Int.reduceLT, Int.reduceLE]
  · have hval := validB_true.1 hv
    obtain ⟨h1, h2, h3, h4, h5, h6⟩ := validP_forest hval
    have e : jumpR t p = oI (firstF (forestP p) 0 false) := by unfold jumpR; rw [if_pos hv, jumpP_oI]
    rw [e]
    have hlen : ((0 + (forestP p).size : Nat) : Int) = (p.length : Int) := by omega
    have key := c_firstJump (t := t) (p := p) (cl := cl') (by omega) ((forestP p).size + 1) (forestP p) 0 0 false H (by omega) (at_top h2) h3 h4
    rw [hlen, show ((0 : Nat) : Int) = 0 from rfl] at key
    simp +contextual -dsimp -implicitDefEqProofs (maxSteps := 5000000) only [go_sem, reduceIte, reduceCtorEq, Nat.reduceEqDiff, Nat.reduceBEq, Nat.reduceAdd, Nat.reduceLeDiff, Nat.reduceMul, Nat.reduceLT, Int.reduceEq, Int.reduceLT, Int.reduceLE]
    refine key.det ?_
    simp +contextual -dsimp -implicitDefEqProofs (maxSteps := 5000000) only [go_sem, reduceIte, reduceCtorEq, Nat.reduceEqDiff, Nat.reduceBEq, Nat.reduceAdd, Nat.reduceLeDiff, Nat.reduceMul, Nat.reduceLT, Int.reduceEq, Int.reduceLT, Int.reduceLE]
theorem c_isIn (l : List Int) (cl : Bool) (x : Int) (H : AHeap) (hl : l.length ≤ 4398046511104) : ACalls Tryz.prog 26 [.vsl (l.map rI) cl, I x] H fun r H' => r = B (decide (x ∈ l)) ∧ H' = H := by
  refine acalls_of0 Tryz.func26 rfl (by kernel_rfl) rfl rfl (awp_sound (fz := fun _ => []) (im := fun _ => false) mixed _ _ _ _ (by kernel_rfl) ?_)
  simp +contextual -dsimp -implicitDefEqProofs (maxSteps := 5000000) only [go_sem, reduceIte, reduceCtorEq, Nat.reduceEqDiff, Nat.reduceBEq, Nat.reduceAdd, Nat.reduceLeDiff, Nat.reduceMul, Nat.reduceLT, Int.reduceEq, Int.reduceLT, Int.reduceLE]
  refine aloop mixed (fz := fun _ => []) (im := fun _ => false) (by kernel_rfl) (fun m tm H' => ∃ k : Nat, m = l.length - k ∧ k ≤ l.length ∧ H' = H ∧ (∀ j, j < k → l.getD j default ≠ x) ∧ tm 0 = .vsl (l.map rI) cl ∧ tm 1 = I x ∧ tm 5 = I k) l.length ⟨0, rfl, by omega, rfl, fun j hj => by omega, ?_⟩ ?_
  · simp +contextual -dsimp -implicitDefEqProofs (maxSteps := 5000000) only [go_sem, reduceIte, reduceCtorEq, Nat.reduceEqDiff, Nat.reduceBEq, Nat.reduceAdd, Nat.reduceLeDiff, Nat.reduceMul, Nat.reduceLT, Int.reduceEq, Int.reduceLT, Int.reduceLE]
  · rintro m tm _ ⟨k, rfl, hk, rfl, hno, t0, t1, t5⟩
    by_cases hlt : k < l.length
    · have hm : l.getD k default ∈ l := by rw [List.getD_eq_getElem?_getD, List.getElem?_eq_getElem hlt]; exact List.getElem_mem hlt
      simp +contextual -dsimp -implicitDefEqProofs (maxSteps := 5000000) only [go_sem, reduceIte, reduceCtorEq, Nat.reduceEqDiff, Nat.reduceBEq, Nat.reduceAdd, Nat.reduceLeDiff, Nat.reduceMul, Nat.reduceLT, Int.reduceEq, Int.reduceLT, Int.reduceLE, t0, t1, t5, hlt]
      refine ⟨fun h => ?_, fun h => ⟨_, by omega, k + 1, rfl, hlt, fun j hj => ?_, I_wrap (by omega) (by omega) (by omega)⟩⟩
      · rw [decide_eq_true (by rw [← h]; exact hm)]
      · rcases Nat.lt_or_ge j k with q | q
        · exact hno j q
        · rw [show j = k by omega]; exact h
    · have : ¬ x ∈ l := fun q => by
        obtain ⟨j, hj, rfl⟩ := List.mem_iff_getElem.1 q
        have := hno j (by omega)
        rw [List.getD_eq_getElem?_getD, List.getElem?_eq_getElem hj] at this
        exact this rfl
      rw [decide_eq_false this]
      simp +contextual -dsimp -implicitDefEqProofs (maxSteps := 5000000) only [go_sem, reduceIte, reduceCtorEq, Nat.reduceEqDiff, Nat.reduceBEq, Nat.reduceAdd, Nat.reduceLeDiff, Nat.reduceMul, Nat.reduceLT, Int.reduceEq, Int.reduceLT, Int.reduceLE, t0, t1, t5, hlt]
theorem c_LawFirstJump (bs : List UInt8) (cb : Bool) (H : AHeap) : ACalls Tryz.prog 6 [.vsl (bs.map rU) cb] H fun r H' => r = B true ∧ H' = H := by
  refine acalls_of1 Tryz.func6 rfl (by kernel_rfl) rfl rfl (awp_sound (fz := fun r => if r = 3 then [3] else []) (im := fun _ => false) mixed _ _ _ _ (by kernel_rfl) ?_)
  simp +contextual -dsimp -implicitDefEqProofs (maxSteps := 5000000) only [go_sem, reduceIte, reduceCtorEq, Nat.reduceEqDiff, Nat.reduceBEq, Nat.reduceAdd, Nat.reduceLeDiff, Nat.reduceMul, Nat.reduceLT, Int.reduceEq, Int.reduceLT, Int.reduceLE]
  refine ⟨fun hbig => ?_, fun hsmall => ?_⟩
  · refine retR_less (l := [B true]) (H' := H) ?_ (AHeap.le_refl _) ⟨rfl, rfl⟩
    simp only [resA, go_sem, reduceIte, reduceCtorEq, Nat.reduceEqDiff, Nat.reduceBEq, Nat.reduceAdd, Nat.reduceLeDiff, Nat.reduceMul, Nat.reduceLT, Int.reduceEq, Int.reduceLT, Int.reduceLE]
  refine (c_DrawFirstJump H bs cb).mono ?_
  rintro _ H1 ⟨t, cl, p, cl', rfl, hH, hs, ht8, hl8⟩
  rw [hH]
  have hn := short_ok hs
  have hp : p.length ≤ 4398046511104 := by omega
  simp +contextual -dsimp -implicitDefEqProofs (maxSteps := 5000000) only [go_sem, reduceIte, reduceCtorEq, Nat.reduceEqDiff, Nat.reduceBEq, Nat.reduceAdd, Nat.reduceLeDiff, Nat.reduceMul, Nat.reduceLT, Int.reduceEq, Int.reduceLT, Int.reduceLE]
  intro b3 hb3
  refine (c_mFirstJump t cl p cl' _ hn hp).det ?_
  simp +contextual -dsimp -implicitDefEqProofs (maxSteps := 5000000) only [go_sem, reduceIte, reduceCtorEq, Nat.reduceEqDiff, Nat.reduceBEq, Nat.reduceAdd, Nat.reduceLeDiff, Nat.reduceMul, Nat.reduceLT, Int.reduceEq, Int.reduceLT, Int.reduceLE]
  refine (c_sFirstJump t cl p cl' _ hn hp).det ?_
  simp +contextual -dsimp -implicitDefEqProofs (maxSteps := 5000000) only [go_sem, reduceIte, reduceCtorEq, Nat.reduceEqDiff, Nat.reduceBEq, Nat.reduceAdd, Nat.reduceLeDiff, Nat.reduceMul, Nat.reduceLT, Int.reduceEq, Int.reduceLT, Int.reduceLE]
  refine (c_ValidProgram t cl p cl' _ hn hp).det ?_
  cases hv : validB t p
  · simp +contextual -dsimp -implicitDefEqProofs (maxSteps := 5000000) only [go_sem, reduceIte, reduceCtorEq, Nat.reduceEqDiff, Nat.reduceBEq, Nat.reduceAdd, Nat.reduceLeDiff, Nat.reduceMul, Nat.reduceLT, Int.reduceEq, Int.reduceLT, Int.reduceLE]
    refine (c_sFirstJump t cl p cl' _ hn hp).det ?_
    simp +contextual -dsimp -implicitDefEqProofs (maxSteps := 5000000) only [go_sem, reduceIte, reduceCtorEq, Nat.reduceEqDiff, Nat.reduceBEq, Nat.reduceAdd, Nat.reduceLeDiff, Nat.reduceMul, Nat.reduceLT, Int.reduceEq, Int.reduceLT, Int.reduceLE]
    refine retR_less (l := [B true]) (H' := H) ?_ (AHeap.le_refl _) ⟨rfl, rfl⟩
    simp only [resA, go_sem, reduceIte, reduceCtorEq, Nat.reduceEqDiff, Nat.reduceBEq, Nat.reduceAdd, Nat.reduceLeDiff, Nat.reduceMul, Nat.reduceLT, Int.reduceEq, Int.reduceLT, Int.reduceLE]
  · have hval := validB_true.1 hv
    have e : jumpR t p = jumpP p := by unfold jumpR; rw [if_pos hv]
    rw [e]
    obtain ⟨g1, g2⟩ := first_law hval
    have g3 := first_place hval
    have hdl := deads_len hval
    have hdr : deadsR t p = placesF (deadsP t p) := by unfold deadsR; rw [if_pos hv]
    generalize jumpP p = J at g1 g2 g3
    simp +contextual -dsimp -implicitDefEqProofs (maxSteps := 5000000) only [go_sem, reduceIte, reduceCtorEq, Nat.reduceEqDiff, Nat.reduceBEq, Nat.reduceAdd, Nat.reduceLeDiff, Nat.reduceMul, Nat.reduceLT, Int.reduceEq, Int.reduceLT, Int.reduceLE]
    refine ⟨fun hneg => ?_, fun hpos => ?_⟩
    · refine (c_mRunV t cl p cl' _ hn (by omega) hv).mono ?_
      rintro _ H ⟨⟨c5, c6, rfl⟩, rfl⟩
      have := g2 hneg
      simp +contextual -dsimp -implicitDefEqProofs (maxSteps := 5000000) only [go_sem, reduceIte, reduceCtorEq, Nat.reduceEqDiff, Nat.reduceBEq, Nat.reduceAdd, Nat.reduceLeDiff, Nat.reduceMul, Nat.reduceLT, Int.reduceEq, Int.reduceLT, Int.reduceLE, fieldA, tf38_1, ti3, this]
      refine retR_less (l := [B true]) (H' := H) ?_ (AHeap.le_refl _) ⟨rfl, rfl⟩
      simp only [resA, go_sem, reduceIte, reduceCtorEq, Nat.reduceEqDiff, Nat.reduceBEq, Nat.reduceAdd, Nat.reduceLeDiff, Nat.reduceMul, Nat.reduceLT, Int.reduceEq, Int.reduceLT, Int.reduceLE]
    · obtain ⟨k1, k2, k3⟩ := g3 (by omega)
      obtain ⟨j, rfl⟩ := Int.eq_ofNat_of_zero_le (show 0 ≤ J by omega)
      simp only [Int.toNat_natCast] at k1 k2 k3
      rw [jumpsK_iff] at k2
      simp +contextual -dsimp -implicitDefEqProofs (maxSteps := 5000000) only [go_sem, reduceIte, reduceCtorEq, Nat.reduceEqDiff, Nat.reduceBEq, Nat.reduceAdd, Nat.reduceLeDiff, Nat.reduceMul, Nat.reduceLT, Int.reduceEq, Int.reduceLT, Int.reduceLE, k1, k2.1, k2.2]
      refine (c_mDeadLines t cl p cl' _ hn hp).mono ?_
      rintro _ H ⟨⟨c8, rfl⟩, rfl⟩
      simp +contextual -dsimp -implicitDefEqProofs (maxSteps := 5000000) only [go_sem, reduceIte, reduceCtorEq, Nat.reduceEqDiff, Nat.reduceBEq, Nat.reduceAdd, Nat.reduceLeDiff, Nat.reduceMul, Nat.reduceLT, Int.reduceEq, Int.reduceLT, Int.reduceLE, k1, k2.1, k2.2]
      have hle : (deadsR t p).length ≤ 4398046511104 := by
        rw [hdr, places_len]
        have := List.count_le_length (a := true) (l := deadsP t p)
        omega
      refine (c_isIn _ _ _ _ hle).det ?_
      have hni : ¬ (j : Int) ∈ deadsR t p := by
        rw [hdr]
        unfold placesF
        intro q
        obtain ⟨i, hi, e2⟩ := List.mem_map.1 q
        have : i = j := by omega
        subst this
        rw [(List.mem_filter.1 hi).2] at k3
        cases k3
      rw [decide_eq_false hni]
      simp +contextual -dsimp -implicitDefEqProofs (maxSteps := 5000000) only [go_sem, reduceIte, reduceCtorEq, Nat.reduceEqDiff, Nat.reduceBEq, Nat.reduceAdd, Nat.reduceLeDiff, Nat.reduceMul, Nat.reduceLT, Int.reduceEq, Int.reduceLT, Int.reduceLE]
      refine retR_less (l := [B true]) (H' := H) ?_ (AHeap.le_refl _) ⟨rfl, rfl⟩
      simp only [resA, go_sem, reduceIte, reduceCtorEq, Nat.reduceEqDiff, Nat.reduceBEq, Nat.reduceAdd, Nat.reduceLeDiff, Nat.reduceMul, Nat.reduceLT, Int.reduceEq, Int.reduceLT, Int.reduceLE, k2.1, k2.2, decide_true, Bool.and_self]
end
end
end Go.Proofs.YtoacjmckefahcaaGreat
