/- The law LowerWith answers true at every input: what is opened can be closed by a try. No condition. -/
import Derived.Test.YtbjgilehnlpmaaaJ6
section
set_option linter.unusedVariables false
set_option linter.unusedSimpArgs false
namespace Go.Proofs.Ytbjgilehnlpmaaa
open Go Go.Sim
set_option maxRecDepth 100000

theorem lowerF_head (f : Fo) : headNo f = true → headNo (lowerF f) = true := by
  intro h
  cases f with
  | nil => rfl
  | node k a b kids rest =>
    simp only [lowerF]
    split
    · rfl
    · exact h
/-- States that are alike but for what is added to numbers that are told. -/
structure SimS (s s' : RS) : Prop where
  fs : s'.fs = s.fs
  log : lowDig s'.log = lowDig s.log
def SimR (r r' : En × RS) : Prop := r'.1 = r.1 ∧ SimS r.2 r'.2
theorem SimS.tell {s s' : RS} (h : SimS s s') {n n' : Int} (hn : n'.tmod 100 = n.tmod 100) : SimS (s.tell n) (s'.tell n') := by
  refine ⟨h.fs, ?_⟩
  have := h.log
  simp only [RS.tell, lowDig, List.map_append, List.map_cons, List.map_nil] at this ⊢
  rw [this, hn]
theorem SimS.jump {s s' : RS} (h : SimS s s') (k : Int) (i i' : Nat) : SimS (s.jump k i) (s'.jump k i') := by
  unfold RS.jump
  constructor
  · split <;> split <;> exact h.fs
  · split <;> split <;> exact h.log
theorem SimS.raise {s s' : RS} (h : SimS s s') (c d g : Int) : SimS (s.raise c d g) (s'.raise c d g) := by
  refine ⟨?_, h.log⟩
  show raiseF s'.fs c d g = raiseF s.fs c d g
  rw [h.fs]
theorem SimS.line {s s' : RS} (h : SimS s s') (k a b g : Int) : SimR (lineS k a b g s) (lineS k a b g s') := by
  unfold lineS
  split
  · exact ⟨rfl, h.tell rfl⟩
  · split
    · exact ⟨by rw [h.fs], h.raise a b g⟩
    · split
      · split
        · exact ⟨by rw [h.fs], h.raise 0 0 (-1)⟩
        · exact ⟨rfl, h⟩
      · split
        · exact ⟨rfl, h⟩
        · split
          · exact ⟨rfl, h⟩
          · split
            · exact ⟨rfl, h⟩
            · exact ⟨rfl, h⟩
theorem sim_loop {b b' : RS → En × RS} (hb : ∀ s s', SimS s s' → SimR (b s) (b' s')) : ∀ (n : Nat) (s s' : RS), SimS s s' → SimR (loopS b n s) (loopS b' n s')
  | 0, s, s', h => ⟨rfl, h⟩
  | n + 1, s, s', h => by
    have h1 := hb s s' h
    simp only [loopS]
    rw [h1.1]
    split
    · exact h1
    · split
      · exact ⟨rfl, h1.2⟩
      · exact sim_loop hb n _ _ h1.2
theorem tmod_add {a : Int} (h : 0 ≤ a) (n : Int) (hn : n = 100 ∨ n = 200) : a.tmod 100 = (n + a).tmod 100 := by
  rw [Int.tmod_eq_emod_of_nonneg h, Int.tmod_eq_emod_of_nonneg (by omega)]
  rcases hn with rfl | rfl <;> omega
theorem low_run {t : List Class} : ∀ (f : Fo) (lp : Bool) (i i' : Nat) (pd : Option (En × En)) (d h : Int) (s s' : RS), okF f lp pd.isSome = true → numsF t f d = true → SimS s s' → SimR (runF t f i pd h s) (runF t (lowerF f) i' pd h s') := by
  intro f
  induction f with
  | nil =>
    intro lp i i' pd d h s s' _ _ hs
    cases pd with
    | none => exact ⟨rfl, hs⟩
    | some q =>
      simp only [runF, lowerF]
      split
      · exact ⟨rfl, hs⟩
      · exact ⟨rfl, hs⟩
  | node k a b kids rest ihk ihr =>
    intro lp i i' pd d h s s' hok hn hs
    obtain ⟨n1, n2, n3, n4, n5⟩ := numsF_node hn
    have none_case : ∀ (i i' : Nat) (s s' : RS), okF (.node k a b kids rest) lp false = true → SimS s s' → SimR (runF t (.node k a b kids rest) i none h s) (runF t (lowerF (.node k a b kids rest)) i' none h s') := by
      intro i i' s s' hok hs
      rcases okF_node hok with ⟨_, q, _⟩ | ⟨hf, ⟨h7, _, o1, o2⟩ | ⟨h7, o1, o2, o3, _⟩⟩
      · cases q
      · subst h7
        have el : lowerF (.node 7 a b kids rest) = .node 7 a b (lowerF kids) (lowerF rest) := by simp [lowerF]
        rw [el, runF_try, runF_try]
        have h1 := ihk lp (i + 1) (i' + 1) none (d + 1) h s s' o1 n4 hs
        show SimR (runF t rest _ (some ((runF t kids (i + 1) none h s).1, (runF t kids (i + 1) none h s).1)) h (runF t kids (i + 1) none h s).2) (runF t (lowerF rest) _ (some ((runF t (lowerF kids) (i' + 1) none h s').1, (runF t (lowerF kids) (i' + 1) none h s').1)) h (runF t (lowerF kids) (i' + 1) none h s').2)
        rw [h1.1]
        exact ihr lp _ _ _ d h _ _ o2 n5 h1.2
      · have hhead := okF_head o1
        by_cases hc : k = 11 ∧ b = 0
        · obtain ⟨k11, b0⟩ := hc
          subst k11; subst b0
          have ha : 0 ≤ a := by
            unfold numOk at n1
            rw [if_neg (by omega), if_neg (by omega), if_neg (by omega), if_pos rfl, Bool.and_eq_true] at n1
            simp only [inR, Bool.and_eq_true, decide_eq_true_eq] at n1
            omega
          have el : lowerF (.node 11 a 0 kids rest) = .node 1 a 0 .nil (.node 7 0 0 (lowerF kids) (.node 10 0 0 (.node 1 a 0 .nil .nil) (lowerF rest))) := by simp [lowerF]
          rw [el]
          have h1 := ihk lp (i + 1) (i' + 2) none (d + 1) h (s.tell (100 + a)) (s'.tell a) (o2 rfl) n4 (hs.tell (tmod_add ha 100 (.inl rfl)))
          have e1 : ∀ (i : Nat) (K : Fo) (s : RS), runF t (.node 1 a 0 .nil K) i none h s = runF t K (i + 1) none h (s.tell a) := by
            intro i K s
            rw [runF_line (by omega)]
            simp [lineR, lineS, En.next, RS.jump, jumpsK, inR, Fo.size]
          rw [e1, runF_try]
          have e2 : ∀ (i : Nat) (q : En × En) (s : RS), runF t (.node 10 0 0 (.node 1 a 0 .nil .nil) (lowerF rest)) i (some q) h s = runF t (lowerF rest) (i + 2) (some (q.1, q.2)) h (s.tell a) := by
            intro i q s
            simp only [runF, show followsK 10 = true from rfl, if_true, show ¬ (10 : Int) = 8 by decide, show ¬ (10 : Int) = 9 by decide, if_false, show ¬ (1 : Int) = 7 by decide]
            simp [lineR, lineS, En.next, RS.jump, jumpsK, inR, Fo.size]
          show SimR _ (runF t (.node 10 0 0 (.node 1 a 0 .nil .nil) (lowerF rest)) _ (some ((runF t (lowerF kids) (i' + 2) none h (s'.tell a)).1, (runF t (lowerF kids) (i' + 2) none h (s'.tell a)).1)) h (runF t (lowerF kids) (i' + 2) none h (s'.tell a)).2)
          rw [e2, runF_no (lowerF_head rest hhead), runF_line (by omega)]
          have e3 : ∀ B : RS → En × RS, lineR 11 a 0 i h B s = withS a 0 (B (s.tell (100 + a))) := fun B => by simp [lineR]
          simp only [e3, withS, show ¬ (0 : Int) = 1 by decide, and_false, if_false]
          generalize runF t kids (i + 1) none h (s.tell (100 + a)) = r at h1 ⊢
          generalize runF t (lowerF kids) (i' + 2) none h (s'.tell a) = r' at h1 ⊢
          rw [h1.1]
          split
          · exact ihr lp _ _ none d h _ _ o1 n5 (h1.2.tell (tmod_add ha 200 (.inr rfl)))
          · exact ⟨rfl, h1.2.tell (tmod_add ha 200 (.inr rfl))⟩
        · have el : lowerF (.node k a b kids rest) = .node k a b (lowerF kids) (lowerF rest) := by simp only [lowerF]; rw [if_neg hc]
          rw [el, runF_line h7, runF_line h7]
          have hl : SimR (lineR k a b i h (fun s => runF t kids (i + 1) none h s) s) (lineR k a b i' h (fun s => runF t (lowerF kids) (i' + 1) none h s) s') := by
            unfold lineR
            by_cases k11 : k = 11
            · rw [if_pos k11, if_pos k11]
              have h1 := ihk lp (i + 1) (i' + 1) none (d + 1) h (s.tell (100 + a)) (s'.tell (100 + a)) (o2 k11) n4 (hs.tell rfl)
              unfold withS
              rw [h1.1]
              exact ⟨rfl, h1.2.tell rfl⟩
            · rw [if_neg k11, if_neg k11]
              by_cases k12 : k = 12
              · rw [if_pos k12, if_pos k12]
                exact sim_loop (fun s s' hs => ihk true (i + 1) (i' + 1) none (d + 1) h s s' (o3 k12) n4 hs) _ _ _ hs
              · rw [if_neg k12, if_neg k12]
                exact (hs.jump k i i').line k a b h
          generalize lineR k a b i h (fun s => runF t kids (i + 1) none h s) s = r at hl ⊢
          generalize lineR k a b i' h (fun s => runF t (lowerF kids) (i' + 1) none h s) s' = r' at hl ⊢
          show SimR (if r.1.ed = 0 then _ else r) (if r'.1.ed = 0 then _ else r')
          rw [hl.1]
          split
          · exact ihr lp _ _ none d h _ _ o1 n5 hl.2
          · exact hl
    cases pd with
    | none => exact none_case i i' s s' hok hs
    | some q =>
      rcases okF_node hok with ⟨hf, _, o1, o2⟩ | ⟨hf, _⟩
      · have hf' := hf
        simp only [followsK, inR, Bool.and_eq_true, decide_eq_true_eq] at hf'
        have el : lowerF (.node k a b kids rest) = .node k a b (lowerF kids) (lowerF rest) := by simp only [lowerF]; rw [if_neg (by omega)]
        rw [el]
        simp only [runF, hf, if_true]
        have hcl : clsOf s' q.1.val = clsOf s q.1.val := by unfold clsOf; rw [hs.fs]
        rw [hcl]
        have go : ∀ (g : Int) (st : En) (e : En → En), SimR ((fun r : En × RS => runF t rest (i + 1 + kids.size) (some (st, e r.1)) h r.2) (runF t kids (i + 1) none g s)) ((fun r : En × RS => runF t (lowerF rest) (i' + 1 + (lowerF kids).size) (some (st, e r.1)) h r.2) (runF t (lowerF kids) (i' + 1) none g s')) := by
          intro g st e
          have h1 := ihk lp (i + 1) (i' + 1) none (d + 1) g s s' o1 n4 hs
          show SimR (runF t rest _ (some (st, e (runF t kids (i + 1) none g s).1)) h (runF t kids (i + 1) none g s).2) (runF t (lowerF rest) _ (some (st, e (runF t (lowerF kids) (i' + 1) none g s').1)) h (runF t (lowerF kids) (i' + 1) none g s').2)
          rw [h1.1]
          exact ihr lp _ _ _ d h _ _ o2 n5 h1.2
        split
        · split
          · exact go q.1.val ⟨-1, 0⟩ (fun e => e)
          · exact ihr lp _ _ _ d h _ _ o2 n5 hs
        · split
          · split
            · exact go h q.1 (fun e => e)
            · exact ihr lp _ _ _ d h _ _ o2 n5 hs
          · exact go _ q.1 (fun e => if e.ed = 0 then q.2 else e)
      · have hno : headNo (.node k a b kids rest) = true := by simp [headNo, hf]
        rw [show q = (q.1, q.2) from rfl, runF_no hno, runF_no (lowerF_head _ hno)]
        split
        · refine none_case i i' s s' ?_ hs
          have : okF (.node k a b kids rest) lp true = okF (.node k a b kids rest) lp false := by simp only [okF, hf]; rfl
          rw [← this]; exact hok
        · exact ⟨rfl, hs⟩
end Go.Proofs.Ytbjgilehnlpmaaa
end
section
set_option linter.unusedVariables false
set_option linter.unusedSimpArgs false
namespace Go.Proofs.Ytbjgilehnlpmaaa
open Go Go.Sim
set_option maxRecDepth 100000
attribute [local go_sem ↓] aw_skip aw_ret aw_exit aw_region aw_draw aw_seq aw_block aw_loop aw_cond frz_nil frz_cons sq_normal sq_ret sq_exit exB_normal exB_ret exB_same exB_other retQ_ret retQ_normal ret0_ret ret0_normal ao_nil go1 g_move g_assign g_pick g_build g_load g_binOp g_unOp g_convert g_fieldAddr g_field g_indexAddr g_index g_extract g_slice g_nilCheck g_len g_makeFunc h_call h_append h_alloc h_box h_buildSlice h_makeSlice h_store gV i_box i_buildSlice i_move i_assign i_build i_load i_binOp i_unOp i_convert i_fieldAddr i_field i_indexAddr i_index i_extract i_slice i_nilCheck i_makeFunc i_len i_max i_min i_alloc i_makeSlice i_store i_append i_call i_pick boxI boxA buildSliceI buildSliceA makeSliceA allocA storeA p_move p_assign p_pick p_build p_load p_binOp p_unOp p_convert p_fieldAddr p_field p_indexAddr p_index p_extract p_slice p_nilCheck p_makeFunc p_len p_max p_min p_alloc p_box p_buildSlice p_makeSlice p_store p_append p_call x_nil x_go1 x_g0 x_g1 x_g2 x_g3 x_s0 x_s1 x_s2 x_s3 u_move u_assign u_pick u_build u_load u_binOp u_unOp u_convert u_fieldAddr u_field u_indexAddr u_index u_extract u_slice u_nilCheck u_makeFunc u_len u_buildSlice x_s4 x_g4 rq_normal rq_ret rq_exit aw_range
attribute [local go_sem] frzV_sl frzK_some set_none set_other AHeap.set_self set_del set_set cnd_t cnd_f cnd_b retA_one retA_two retA_three retA_four retA_nil gIf_b mrgV_b mrgV_wh mrgV_U gIf_U gIf_wh mrgB_f mrgB_some mrgB_if wh_true wh_false keepA_some keepA_if gD_zero gD_succ gT_some bxA_t bxA_f callA_fn ev_tmp ev_const ev_global ev_func oc_bool oc_int oc_string oc_nil oc_nilptr oc_nilfunc cl_bool cl_int cl_string cl_nil updO_some updO_none upd_same upd_other init_at pickA_b pickA_wh selA_t selA_f selA_and selA_or selA_orn selA_orm selA_bb selA_ii beqt b_add b_sub b_mul b_and b_or b_xor b_eql b_neq b_lss b_leq b_gtr b_geq b_quo b_rem b_shr b_seql b_sneq b_sadd b_beql b_bneq b_aeql b_aneq u_not u_neg isConstOp eqA eqCellV List.getD_cons_zero List.getD_cons_succ List.map_cons List.map_nil List.nil_append List.cons_append List.append_nil if_true if_false Option.map_some Option.map_none ne_eq not_false_eq_true oneA ldv ld1v ld1s wr1s ldRow stRow row_lit row_agg row_vsl row_sl row_ptr row_fn one_I one_B one_S one_vsl one_sl one_ptr one_fn extractA okA rI rS rU rClass rFault rExit rStart rLine Int.toNat_natCast List.length_cons List.length_nil List.length_map List.all_cons List.all_nil Bool.and_true Nat.zero_add List.getElem?_cons_zero List.getElem?_cons_succ List.take_succ_cons List.take_zero List.drop_succ_cons List.drop_zero and_self true_and and_true implies_true decide_eq_true_eq decide_eq_false_iff_not Bool.or_eq_true Bool.or_eq_false_iff Bool.and_eq_true Bool.not_eq_true' Bool.not_eq_false' beq_false decide_true decide_false Int.ofNat_lt Int.ofNat_le Int.natCast_nonneg Bool.or_true Bool.or_false Bool.true_or Bool.false_or beq_self_eq_true List.drop_one Bool.not_true Bool.not_false Bool.not_not Bool.false_eq_true Bool.true_eq_false false_implies true_implies Bool.true_and Bool.false_and Bool.and_false not_true_eq_false Int.natCast_eq_zero Int.natCast_pos Int.natCast_zero false_and and_false or_false false_or or_true true_or Bool.or_self none_le_iff List.replicate_zero Int.toNat_zero List.replicate_succ buildRows List.set_cons_zero List.set_cons_succ List.set_nil List.mapM_nil maxLen_eq Nat.zero_le Nat.mul_one Nat.one_mul bldA fillA spliceA List.take_nil List.drop_nil List.getElem?_nil ld1o wr1o bldSliceA le_same cv_i cvI_t quietT_fn qvd_some ld_o ldO_1 ldO_l wr_o wrO_1 set_2 set_3 set_4 putL_nil putL_cons List.zip_cons_cons List.zip_nil_left List.zip_nil_right List.toList_toArray frzV_set ti1 ti2 tk2 ti3 te3 ts3 tk3 tz3 ti4 tb4 ti5 tk5 tz5 ti9 te9 ts9 tk9 tz9 ti12 tk12 ti13 tp13 tf13_0 tf13_1 ti20 ti21 tk21 tz21 ti22 te22 ti23 tp23 tf23_0 ti24 tp24 tf24_0 ti25 te25 ti27 ti28 ti29 te29 ti30 te30 ti31 tp31 tf31_0 ti32 tp32 tf32_0 ti33 tp33 tf33_0 tf33_1 tf33_2 tf33_3 ti34 tp34 tf34_0 tf34_1 tf34_2 tf34_3 ti35 ti36 tq36 tp36 tf36_0 tf36_1 tf36_2 tf36_3 ti37 tq37 tp37 tf37_0 tf37_1 tf37_2 tf37_3 ti38 ti39 ti40 ti41 ti42 ti43 ti44 te44 tz44 ti46 ti47 ti48 ti49 ti50 ti51 ti52 tq52 tp52 tf52_0 tf52_1 ti53 tq53 tp53 tf53_0 tf53_1 ti54 ti55 tq55 tp55 tf55_0 tf55_1 tf55_2 tf55_3 tf55_4 ti56 tq56 tp56 tf56_0 tf56_1 tf56_2 tf56_3 tf56_4 ti57 ti58 ti59 ti60 ti61 ti62 ti63 ti64 ti65 ti66 ti67 ti68 ti69 ti70 tp70 tf70_0 tf70_1 tf70_2 tf70_3 tf70_4 ti71 tp71 tf71_0 tf71_1 tf71_2 tf71_3 tf71_4 ti73 ti74 ti75 ti76 ti77 ti78 ti79 ti80 tq80 tp80 tf80_0 tf80_1 ti81 tq81 tp81 tf81_0 tf81_1 ti82 ti83 ti84 ti85 ti86 ti87 ti88 ti89 ti90 tp90 tf90_0 tf90_1 ti91 tp91 tf91_0 tf91_1 ti92 ti93 ti94 ti95 ti96 ti97 ti98 ti99 ti100 ti101 ti102 ti103 te103 ti104 ti105 ti106 ti107 ti108 ti109 ti110 ti111 ti112 tk112 tz112 ti113 ti114 ti115 tk115 ti117 ti118 ti119 ti121 ti122 ti123 tk123 tz123 ti124 ti125 tk125 tz125 ti126 ti127 tk127 ti128 ti129 ti130 ti131 ti132 ti133 ti135 ti136 ti142 ti146 fp13_0 fv13_0 fp13_1 fv13_1 fp23_0 fv23_0 fp24_0 fv24_0 fp31_0 fv31_0 fp32_0 fv32_0 fp33_0 fv33_0 fp33_1 fv33_1 fp33_2 fv33_2 fp33_3 fv33_3 fp34_0 fv34_0 fp34_1 fv34_1 fp34_2 fv34_2 fp34_3 fv34_3 fp36_0 fv36_0 fp36_1 fv36_1 fp36_2 fv36_2 fp36_3 fv36_3 fp37_0 fv37_0 fp37_1 fv37_1 fp37_2 fv37_2 fp37_3 fv37_3 fp52_0 fv52_0 fp52_1 fv52_1 fp53_0 fv53_0 fp53_1 fv53_1 fp55_0 fv55_0 fp55_1 fv55_1 fp55_2 fv55_2 fp55_3 fv55_3 fp55_4 fv55_4 fp56_0 fv56_0 fp56_1 fv56_1 fp56_2 fv56_2 fp56_3 fv56_3 fp56_4 fv56_4 fp70_0 fv70_0 fp70_1 fv70_1 fp70_2 fv70_2 fp70_3 fv70_3 fp70_4 fv70_4 fp71_0 fv71_0 fp71_1 fv71_1 fp71_2 fv71_2 fp71_3 fv71_3 fp71_4 fv71_4 fp80_0 fv80_0 fp80_1 fv80_1 fp81_0 fv81_0 fp81_1 fv81_1 fp90_0 fv90_0 fp90_1 fv90_1 fp91_0 fv91_0 fp91_1 fv91_1 lv22 ll22 is22 ix22 sh22 so22 sb22 sm22 sp22 lv25 ll25 is25 ix25 sh25 so25 sb25 sm25 sp25 lv29 ll29 is29 ix29 sh29 so29 sb29 sm29 sp29 lv30 ll30 is30 ix30 sh30 so30 sb30 sm30 sp30 lv44 ll44 is44 ix44 sh44 so44 sb44 sm44 sp44 lv103 ll103 is103 ix103 sh103 so103 sb103 sm103 sp103 xs9 ls9 sx9 sy9 sz9
set_option maxHeartbeats 4000000

theorem lowP_forest (p : List Line) : forestP (lowP p) = lowerF (forestP p) := forestP_flat _
theorem low_law {t : List Class} {p : List Line} (h : ValidP t p) : SimR (runP t p) (runP t (lowP p)) := by
  obtain ⟨h1, h2, h3, h4, h5, h6⟩ := validP_forest h
  unfold runP
  rw [lowP_forest]
  exact low_run (forestP p) false 0 0 none 0 (-1) rs0 rs0 h4 h3 ⟨rfl, rfl⟩
theorem low_res {r r' : En × RS} (h : SimR r r') : (resOf r').ed = (resOf r).ed ∧ (resOf r').val = (resOf r).val ∧ (resOf r').heap = (resOf r).heap ∧ lowDig (resOf r').log = lowDig (resOf r).log := by
  obtain ⟨h1, h2⟩ := h
  have h3 := h2.fs
  have h4 := h2.log
  unfold resOf
  rw [h1, h3]
  split
  · exact ⟨rfl, rfl, rfl, h4⟩
  · exact ⟨rfl, rfl, rfl, h4⟩
theorem lower_no : ∀ (f : Fo) (d : Int), ∀ x ∈ (lowerF f).flat d, ¬ (x.kind = 11 ∧ x.b = 0)
  | .nil, d, x, hx => by cases hx
  | .node k a b kids rest, d, x, hx => by
    have h1 := lower_no kids (d + 1)
    have h2 := lower_no rest d
    simp only [lowerF] at hx
    split at hx
    · simp only [Fo.flat, List.mem_cons, List.mem_append, List.nil_append, List.not_mem_nil, or_false] at hx
      rcases hx with rfl | rfl | hx | rfl | rfl | hx
      · exact fun q => absurd q.1 (by show ¬ (1 : Int) = 11; omega)
      · exact fun q => absurd q.1 (by show ¬ (7 : Int) = 11; omega)
      · exact h1 x hx
      · exact fun q => absurd q.1 (by show ¬ (10 : Int) = 11; omega)
      · exact fun q => absurd q.1 (by show ¬ (1 : Int) = 11; omega)
      · exact h2 x hx
    · rename_i hc
      simp only [Fo.flat, List.mem_cons, List.mem_append] at hx
      rcases hx with rfl | hx | hx
      · exact hc
      · exact h1 x hx
      · exact h2 x hx
theorem res_len {t : List Class} {p : List Line} (h : ValidP t p) : (resOf (runP t p)).log.length ≤ 34992 := by
  have := (runP_goes h).len
  have e : (resOf (runP t p)).log = (runP t p).2.log := by unfold resOf; split <;> rfl
  rw [e]
  have : (rs0 : RS).log.length = 0 := rfl
  omega
theorem c_LawTopLower (t : List Class) (cl : Bool) (p : List Line) (cl' : Bool) (H : AHeap) (hn : namesOk t) (hp : p.length ≤ 4398046511104) :
    ACalls Try.prog 3 [aTree t cl, aProg p cl'] H fun r H' => r = B true ∧ H' = H := by
  have eqv : ∀ l : List Line, decide (l = l) = true := fun l => by simp
  refine acalls_of1 Try.func3 rfl (by kernel_rfl) rfl rfl (awp_sound (fz := fun r => if r = 5 then [9] else if r = 6 then [10] else []) (im := fun s => s == 2) mixed _ _ _ _ (by kernel_rfl) ?_)
  simp +contextual -dsimp -implicitDefEqProofs (maxSteps := 5000000) only [go_sem, reduceIte, reduceCtorEq, Nat.reduceEqDiff, Nat.reduceBEq, Nat.reduceAdd, Nat.reduceLeDiff, Nat.reduceMul, Nat.reduceLT, Int.reduceEq, Int.reduceLT, Int.reduceLE]
  refine (c_mLowerWith t cl p cl' _ hn hp).mono ?_
  rintro _ H ⟨⟨c1, rfl⟩, rfl⟩
  simp +contextual -dsimp -implicitDefEqProofs (maxSteps := 5000000) only [go_sem, reduceIte, reduceCtorEq, Nat.reduceEqDiff, Nat.reduceBEq, Nat.reduceAdd, Nat.reduceLeDiff, Nat.reduceMul, Nat.reduceLT, Int.reduceEq, Int.reduceLT, Int.reduceLE]
  refine (c_sLowerWith t cl p cl' _ hn hp).mono ?_
  rintro _ H ⟨⟨c2, rfl⟩, rfl⟩
  simp +contextual -dsimp -implicitDefEqProofs (maxSteps := 5000000) only [go_sem, reduceIte, reduceCtorEq, Nat.reduceEqDiff, Nat.reduceBEq, Nat.reduceAdd, Nat.reduceLeDiff, Nat.reduceMul, Nat.reduceLT, Int.reduceEq, Int.reduceLT, Int.reduceLE]
  refine (c_equalLines _ _ _ _ _).det ?_
  rw [eqv]
  cases hb : lowB t p
  · simp +contextual -dsimp -implicitDefEqProofs (maxSteps := 5000000) only [go_sem, reduceIte, reduceCtorEq, Nat.reduceEqDiff, Nat.reduceBEq, Nat.reduceAdd, Nat.reduceLeDiff, Nat.reduceMul, Nat.reduceLT, Int.reduceEq, Int.reduceLT, Int.reduceLE]
    refine (c_equalLines _ _ _ _ _).det ?_
    rw [eqv]
    simp +contextual -dsimp -implicitDefEqProofs (maxSteps := 5000000) only [go_sem, reduceIte, reduceCtorEq, Nat.reduceEqDiff, Nat.reduceBEq, Nat.reduceAdd, Nat.reduceLeDiff, Nat.reduceMul, Nat.reduceLT, Int.reduceEq, Int.reduceLT, Int.reduceLE]
    refine retR_less (l := [B true]) (H' := H) ?_ (AHeap.le_refl _) ⟨rfl, rfl⟩
    simp only [resA, go_sem, reduceIte, reduceCtorEq, Nat.reduceEqDiff, Nat.reduceBEq, Nat.reduceAdd, Nat.reduceLeDiff, Nat.reduceMul, Nat.reduceLT, Int.reduceEq, Int.reduceLT, Int.reduceLE]
  · have hb2 := hb
    unfold lowB at hb2
    rw [Bool.and_eq_true] at hb2
    have hv := validB_true.1 hb2.1
    have hv2 := validB_true.1 hb2.2
    have hll := lowP_len hv
    have elo : lowR t p = lowP p := by unfold lowR madeF; rw [if_pos hb2.1, if_pos hb2.2]
    rw [elo]
    obtain ⟨g1, g2, g3, g4⟩ := low_res (low_law hv)
    have k1 := own_frz (c_mRunProgram t cl p cl' H hn hp)
    rw [if_pos hb2.1] at k1
    have k2 := own_frz (c_mRunProgram t cl (lowP p) c1 H hn (by omega))
    rw [if_pos hb2.2] at k2
    have hl1 := res_len hv
    have hl2 := res_len hv2
    generalize resOf (runP t p) = R1 at hl1 k1 g1 g2 g3 g4 ⊢
    generalize resOf (runP t (lowP p)) = R2 at hl2 k2 g1 g2 g3 g4 ⊢
    simp +contextual -dsimp -implicitDefEqProofs (maxSteps := 5000000) only [go_sem, reduceIte, reduceCtorEq, Nat.reduceEqDiff, Nat.reduceBEq, Nat.reduceAdd, Nat.reduceLeDiff, Nat.reduceMul, Nat.reduceLT, Int.reduceEq, Int.reduceLT, Int.reduceLE]
    refine k1.mono ?_
    rintro _ H ⟨⟨c3, c4, rfl⟩, rfl⟩
    simp +contextual -dsimp -implicitDefEqProofs (maxSteps := 5000000) only [go_sem, reduceIte, reduceCtorEq, Nat.reduceEqDiff, Nat.reduceBEq, Nat.reduceAdd, Nat.reduceLeDiff, Nat.reduceMul, Nat.reduceLT, Int.reduceEq, Int.reduceLT, Int.reduceLE]
    intro b9 hb9
    refine k2.mono ?_
    rintro _ H ⟨⟨c5, c6, rfl⟩, rfl⟩
    simp +contextual -dsimp -implicitDefEqProofs (maxSteps := 5000000) only [go_sem, reduceIte, reduceCtorEq, Nat.reduceEqDiff, Nat.reduceBEq, Nat.reduceAdd, Nat.reduceLeDiff, Nat.reduceMul, Nat.reduceLT, Int.reduceEq, Int.reduceLT, Int.reduceLE]
    intro b10 hb10
    refine aloop mixed (fz := fun r => if r = 5 then [9] else if r = 6 then [10] else []) (im := fun s => s == 2) (by kernel_rfl) (fun m tm H' => ∃ k : Nat, m = (lowP p).length - k ∧ k ≤ (lowP p).length ∧ H' = H ∧ tm 5 = aProg (lowP p) c1 ∧ tm 9 = .vptr [[.vsl (R1.log.map rI) c3, I R1.ed, I R1.val, .vsl (R1.heap.map rFault) c4]] 0 0 ∧ tm 10 = .vptr [[.vsl (R2.log.map rI) c5, I R2.ed, I R2.val, .vsl (R2.heap.map rFault) c6]] 0 0 ∧ tm 11 = I k) (lowP p).length ⟨0, by omega, by omega, rfl, ?_⟩ ?_
    · simp +contextual -dsimp -implicitDefEqProofs (maxSteps := 5000000) only [go_sem, reduceIte, reduceCtorEq, Nat.reduceEqDiff, Nat.reduceBEq, Nat.reduceAdd, Nat.reduceLeDiff, Nat.reduceMul, Nat.reduceLT, Int.reduceEq, Int.reduceLT, Int.reduceLE]
    · rintro m tm H ⟨k, rfl, hk, rfl, t5, t9, t10, t11⟩
      by_cases hlt : k < (lowP p).length
      · have hno := lower_no (forestP p) 0 ((lowP p).getD k default) (by show _ ∈ lowP p; rw [List.getD_eq_getElem?_getD, List.getElem?_eq_getElem hlt]; exact List.getElem_mem hlt)
        simp +contextual -dsimp -implicitDefEqProofs (maxSteps := 5000000) only [go_sem, reduceIte, reduceCtorEq, Nat.reduceEqDiff, Nat.reduceBEq, Nat.reduceAdd, Nat.reduceLeDiff, Nat.reduceMul, Nat.reduceLT, Int.reduceEq, Int.reduceLT, Int.reduceLE, t5, t9, t10, t11, hlt]
        exact ⟨fun q => absurd q hno, fun _ => ⟨_, by omega, k + 1, rfl, hlt, I_wrap (by omega) (by omega) (by omega)⟩⟩
      · simp +contextual -dsimp -implicitDefEqProofs (maxSteps := 5000000) only [go_sem, reduceIte, reduceCtorEq, Nat.reduceEqDiff, Nat.reduceBEq, Nat.reduceAdd, Nat.reduceLeDiff, Nat.reduceMul, Nat.reduceLT, Int.reduceEq, Int.reduceLT, Int.reduceLE, t5, t9, t10, t11, hlt]
        refine draw_intro [0, 0, 3, 0, 1, 2, 2, 0, 0, 0, 0, 0, 0, 0, 0, 0, 0, 0, 0, 0, 0, 0, 0, 0, 0, 0, 2, 0, 0] AHeap.none (by kernel_rfl) none_le ?_
        simp +contextual -dsimp -implicitDefEqProofs (maxSteps := 5000000) only [go_sem, reduceIte, reduceCtorEq, Nat.reduceEqDiff, Nat.reduceBEq, Nat.reduceAdd, Nat.reduceLeDiff, Nat.reduceMul, Nat.reduceLT, Int.reduceEq, Int.reduceLT, Int.reduceLE, t5, t9, t10, t11, hlt]
        refine acalls_frz (c_lowDigits R2.log c5 _ (by omega)) fun d1 => ?_
        simp +contextual -dsimp -implicitDefEqProofs (maxSteps := 5000000) only [go_sem, reduceIte, reduceCtorEq, Nat.reduceEqDiff, Nat.reduceBEq, Nat.reduceAdd, Nat.reduceLeDiff, Nat.reduceMul, Nat.reduceLT, Int.reduceEq, Int.reduceLT, Int.reduceLE, t5, t9, t10, t11, hlt]
        refine acalls_frz (c_lowDigits R1.log c3 _ (by omega)) fun d2 => ?_
        simp +contextual -dsimp -implicitDefEqProofs (maxSteps := 5000000) only [go_sem, reduceIte, reduceCtorEq, Nat.reduceEqDiff, Nat.reduceBEq, Nat.reduceAdd, Nat.reduceLeDiff, Nat.reduceMul, Nat.reduceLT, Int.reduceEq, Int.reduceLT, Int.reduceLE, t5, t9, t10, t11, hlt]
        refine (c_equalInts _ _ _ _ _).det ?_
        rw [g4, decide_eq_true (rfl : lowDig R1.log = lowDig R1.log)]
        simp +contextual -dsimp -implicitDefEqProofs (maxSteps := 5000000) only [go_sem, reduceIte, reduceCtorEq, Nat.reduceEqDiff, Nat.reduceBEq, Nat.reduceAdd, Nat.reduceLeDiff, Nat.reduceMul, Nat.reduceLT, Int.reduceEq, Int.reduceLT, Int.reduceLE, t5, t9, t10, t11, hlt, g1, g2]
        refine (c_equalHeap _ _ _ _ _).det ?_
        rw [g3, decide_eq_true (rfl : R1.heap = R1.heap)]
        simp +contextual -dsimp -implicitDefEqProofs (maxSteps := 5000000) only [go_sem, reduceIte, reduceCtorEq, Nat.reduceEqDiff, Nat.reduceBEq, Nat.reduceAdd, Nat.reduceLeDiff, Nat.reduceMul, Nat.reduceLT, Int.reduceEq, Int.reduceLT, Int.reduceLE, t5, t9, t10, t11, hlt]
        refine retR_less (l := [B true]) (H' := H) ?_ (AHeap.le_refl _) ⟨rfl, rfl⟩
        simp only [resA, go_sem, reduceIte, reduceCtorEq, Nat.reduceEqDiff, Nat.reduceBEq, Nat.reduceAdd, Nat.reduceLeDiff, Nat.reduceMul, Nat.reduceLT, Int.reduceEq, Int.reduceLT, Int.reduceLE]
end Go.Proofs.Ytbjgilehnlpmaaa
end
section
set_option linter.unusedVariables false
set_option linter.unusedSimpArgs false
namespace Go.Proofs.Ytbjgilehnlpmaaa
open Go Go.Sim
set_option maxRecDepth 100000
attribute [local go_sem ↓] aw_skip aw_ret aw_exit aw_region aw_draw aw_seq aw_block aw_loop aw_cond frz_nil frz_cons sq_normal sq_ret sq_exit exB_normal exB_ret exB_same exB_other retQ_ret retQ_normal ret0_ret ret0_normal ao_nil go1 g_move g_assign g_pick g_build g_load g_binOp g_unOp g_convert g_fieldAddr g_field g_indexAddr g_index g_extract g_slice g_nilCheck g_len g_makeFunc h_call h_append h_alloc h_box h_buildSlice h_makeSlice h_store gV i_box i_buildSlice i_move i_assign i_build i_load i_binOp i_unOp i_convert i_fieldAddr i_field i_indexAddr i_index i_extract i_slice i_nilCheck i_makeFunc i_len i_max i_min i_alloc i_makeSlice i_store i_append i_call i_pick boxI boxA buildSliceI buildSliceA makeSliceA allocA storeA p_move p_assign p_pick p_build p_load p_binOp p_unOp p_convert p_fieldAddr p_field p_indexAddr p_index p_extract p_slice p_nilCheck p_makeFunc p_len p_max p_min p_alloc p_box p_buildSlice p_makeSlice p_store p_append p_call x_nil x_go1 x_g0 x_g1 x_g2 x_g3 x_s0 x_s1 x_s2 x_s3 u_move u_assign u_pick u_build u_load u_binOp u_unOp u_convert u_fieldAddr u_field u_indexAddr u_index u_extract u_slice u_nilCheck u_makeFunc u_len u_buildSlice x_s4 x_g4 rq_normal rq_ret rq_exit aw_range
attribute [local go_sem] frzV_sl frzK_some set_none set_other AHeap.set_self set_del set_set cnd_t cnd_f cnd_b retA_one retA_two retA_three retA_four retA_nil gIf_b mrgV_b mrgV_wh mrgV_U gIf_U gIf_wh mrgB_f mrgB_some mrgB_if wh_true wh_false keepA_some keepA_if gD_zero gD_succ gT_some bxA_t bxA_f callA_fn ev_tmp ev_const ev_global ev_func oc_bool oc_int oc_string oc_nil oc_nilptr oc_nilfunc cl_bool cl_int cl_string cl_nil updO_some updO_none upd_same upd_other init_at pickA_b pickA_wh selA_t selA_f selA_and selA_or selA_orn selA_orm selA_bb selA_ii beqt b_add b_sub b_mul b_and b_or b_xor b_eql b_neq b_lss b_leq b_gtr b_geq b_quo b_rem b_shr b_seql b_sneq b_sadd b_beql b_bneq b_aeql b_aneq u_not u_neg isConstOp eqA eqCellV List.getD_cons_zero List.getD_cons_succ List.map_cons List.map_nil List.nil_append List.cons_append List.append_nil if_true if_false Option.map_some Option.map_none ne_eq not_false_eq_true oneA ldv ld1v ld1s wr1s ldRow stRow row_lit row_agg row_vsl row_sl row_ptr row_fn one_I one_B one_S one_vsl one_sl one_ptr one_fn extractA okA rI rS rU rClass rFault rExit rStart rLine Int.toNat_natCast List.length_cons List.length_nil List.length_map List.all_cons List.all_nil Bool.and_true Nat.zero_add List.getElem?_cons_zero List.getElem?_cons_succ List.take_succ_cons List.take_zero List.drop_succ_cons List.drop_zero and_self true_and and_true implies_true decide_eq_true_eq decide_eq_false_iff_not Bool.or_eq_true Bool.or_eq_false_iff Bool.and_eq_true Bool.not_eq_true' Bool.not_eq_false' beq_false decide_true decide_false Int.ofNat_lt Int.ofNat_le Int.natCast_nonneg Bool.or_true Bool.or_false Bool.true_or Bool.false_or beq_self_eq_true List.drop_one Bool.not_true Bool.not_false Bool.not_not Bool.false_eq_true Bool.true_eq_false false_implies true_implies Bool.true_and Bool.false_and Bool.and_false not_true_eq_false Int.natCast_eq_zero Int.natCast_pos Int.natCast_zero false_and and_false or_false false_or or_true true_or Bool.or_self none_le_iff List.replicate_zero Int.toNat_zero List.replicate_succ buildRows List.set_cons_zero List.set_cons_succ List.set_nil List.mapM_nil maxLen_eq Nat.zero_le Nat.mul_one Nat.one_mul bldA fillA spliceA List.take_nil List.drop_nil List.getElem?_nil ld1o wr1o bldSliceA le_same cv_i cvI_t quietT_fn qvd_some ld_o ldO_1 ldO_l wr_o wrO_1 set_2 set_3 set_4 putL_nil putL_cons List.zip_cons_cons List.zip_nil_left List.zip_nil_right List.toList_toArray frzV_set ti1 ti2 tk2 ti3 te3 ts3 tk3 tz3 ti4 tb4 ti5 tk5 tz5 ti9 te9 ts9 tk9 tz9 ti12 tk12 ti13 tp13 tf13_0 tf13_1 ti20 ti21 tk21 tz21 ti22 te22 ti23 tp23 tf23_0 ti24 tp24 tf24_0 ti25 te25 ti27 ti28 ti29 te29 ti30 te30 ti31 tp31 tf31_0 ti32 tp32 tf32_0 ti33 tp33 tf33_0 tf33_1 tf33_2 tf33_3 ti34 tp34 tf34_0 tf34_1 tf34_2 tf34_3 ti35 ti36 tq36 tp36 tf36_0 tf36_1 tf36_2 tf36_3 ti37 tq37 tp37 tf37_0 tf37_1 tf37_2 tf37_3 ti38 ti39 ti40 ti41 ti42 ti43 ti44 te44 tz44 ti46 ti47 ti48 ti49 ti50 ti51 ti52 tq52 tp52 tf52_0 tf52_1 ti53 tq53 tp53 tf53_0 tf53_1 ti54 ti55 tq55 tp55 tf55_0 tf55_1 tf55_2 tf55_3 tf55_4 ti56 tq56 tp56 tf56_0 tf56_1 tf56_2 tf56_3 tf56_4 ti57 ti58 ti59 ti60 ti61 ti62 ti63 ti64 ti65 ti66 ti67 ti68 ti69 ti70 tp70 tf70_0 tf70_1 tf70_2 tf70_3 tf70_4 ti71 tp71 tf71_0 tf71_1 tf71_2 tf71_3 tf71_4 ti73 ti74 ti75 ti76 ti77 ti78 ti79 ti80 tq80 tp80 tf80_0 tf80_1 ti81 tq81 tp81 tf81_0 tf81_1 ti82 ti83 ti84 ti85 ti86 ti87 ti88 ti89 ti90 tp90 tf90_0 tf90_1 ti91 tp91 tf91_0 tf91_1 ti92 ti93 ti94 ti95 ti96 ti97 ti98 ti99 ti100 ti101 ti102 ti103 te103 ti104 ti105 ti106 ti107 ti108 ti109 ti110 ti111 ti112 tk112 tz112 ti113 ti114 ti115 tk115 ti117 ti118 ti119 ti121 ti122 ti123 tk123 tz123 ti124 ti125 tk125 tz125 ti126 ti127 tk127 ti128 ti129 ti130 ti131 ti132 ti133 ti135 ti136 ti142 ti146 fp13_0 fv13_0 fp13_1 fv13_1 fp23_0 fv23_0 fp24_0 fv24_0 fp31_0 fv31_0 fp32_0 fv32_0 fp33_0 fv33_0 fp33_1 fv33_1 fp33_2 fv33_2 fp33_3 fv33_3 fp34_0 fv34_0 fp34_1 fv34_1 fp34_2 fv34_2 fp34_3 fv34_3 fp36_0 fv36_0 fp36_1 fv36_1 fp36_2 fv36_2 fp36_3 fv36_3 fp37_0 fv37_0 fp37_1 fv37_1 fp37_2 fv37_2 fp37_3 fv37_3 fp52_0 fv52_0 fp52_1 fv52_1 fp53_0 fv53_0 fp53_1 fv53_1 fp55_0 fv55_0 fp55_1 fv55_1 fp55_2 fv55_2 fp55_3 fv55_3 fp55_4 fv55_4 fp56_0 fv56_0 fp56_1 fv56_1 fp56_2 fv56_2 fp56_3 fv56_3 fp56_4 fv56_4 fp70_0 fv70_0 fp70_1 fv70_1 fp70_2 fv70_2 fp70_3 fv70_3 fp70_4 fv70_4 fp71_0 fv71_0 fp71_1 fv71_1 fp71_2 fv71_2 fp71_3 fv71_3 fp71_4 fv71_4 fp80_0 fv80_0 fp80_1 fv80_1 fp81_0 fv81_0 fp81_1 fv81_1 fp90_0 fv90_0 fp90_1 fv90_1 fp91_0 fv91_0 fp91_1 fv91_1 lv22 ll22 is22 ix22 sh22 so22 sb22 sm22 sp22 lv25 ll25 is25 ix25 sh25 so25 sb25 sm25 sp25 lv29 ll29 is29 ix29 sh29 so29 sb29 sm29 sp29 lv30 ll30 is30 ix30 sh30 so30 sb30 sm30 sp30 lv44 ll44 is44 ix44 sh44 so44 sb44 sm44 sp44 lv103 ll103 is103 ix103 sh103 so103 sb103 sm103 sp103 xs9 ls9 sx9 sy9 sz9
set_option maxHeartbeats 4000000

theorem c_DrawLowerWith (F : AHeap) (bs : List UInt8) (cb : Bool) : ACalls Try.prog 17 [.vsl (bs.map rU) cb] F fun r H' =>
    ∃ t cl, ∃ l : List Line, ∃ cl', r = .tup [aTree t cl, .vsl (l.map rLine) cl'] ∧ H' = F ∧ shortNames t ∧ t.length ≤ 8 ∧ l.length ≤ 24 := by
  refine acalls_of1 Try.func17 rfl (by kernel_rfl) rfl rfl (awp_sound (fz := fun _ => []) (im := fun _ => false) mixed _ _ _ _ (by kernel_rfl) ?_)
  simp +contextual -dsimp -implicitDefEqProofs (maxSteps := 5000000) only [go_sem, reduceIte, reduceCtorEq, Nat.reduceEqDiff, Nat.reduceBEq, Nat.reduceAdd, Nat.reduceLeDiff, Nat.reduceMul, Nat.reduceLT, Int.reduceEq, Int.reduceLT, Int.reduceLE]
  rintro b2 h2
  refine (c_newReader bs cb _).mono ?_
  rintro _ H' ⟨br, rfl, hR⟩
  obtain ⟨K1, hK1, rfl⟩ := rd_to hR
  have f4 : ∀ K2, (F.set b2 K2) br = none := by
    have q := hR; obtain ⟨_, _, _, _, _, q, _⟩ := q
    rw [set_none] at q
    intro K2; rw [set_none]; exact q
  have q1 := f4 ⟨1, 0, []⟩
  rw [set_none] at q1
  obtain ⟨u1, u2, hr⟩ := q1
  simp +contextual -dsimp -implicitDefEqProofs (maxSteps := 5000000) only [go_sem, reduceIte, reduceCtorEq, Nat.reduceEqDiff, Nat.reduceBEq, Nat.reduceAdd, Nat.reduceLeDiff, Nat.reduceMul, Nat.reduceLT, Int.reduceEq, Int.reduceLT, Int.reduceLE]
  refine (c_someProgram _ br 0 K1 hK1 (f4 _) (by omega)).mono ?_
  rintro _ _ ⟨t, cl, l, cl', K2, rfl, rfl, hK2, ht8, hs, hl⟩
  simp +contextual -dsimp -implicitDefEqProofs (maxSteps := 5000000) only [go_sem, reduceIte, reduceCtorEq, Nat.reduceEqDiff, Nat.reduceBEq, Nat.reduceAdd, Nat.reduceLeDiff, Nat.reduceMul, Nat.reduceLT, Int.reduceEq, Int.reduceLT, Int.reduceLE, u1, u2]
  refine retR_less (l := [aTree t cl, .vsl (l.map rLine) cl']) (H' := F) ?_ (le_s1 (le_s1 (AHeap.le_refl _) h2) hr) ⟨t, cl, l, cl', rfl, rfl, hs, ht8, hl⟩
  simp only [resA, go_sem, reduceIte, reduceCtorEq, Nat.reduceEqDiff, Nat.reduceBEq, Nat.reduceAdd, Nat.reduceLeDiff, Nat.reduceMul, Nat.reduceLT, Int.reduceEq, Int.reduceLT, Int.reduceLE, u1, u2]
theorem c_LawLowerWith (bs : List UInt8) (cb : Bool) (H : AHeap) : ACalls Try.prog 5 [.vsl (bs.map rU) cb] H fun r H' => r = B true ∧ H' = H := by
  have eqv : ∀ l : List Line, decide (l = l) = true := fun l => by simp
  refine acalls_of1 Try.func5 rfl (by kernel_rfl) rfl rfl (awp_sound (fz := fun r => if r = 3 then [3] else if r = 8 then [9] else if r = 9 then [10] else []) (im := fun _ => false) mixed _ _ _ _ (by kernel_rfl) ?_)
  simp +contextual -dsimp -implicitDefEqProofs (maxSteps := 5000000) only [go_sem, reduceIte, reduceCtorEq, Nat.reduceEqDiff, Nat.reduceBEq, Nat.reduceAdd, Nat.reduceLeDiff, Nat.reduceMul, Nat.reduceLT, Int.reduceEq, Int.reduceLT, Int.reduceLE]
  refine ⟨fun hbig => ?_, fun hsmall => ?_⟩
  · refine retR_less (l := [B true]) (H' := H) ?_ (AHeap.le_refl _) ⟨rfl, rfl⟩
    simp only [resA, go_sem, reduceIte, reduceCtorEq, Nat.reduceEqDiff, Nat.reduceBEq, Nat.reduceAdd, Nat.reduceLeDiff, Nat.reduceMul, Nat.reduceLT, Int.reduceEq, Int.reduceLT, Int.reduceLE]
  refine (c_DrawLowerWith H bs cb).mono ?_
  rintro _ H1 ⟨t, cl, p, cl', rfl, hH, hs, ht8, hl8⟩
  rw [hH]
  have hn := short_ok hs
  have hp : p.length ≤ 4398046511104 := by omega
  simp +contextual -dsimp -implicitDefEqProofs (maxSteps := 5000000) only [go_sem, reduceIte, reduceCtorEq, Nat.reduceEqDiff, Nat.reduceBEq, Nat.reduceAdd, Nat.reduceLeDiff, Nat.reduceMul, Nat.reduceLT, Int.reduceEq, Int.reduceLT, Int.reduceLE]
  intro b3 hb3
  refine (c_mLowerWith t cl p cl' _ hn hp).mono ?_
  rintro _ H ⟨⟨c1, rfl⟩, rfl⟩
  simp +contextual -dsimp -implicitDefEqProofs (maxSteps := 5000000) only [go_sem, reduceIte, reduceCtorEq, Nat.reduceEqDiff, Nat.reduceBEq, Nat.reduceAdd, Nat.reduceLeDiff, Nat.reduceMul, Nat.reduceLT, Int.reduceEq, Int.reduceLT, Int.reduceLE]
  refine (c_sLowerWith t cl p cl' _ hn hp).mono ?_
  rintro _ H ⟨⟨c2, rfl⟩, rfl⟩
  simp +contextual -dsimp -implicitDefEqProofs (maxSteps := 5000000) only [go_sem, reduceIte, reduceCtorEq, Nat.reduceEqDiff, Nat.reduceBEq, Nat.reduceAdd, Nat.reduceLeDiff, Nat.reduceMul, Nat.reduceLT, Int.reduceEq, Int.reduceLT, Int.reduceLE]
  refine (c_equalLines _ _ _ _ _).det ?_
  rw [eqv]
  cases hb : lowB t p
  · simp +contextual -dsimp -implicitDefEqProofs (maxSteps := 5000000) only [go_sem, reduceIte, reduceCtorEq, Nat.reduceEqDiff, Nat.reduceBEq, Nat.reduceAdd, Nat.reduceLeDiff, Nat.reduceMul, Nat.reduceLT, Int.reduceEq, Int.reduceLT, Int.reduceLE]
    refine (c_equalLines _ _ _ _ _).det ?_
    rw [eqv]
    simp +contextual -dsimp -implicitDefEqProofs (maxSteps := 5000000) only [go_sem, reduceIte, reduceCtorEq, Nat.reduceEqDiff, Nat.reduceBEq, Nat.reduceAdd, Nat.reduceLeDiff, Nat.reduceMul, Nat.reduceLT, Int.reduceEq, Int.reduceLT, Int.reduceLE]
    refine retR_less (l := [B true]) (H' := H) ?_ (AHeap.le_refl _) ⟨rfl, rfl⟩
    simp only [resA, go_sem, reduceIte, reduceCtorEq, Nat.reduceEqDiff, Nat.reduceBEq, Nat.reduceAdd, Nat.reduceLeDiff, Nat.reduceMul, Nat.reduceLT, Int.reduceEq, Int.reduceLT, Int.reduceLE]
  · have hb2 := hb
    unfold lowB at hb2
    rw [Bool.and_eq_true] at hb2
    have hv := validB_true.1 hb2.1
    have hv2 := validB_true.1 hb2.2
    have hll := lowP_len hv
    have elo : lowR t p = lowP p := by unfold lowR madeF; rw [if_pos hb2.1, if_pos hb2.2]
    rw [elo]
    obtain ⟨g1, g2, g3, g4⟩ := low_res (low_law hv)
    have k1 := own_frz (c_mRunProgram t cl p cl' H hn hp)
    rw [if_pos hb2.1] at k1
    have k2 := own_frz (c_mRunProgram t cl (lowP p) c1 H hn (by omega))
    rw [if_pos hb2.2] at k2
    have hl1 := res_len hv
    have hl2 := res_len hv2
    generalize resOf (runP t p) = R1 at hl1 k1 g1 g2 g3 g4 ⊢
    generalize resOf (runP t (lowP p)) = R2 at hl2 k2 g1 g2 g3 g4 ⊢
    simp +contextual -dsimp -implicitDefEqProofs (maxSteps := 5000000) only [go_sem, reduceIte, reduceCtorEq, Nat.reduceEqDiff, Nat.reduceBEq, Nat.reduceAdd, Nat.reduceLeDiff, Nat.reduceMul, Nat.reduceLT, Int.reduceEq, Int.reduceLT, Int.reduceLE]
    refine k1.mono ?_
    rintro _ H ⟨⟨c3, c4, rfl⟩, rfl⟩
    simp +contextual -dsimp -implicitDefEqProofs (maxSteps := 5000000) only [go_sem, reduceIte, reduceCtorEq, Nat.reduceEqDiff, Nat.reduceBEq, Nat.reduceAdd, Nat.reduceLeDiff, Nat.reduceMul, Nat.reduceLT, Int.reduceEq, Int.reduceLT, Int.reduceLE]
    intro b9 hb9
    refine k2.mono ?_
    rintro _ H ⟨⟨c5, c6, rfl⟩, rfl⟩
    simp +contextual -dsimp -implicitDefEqProofs (maxSteps := 5000000) only [go_sem, reduceIte, reduceCtorEq, Nat.reduceEqDiff, Nat.reduceBEq, Nat.reduceAdd, Nat.reduceLeDiff, Nat.reduceMul, Nat.reduceLT, Int.reduceEq, Int.reduceLT, Int.reduceLE]
    intro b10 hb10
    refine aloop mixed (fz := fun r => if r = 3 then [3] else if r = 8 then [9] else if r = 9 then [10] else []) (im := fun _ => false) (by kernel_rfl) (fun m tm H' => ∃ k : Nat, m = (lowP p).length - k ∧ k ≤ (lowP p).length ∧ H' = H ∧ tm 5 = aProg (lowP p) c1 ∧ tm 9 = .vptr [[.vsl (R1.log.map rI) c3, I R1.ed, I R1.val, .vsl (R1.heap.map rFault) c4]] 0 0 ∧ tm 10 = .vptr [[.vsl (R2.log.map rI) c5, I R2.ed, I R2.val, .vsl (R2.heap.map rFault) c6]] 0 0 ∧ tm 11 = I k) (lowP p).length ⟨0, by omega, by omega, rfl, ?_⟩ ?_
    · simp +contextual -dsimp -implicitDefEqProofs (maxSteps := 5000000) only [go_sem, reduceIte, reduceCtorEq, Nat.reduceEqDiff, Nat.reduceBEq, Nat.reduceAdd, Nat.reduceLeDiff, Nat.reduceMul, Nat.reduceLT, Int.reduceEq, Int.reduceLT, Int.reduceLE]
    · rintro m tm H ⟨k, rfl, hk, rfl, t5, t9, t10, t11⟩
      by_cases hlt : k < (lowP p).length
      · have hno := lower_no (forestP p) 0 ((lowP p).getD k default) (by show _ ∈ lowP p; rw [List.getD_eq_getElem?_getD, List.getElem?_eq_getElem hlt]; exact List.getElem_mem hlt)
        simp +contextual -dsimp -implicitDefEqProofs (maxSteps := 5000000) only [go_sem, reduceIte, reduceCtorEq, Nat.reduceEqDiff, Nat.reduceBEq, Nat.reduceAdd, Nat.reduceLeDiff, Nat.reduceMul, Nat.reduceLT, Int.reduceEq, Int.reduceLT, Int.reduceLE, t5, t9, t10, t11, hlt]
        exact ⟨fun q => absurd q hno, fun _ => ⟨_, by omega, k + 1, rfl, hlt, I_wrap (by omega) (by omega) (by omega)⟩⟩
      · simp +contextual -dsimp -implicitDefEqProofs (maxSteps := 5000000) only [go_sem, reduceIte, reduceCtorEq, Nat.reduceEqDiff, Nat.reduceBEq, Nat.reduceAdd, Nat.reduceLeDiff, Nat.reduceMul, Nat.reduceLT, Int.reduceEq, Int.reduceLT, Int.reduceLE, t5, t9, t10, t11, hlt]
        refine draw_intro [0, 0, 3, 0, 1, 2, 2, 0, 0, 0, 0, 0, 0, 0, 0, 0, 0, 0, 0, 0, 0, 0, 0, 0, 0, 0, 2, 0, 0] AHeap.none (by kernel_rfl) none_le ?_
        simp +contextual -dsimp -implicitDefEqProofs (maxSteps := 5000000) only [go_sem, reduceIte, reduceCtorEq, Nat.reduceEqDiff, Nat.reduceBEq, Nat.reduceAdd, Nat.reduceLeDiff, Nat.reduceMul, Nat.reduceLT, Int.reduceEq, Int.reduceLT, Int.reduceLE, t5, t9, t10, t11, hlt]
        refine acalls_frz (c_lowDigits R2.log c5 _ (by omega)) fun d1 => ?_
        simp +contextual -dsimp -implicitDefEqProofs (maxSteps := 5000000) only [go_sem, reduceIte, reduceCtorEq, Nat.reduceEqDiff, Nat.reduceBEq, Nat.reduceAdd, Nat.reduceLeDiff, Nat.reduceMul, Nat.reduceLT, Int.reduceEq, Int.reduceLT, Int.reduceLE, t5, t9, t10, t11, hlt]
        refine acalls_frz (c_lowDigits R1.log c3 _ (by omega)) fun d2 => ?_
        simp +contextual -dsimp -implicitDefEqProofs (maxSteps := 5000000) only [go_sem, reduceIte, reduceCtorEq, Nat.reduceEqDiff, Nat.reduceBEq, Nat.reduceAdd, Nat.reduceLeDiff, Nat.reduceMul, Nat.reduceLT, Int.reduceEq, Int.reduceLT, Int.reduceLE, t5, t9, t10, t11, hlt]
        refine (c_equalInts _ _ _ _ _).det ?_
        rw [g4, decide_eq_true (rfl : lowDig R1.log = lowDig R1.log)]
        simp +contextual -dsimp -implicitDefEqProofs (maxSteps := 5000000) only [go_sem, reduceIte, reduceCtorEq, Nat.reduceEqDiff, Nat.reduceBEq, Nat.reduceAdd, Nat.reduceLeDiff, Nat.reduceMul, Nat.reduceLT, Int.reduceEq, Int.reduceLT, Int.reduceLE, t5, t9, t10, t11, hlt, g1, g2]
        refine (c_equalHeap _ _ _ _ _).det ?_
        rw [g3, decide_eq_true (rfl : R1.heap = R1.heap)]
        simp +contextual -dsimp -implicitDefEqProofs (maxSteps := 5000000) only [go_sem, reduceIte, reduceCtorEq, Nat.reduceEqDiff, Nat.reduceBEq, Nat.reduceAdd, Nat.reduceLeDiff, Nat.reduceMul, Nat.reduceLT, Int.reduceEq, Int.reduceLT, Int.reduceLE, t5, t9, t10, t11, hlt]
        refine retR_less (l := [B true]) (H' := H) ?_ (AHeap.le_refl _) ⟨rfl, rfl⟩
        simp only [resA, go_sem, reduceIte, reduceCtorEq, Nat.reduceEqDiff, Nat.reduceBEq, Nat.reduceAdd, Nat.reduceLeDiff, Nat.reduceMul, Nat.reduceLT, Int.reduceEq, Int.reduceLT, Int.reduceLE]
end Go.Proofs.Ytbjgilehnlpmaaa
end
