/- The law FnCloseExitsCalls answers true at every input. No condition. -/
import Derived.Test.YtihjbbiajggcoaaP1
section
set_option linter.unusedVariables false
set_option linter.unusedSimpArgs false
namespace Go.Proofs.Ytihjbbiajggcoaa
open Go Go.Sim
set_option maxRecDepth 100000
attribute [local go_sem ↓] aw_skip aw_ret aw_exit aw_region aw_draw aw_seq aw_block aw_loop aw_cond frz_nil frz_cons sq_normal sq_ret sq_exit exB_normal exB_ret exB_same exB_other retQ_ret retQ_normal ret0_ret ret0_normal ao_nil go1 g_move g_assign g_pick g_build g_load g_binOp g_unOp g_convert g_fieldAddr g_field g_indexAddr g_index g_extract g_slice g_nilCheck g_len g_makeFunc h_call h_append h_alloc h_box h_buildSlice h_makeSlice h_store gV i_box i_buildSlice i_move i_assign i_build i_load i_binOp i_unOp i_convert i_fieldAddr i_field i_indexAddr i_index i_extract i_slice i_nilCheck i_makeFunc i_len i_max i_min i_alloc i_makeSlice i_store i_append i_call i_pick boxI boxA buildSliceI buildSliceA makeSliceA allocA storeA p_move p_assign p_pick p_build p_load p_binOp p_unOp p_convert p_fieldAddr p_field p_indexAddr p_index p_extract p_slice p_nilCheck p_makeFunc p_len p_max p_min p_alloc p_box p_buildSlice p_makeSlice p_store p_append p_call x_nil x_go1 x_g0 x_g1 x_g2 x_g3 x_s0 x_s1 x_s2 x_s3 u_move u_assign u_pick u_build u_load u_binOp u_unOp u_convert u_fieldAddr u_field u_indexAddr u_index u_extract u_slice u_nilCheck u_makeFunc u_len u_buildSlice
attribute [local go_sem] frzV_ptr frzV_sl frzK_some set_none set_other AHeap.set_self set_del set_set cnd_t cnd_f cnd_b retA_one retA_two retA_three retA_four retA_nil gIf_b mrgV_b mrgV_wh mrgV_U gIf_U gIf_wh mrgB_f mrgB_some mrgB_if wh_true wh_false keepA_some keepA_if gD_zero gD_succ gT_some bxA_t bxA_f callA_fn ev_tmp ev_const ev_global ev_func oc_bool oc_int oc_string oc_nil oc_nilptr oc_nilfunc cl_bool cl_int cl_string cl_nil updO_some updO_none upd_same upd_other init_at pickA_b pickA_wh selA_t selA_f selA_and selA_or selA_orn selA_orm selA_bb selA_ii beqt b_add b_sub b_mul b_and b_or b_xor b_eql b_neq b_lss b_leq b_gtr b_geq b_quo b_rem b_shr b_seql b_sneq b_sadd b_beql b_bneq b_aeql b_aneq u_not u_neg isConstOp eqA eqCellV List.getD_cons_zero List.getD_cons_succ List.map_cons List.map_nil List.nil_append List.cons_append List.append_nil if_true if_false Option.map_some Option.map_none ne_eq not_false_eq_true oneA ldv ld1v ld1s wr1s ldRow stRow row_lit row_agg row_vsl row_sl row_ptr row_fn one_I one_B one_S one_vsl one_sl one_ptr one_fn extractA okA rI rS rU rClass rFault rExit rStart rLine Int.toNat_natCast List.length_cons List.length_nil List.length_map List.all_cons List.all_nil Bool.and_true Nat.zero_add List.getElem?_cons_zero List.getElem?_cons_succ List.take_succ_cons List.take_zero List.drop_succ_cons List.drop_zero and_self true_and and_true implies_true decide_eq_true_eq decide_eq_false_iff_not Bool.or_eq_true Bool.or_eq_false_iff Bool.and_eq_true Bool.not_eq_true' Bool.not_eq_false' beq_false decide_true decide_false Int.ofNat_lt Int.ofNat_le Int.natCast_nonneg Bool.or_true Bool.or_false Bool.true_or Bool.false_or beq_self_eq_true List.drop_one Bool.not_true Bool.not_false Bool.not_not Bool.false_eq_true Bool.true_eq_false false_implies true_implies Bool.true_and Bool.false_and Bool.and_false not_true_eq_false Int.natCast_eq_zero Int.natCast_pos Int.natCast_zero false_and and_false or_false false_or or_true true_or Bool.or_self none_le_iff List.replicate_zero Int.toNat_zero List.replicate_succ buildRows List.set_cons_zero List.set_cons_succ List.set_nil List.mapM_nil maxLen_eq Nat.zero_le Nat.mul_one Nat.one_mul bldA fillA spliceA List.take_nil List.drop_nil List.getElem?_nil ld1o wr1o bldSliceA le_same ti1 ti2 tk2 ti3 te3 ts3 tk3 tz3 ti4 tb4 ti5 tk5 tz5 ti9 te9 ts9 tk9 tz9 ti12 tk12 ti13 tp13 tf13_0 tf13_1 ti20 ti21 tk21 tz21 ti22 te22 tz22 ti23 te23 ti24 tp24 tf24_0 ti25 tp25 tf25_0 ti26 te26 ti27 tq27 tp27 tf27_0 tf27_1 tf27_2 ti28 tq28 tp28 tf28_0 tf28_1 tf28_2 ti30 ti31 te31 ti32 te32 ti33 tp33 tf33_0 ti34 tp34 tf34_0 ti35 tp35 tf35_0 tf35_1 tf35_2 tf35_3 ti36 tp36 tf36_0 tf36_1 tf36_2 tf36_3 ti37 ti38 ti39 ti40 tq40 tp40 tf40_0 tf40_1 tf40_2 ti41 tq41 tp41 tf41_0 tf41_1 tf41_2 ti42 ti43 ti44 ti45 ti47 ti48 ti49 ti50 ti51 ti52 ti53 ti54 ti55 tp55 tf55_0 tf55_1 ti56 tp56 tf56_0 tf56_1 ti57 ti58 ti59 ti60 ti61 ti62 ti63 ti64 ti65 ti66 ti67 tq67 tp67 tf67_0 tf67_1 ti68 tq68 tp68 tf68_0 tf68_1 ti69 tq69 tp69 tf69_0 tf69_1 tf69_2 tf69_3 tf69_4 ti70 tq70 tp70 tf70_0 tf70_1 tf70_2 tf70_3 tf70_4 ti71 ti72 tp72 tf72_0 tf72_1 tf72_2 ti73 tp73 tf73_0 tf73_1 tf73_2 ti74 ti75 ti77 ti78 tq78 tp78 tf78_0 tf78_1 ti79 tq79 tp79 tf79_0 tf79_1 ti80 ti81 ti82 ti83 ti84 ti85 te85 ti86 ti87 te87 ti88 tp88 tf88_0 tf88_1 tf88_2 tf88_3 tf88_4 ti89 tp89 tf89_0 tf89_1 tf89_2 tf89_3 tf89_4 ti90 ti91 ti92 ti93 ti94 ti95 ti96 ti97 ti98 ti99 ti100 ti101 ti102 ti103 ti104 ti105 ti106 ti107 ti108 ti109 ti110 ti111 ti112 ti113 ti114 ti115 ti116 tk116 tz116 ti117 ti118 tk118 ti120 ti121 ti122 ti124 ti125 ti126 tk126 tz126 ti127 ti128 tk128 tz128 ti129 tk129 ti130 ti131 ti132 ti133 ti134 ti135 ti137 ti138 ti144 ti148 ti153 ti154 tq154 tp154 tf154_0 tf154_1 tf154_2 tf154_3 ti155 tq155 tp155 tf155_0 tf155_1 tf155_2 tf155_3 ti157 fp13_0 fv13_0 fp13_1 fv13_1 fp24_0 fv24_0 fp25_0 fv25_0 fp27_0 fv27_0 fp27_1 fv27_1 fp27_2 fv27_2 fp28_0 fv28_0 fp28_1 fv28_1 fp28_2 fv28_2 fp33_0 fv33_0 fp34_0 fv34_0 fp35_0 fv35_0 fp35_1 fv35_1 fp35_2 fv35_2 fp35_3 fv35_3 fp36_0 fv36_0 fp36_1 fv36_1 fp36_2 fv36_2 fp36_3 fv36_3 fp40_0 fv40_0 fp40_1 fv40_1 fp40_2 fv40_2 fp41_0 fv41_0 fp41_1 fv41_1 fp41_2 fv41_2 fp55_0 fv55_0 fp55_1 fv55_1 fp56_0 fv56_0 fp56_1 fv56_1 fp67_0 fv67_0 fp67_1 fv67_1 fp68_0 fv68_0 fp68_1 fv68_1 fp69_0 fv69_0 fp69_1 fv69_1 fp69_2 fv69_2 fp69_3 fv69_3 fp69_4 fv69_4 fp70_0 fv70_0 fp70_1 fv70_1 fp70_2 fv70_2 fp70_3 fv70_3 fp70_4 fv70_4 fp72_0 fv72_0 fp72_1 fv72_1 fp72_2 fv72_2 fp73_0 fv73_0 fp73_1 fv73_1 fp73_2 fv73_2 fp78_0 fv78_0 fp78_1 fv78_1 fp79_0 fv79_0 fp79_1 fv79_1 fp88_0 fv88_0 fp88_1 fv88_1 fp88_2 fv88_2 fp88_3 fv88_3 fp88_4 fv88_4 fp89_0 fv89_0 fp89_1 fv89_1 fp89_2 fv89_2 fp89_3 fv89_3 fp89_4 fv89_4 fp154_0 fv154_0 fp154_1 fv154_1 fp154_2 fv154_2 fp154_3 fv154_3 fp155_0 fv155_0 fp155_1 fv155_1 fp155_2 fv155_2 fp155_3 fv155_3 lv22 ll22 is22 ix22 sh22 so22 sb22 sm22 sp22 lv23 ll23 is23 ix23 sh23 so23 sb23 sm23 sp23 lv26 ll26 is26 ix26 sh26 so26 sb26 sm26 sp26 lv31 ll31 is31 ix31 sh31 so31 sb31 sm31 sp31 lv32 ll32 is32 ix32 sh32 so32 sb32 sm32 sp32 lv85 ll85 is85 ix85 sh85 so85 sb85 sm85 sp85 lv87 ll87 is87 ix87 sh87 so87 sb87 sm87 sp87 xs9 ls9 sx9 sy9 sz9

/-- The machine, beside other blocks 'F'. -/
def Mach (F H : AHeap) (bm : Nat) (t p : AV) (log : List Int) (fs : List Fault) (first : Int) : Prop :=
  ∃ (xl xf : AV) (H1 H2 : AHeap), F bm = none ∧ Grow rI 1 3 F H1 xl log ∧ Grow rFault 5 70 H1 H2 xf fs ∧ H2 bm = none ∧ H = H2.set bm ⟨5, 89, [[t, p, xl, xf, I first]]⟩
theorem one_grow {α : Type} {f : α → List AV} {sz : Nat} {ty : TypeId} {H0 H : AHeap} {x : AV} {l : List α} (hg : Grow f sz ty H0 H x l) : x.row = [x] ∧ x.one = true := by
  rcases hg with ⟨rfl, rfl, rfl⟩ | ⟨b, cl, hb, rfl, rfl⟩ <;> exact ⟨rfl, rfl⟩
theorem c_heapRaise (F H : AHeap) (bm : Nat) (t p : AV) (log : List Int) (fs : List Fault) (first : Int) (cls code : Int) (hM : Mach F H bm t p log fs first) (hl : fs.length < 1000000) :
    ACalls Try.prog 64 [.ptr bm 5 0 3, I cls, I code] H fun r H' => r = I fs.length ∧ Mach F H' bm t p log (fs ++ [⟨cls, code, -1, -1, false⟩]) first := by
  obtain ⟨xl, xf, H1, H2, hF, hg1, hg2, hb, rfl⟩ := hM
  have hH1 : H1 bm = none := by
    cases h : H1 bm with
    | none => rfl
    | some k => rw [grow_le hg2 bm k h] at hb; cases hb
  refine acalls_of0 Try.func64 rfl (by kernel_rfl) rfl rfl (awp_sound (fz := fun _ => []) (im := fun s => s == 15) mixed _ _ _ _ (by kernel_rfl) ?_)
  simp +contextual -dsimp -implicitDefEqProofs (maxSteps := 5000000) only [go_sem, reduceIte, reduceCtorEq, Nat.reduceEqDiff, Nat.reduceBEq, Nat.reduceAdd, Nat.reduceLeDiff, Nat.reduceMul, Nat.reduceLT, Int.reduceEq, Int.reduceLT, Int.reduceLE]
  refine grow_append (m := [⟨cls, code, -1, -1, false⟩]) te32 ti70 rFault_len (by decide) (grow_in hg2 hb) (by simp; omega) (by simp; omega) rfl fun x' H' hg' => ?_
  obtain ⟨H2', hg'', rfl, hb'⟩ := grow_out hg' hH1
  obtain ⟨r1, r2⟩ := one_grow hg''
  have hn := grow_len te32 hg''
  simp +contextual -dsimp -implicitDefEqProofs (maxSteps := 5000000) only [go_sem, reduceIte, reduceCtorEq, Nat.reduceEqDiff, Nat.reduceBEq, Nat.reduceAdd, Nat.reduceLeDiff, Nat.reduceMul, Nat.reduceLT, Int.reduceEq, Int.reduceLT, Int.reduceLE, r1, r2, hn]
  exact ⟨I_wrap (by simp) (by omega) (by omega), xl, x', H1, H2', hF, hg1, hg'', hb', rfl⟩

/-- Heaps as machines make them: contexts are older. -/
def heapOk (h : List Fault) : Prop := ∀ k, k < h.length → (h.getD k default).cause = -1 ∧ -1 ≤ (h.getD k default).ctx ∧ (h.getD k default).ctx < k
theorem walkG_mem {nx : Int → Int} {p : Int → Prop} (hp : ∀ a, 0 ≤ a → p a → p (nx a)) : ∀ (n : Nat) (out : List Int) (f : Int), p f → ∀ a, a ∈ walkG nx n out f → a ∈ out ∨ (0 ≤ a ∧ p a)
  | 0, out, f, _, a, ha => .inl ha
  | n + 1, out, f, hf, a, ha => by
    simp only [walkG] at ha
    split at ha
    · rename_i hc
      rcases walkG_mem hp n _ _ (hp f hc.1 hf) a ha with h | h
      · simp only [List.mem_append, List.mem_singleton] at h
        rcases h with h | rfl
        · exact .inl h
        · exact .inr ⟨hc.1, hf⟩
      · exact .inr h
    · exact .inl ha
theorem chainF_mem {h : List Fault} (ho : heapOk h) {g : Int} (hg : g < h.length) {a : Int} (ha : a ∈ chainF h g) : 0 ≤ a ∧ a ≤ g := by
  have hp : ∀ a : Int, 0 ≤ a → a ≤ g → ctxOf h a ≤ g := by
    intro a h0 h1
    have := ho a.toNat (by omega)
    unfold ctxOf
    omega
  rcases walkG_mem hp _ [] g (Int.le_refl g) a ha with h | h
  · cases h
  · exact h
theorem chainF_ne {h : List Fault} {g : Int} (h0 : 0 ≤ g) : chainF h g ≠ [] := by
  unfold chainF walkF
  have key : ∀ (n : Nat) (out : List Int) (f : Int), out ≠ [] → walkG (ctxOf h) n out f ≠ [] := by
    intro n
    induction n with
    | zero => intro out f h; exact h
    | succ n ih =>
      intro out f h
      simp only [walkG]
      split
      · exact ih _ _ (by simp)
      · exact h
  simp only [walkG]
  rw [if_pos ⟨h0, by simp⟩]
  exact key _ _ _ (by simp)

theorem c_while (F H : AHeap) (bm : Nat) (t p : AV) (log : List Int) (fs : List Fault) (first : Int) (f g : Int) (hM : Mach F H bm t p log fs first) (hl : fs.length < 1000000) (ho : heapOk fs) (hf : f = fs.length - 1) (hg0 : 0 ≤ g) (hg : g < f) :
    ACalls Try.prog 65 [.ptr bm 5 0 3, I f, I g] H fun r H' => r = .tup [] ∧ Mach F H' bm t p log (fs.set f.toNat { fs.getD f.toNat default with ctx := g }) first := by
  obtain ⟨xl, xf, H1, H2, hF, hg1, hg2, hb, rfl⟩ := hM
  obtain ⟨cl0, hz⟩ := grow_froz (grow_in (c := bm) (K := ⟨5, 89, [[t, p, xl, xf, I first]]⟩) hg2 hb)
  refine acalls_of0 Try.func65 rfl (by kernel_rfl) rfl rfl (awp_sound (fz := fun _ => []) (im := fun _ => false) mixed _ _ _ _ (by kernel_rfl) ?_)
  have hfg : ¬ f = g := by omega
  simp +contextual -dsimp -implicitDefEqProofs (maxSteps := 5000000) only [go_sem, reduceIte, reduceCtorEq, Nat.reduceEqDiff, Nat.reduceBEq, Nat.reduceAdd, Nat.reduceLeDiff, Nat.reduceMul, Nat.reduceLT, Int.reduceEq, Int.reduceLT, Int.reduceLE, hfg]
  refine acalls_frz (acalls_borrowG [.agg [.vsl (fs.map rFault) cl0], I g] (.cons (.agg rfl ?_) (.cons (.same _) .nil)) (c_contexts fs cl0 g _ (by omega) (by omega) ?_) (fun x => rfl) (chainF_ne hg0) fun r H' h => h) fun cl => ?_
  · intro i c c' h1 h2
    cases i with
    | zero => simp at h1 h2; subst h1; subst h2; exact hz
    | succ i => simp at h1
  · intro k hk; have := ho k hk; omega
  · simp +contextual -dsimp -implicitDefEqProofs (maxSteps := 5000000) only [go_sem, reduceIte, reduceCtorEq, Nat.reduceEqDiff, Nat.reduceBEq, Nat.reduceAdd, Nat.reduceLeDiff, Nat.reduceMul, Nat.reduceLT, Int.reduceEq, Int.reduceLT, Int.reduceLE]
    rcases hg2 with ⟨e, _, _⟩ | ⟨bf, clf, hbf, rfl, rfl⟩
    · rw [e] at hf; simp at hf; omega
    have hb' := hb
    rw [set_none] at hb'
    obtain ⟨n1, n2, hH1⟩ := hb'
    have hbK : ((H1.set bf ⟨5, 70, fs.map rFault⟩).set bm ⟨5, 89, [[t, p, xl, .sl bf 5 0 fs.length clf, I first]]⟩) bf = some ⟨5, 70, fs.map rFault⟩ := by
      rw [set_other n2, AHeap.set_self]
    generalize hHH : (H1.set bf ⟨5, 70, fs.map rFault⟩).set bm ⟨5, 89, [[t, p, xl, .sl bf 5 0 fs.length clf, I first]]⟩ = HH at hbK ⊢
    have hld : ∀ (t : TypeId) (i j : Nat), ldA Try.prog HH t (.ptr bf 5 i j) = if i < fs.length then ldRow Try.prog t (rFault (fs.getD i default)) j else none := fun t i j => ldp hbK
    have hlm : ∀ (t' : TypeId) (j : Nat), ldA Try.prog HH t' (.ptr bm 5 0 j) = ldRow Try.prog t' [t, p, xl, .sl bf 5 0 fs.length clf, I first] j := fun t' j => by rw [← hHH]; exact ld1s
    have hmem := fun a => @chainF_mem fs ho g (by omega) a
    generalize chainF fs g = L at hmem ⊢
    refine sim_len (t := 15) rfl fun hlen => ?_
    rw [List.length_map] at hlen
    refine aloop mixed (fz := fun _ => []) (im := fun _ => false) (by kernel_rfl) (fun m tm H' => ∃ k : Nat, m = L.length - k ∧ k ≤ L.length ∧ H' = HH ∧ tm 0 = .ptr bm 5 0 3 ∧ tm 1 = I f ∧ tm 2 = I g ∧ tm 15 = .vsl (L.map rI) cl ∧ tm 16 = I L.length ∧ tm 17 = I k) L.length ⟨0, ?_⟩ ?_
    · simp +contextual -dsimp -implicitDefEqProofs (maxSteps := 5000000) only [go_sem, reduceIte, reduceCtorEq, Nat.reduceEqDiff, Nat.reduceBEq, Nat.reduceAdd, Nat.reduceLeDiff, Nat.reduceMul, Nat.reduceLT, Int.reduceEq, Int.reduceLT, Int.reduceLE]
      simp
    · rintro m tm _ ⟨k, rfl, hk, rfl, h0, h1, h2, h15, h16, h17⟩
      simp +contextual -dsimp -implicitDefEqProofs (maxSteps := 5000000) only [go_sem, reduceIte, reduceCtorEq, Nat.reduceEqDiff, Nat.reduceBEq, Nat.reduceAdd, Nat.reduceLeDiff, Nat.reduceMul, Nat.reduceLT, Int.reduceEq, Int.reduceLT, Int.reduceLE, h0, h1, h2, h15, h16, h17, hld, hlm]
      refine ⟨fun h => ?_, fun h => ⟨by omega, ?_⟩⟩
      · have hx := hmem (L.getD k default) (by rw [List.getD_eq_getElem?_getD, List.getElem?_eq_getElem h]; exact List.getElem_mem h)
        have hc := ho (L.getD k default).toNat (by omega)
        exact ⟨by omega, by omega, fun q => by omega, fun _ => ⟨_, by omega, k + 1, rfl, h, I_wrap (by omega) (by omega) (by omega)⟩⟩
      · rw [wrP hbK (y := { fs.getD f.toNat default with ctx := g }) (by omega) rfl]
        refine ⟨xl, .sl bf 5 0 fs.length clf, H1, H1.set bf ⟨5, 70, (fs.set f.toNat { fs.getD f.toNat default with ctx := g }).map rFault⟩, hF, hg1, .inr ⟨bf, clf, hbf, by rw [List.length_set], rfl⟩, ?_, ?_⟩
        · rw [set_other n1]; exact hH1
        · rw [← hHH, set_comm n1, set_set]

theorem heapOk_snoc {fs : List Fault} (h : heapOk fs) {x : Fault} (h1 : x.cause = -1) (h2 : -1 ≤ x.ctx) (h3 : x.ctx < fs.length) : heapOk (fs ++ [x]) := by
  intro k hk
  rcases Nat.lt_or_ge k fs.length with q | q
  · have e : (fs ++ [x]).getD k default = fs.getD k default := by
      rw [List.getD_eq_getElem?_getD, List.getD_eq_getElem?_getD, List.getElem?_append_left q]
    rw [e]; exact h k q
  · have : k = fs.length := by simp at hk; omega
    subst this
    have e : (fs ++ [x]).getD fs.length default = x := by simp [List.getD_eq_getElem?_getD]
    rw [e]; exact ⟨h1, h2, h3⟩
theorem heapOk_nil : heapOk [] := fun k hk => by simp at hk
/-- A new fault, raised while another one is handled, if there is one. -/
def raiseF (fs : List Fault) (cls code g : Int) : List Fault := fs ++ [⟨cls, code, -1, if 0 ≤ g then g else -1, false⟩]
theorem raiseF_ok {fs : List Fault} (h : heapOk fs) {cls code g : Int} (hg : g < fs.length) : heapOk (raiseF fs cls code g) := by
  refine heapOk_snoc h rfl ?_ ?_ <;> (simp only; split <;> omega)
theorem raiseF_len {fs : List Fault} {cls code g : Int} : (raiseF fs cls code g).length = fs.length + 1 := by simp [raiseF]
theorem c_raise (F H : AHeap) (bm : Nat) (t p : AV) (log : List Int) (fs : List Fault) (first : Int) (cls code g : Int) (hM : Mach F H bm t p log fs first) (hl : fs.length < 999999) (ho : heapOk fs) (hg : g < fs.length) :
    ACalls Try.prog 46 [.ptr bm 5 0 0, I cls, I code, I g] H fun r H' => r = I fs.length ∧ Mach F H' bm t p log (raiseF fs cls code g) first := by
  refine acalls_of0 Try.func46 rfl (by kernel_rfl) rfl rfl (awp_sound (fz := fun _ => []) (im := fun _ => false) mixed _ _ _ _ (by kernel_rfl) ?_)
  simp +contextual -dsimp -implicitDefEqProofs (maxSteps := 5000000) only [go_sem, reduceIte, reduceCtorEq, Nat.reduceEqDiff, Nat.reduceBEq, Nat.reduceAdd, Nat.reduceLeDiff, Nat.reduceMul, Nat.reduceLT, Int.reduceEq, Int.reduceLT, Int.reduceLE]
  refine (c_heapRaise F H bm t p log fs first cls code hM (by omega)).mono ?_
  rintro _ H' ⟨rfl, hM'⟩
  by_cases h0 : 0 ≤ g
  · simp +contextual -dsimp -implicitDefEqProofs (maxSteps := 5000000) only [go_sem, reduceIte, reduceCtorEq, Nat.reduceEqDiff, Nat.reduceBEq, Nat.reduceAdd, Nat.reduceLeDiff, Nat.reduceMul, Nat.reduceLT, Int.reduceEq, Int.reduceLT, Int.reduceLE, h0]
    refine (c_while F H' bm t p log _ first fs.length g hM' (by simp; omega) (heapOk_snoc ho rfl (by simp) (by simp; omega)) (by simp) h0 hg).mono ?_
    rintro _ H'' ⟨rfl, hM''⟩
    simp +contextual -dsimp -implicitDefEqProofs (maxSteps := 5000000) only [go_sem, reduceIte, reduceCtorEq, Nat.reduceEqDiff, Nat.reduceBEq, Nat.reduceAdd, Nat.reduceLeDiff, Nat.reduceMul, Nat.reduceLT, Int.reduceEq, Int.reduceLT, Int.reduceLE, h0]
    have e : (fs ++ [(⟨cls, code, -1, -1, false⟩ : Fault)]).set ((fs.length : Int)).toNat { (fs ++ [(⟨cls, code, -1, -1, false⟩ : Fault)]).getD ((fs.length : Int)).toNat default with ctx := g } = raiseF fs cls code g := by
      simp [raiseF, h0, List.getD_eq_getElem?_getD]
    rw [e] at hM''
    exact hM''
  · simp +contextual -dsimp -implicitDefEqProofs (maxSteps := 5000000) only [go_sem, reduceIte, reduceCtorEq, Nat.reduceEqDiff, Nat.reduceBEq, Nat.reduceAdd, Nat.reduceLeDiff, Nat.reduceMul, Nat.reduceLT, Int.reduceEq, Int.reduceLT, Int.reduceLE, h0]
    have e : fs ++ [(⟨cls, code, -1, -1, false⟩ : Fault)] = raiseF fs cls code g := by simp [raiseF, h0]
    rw [← e]; exact hM'
end Go.Proofs.Ytihjbbiajggcoaa
end
section
set_option linter.unusedVariables false
set_option linter.unusedSimpArgs false
namespace Go.Proofs.Ytihjbbiajggcoaa
open Go Go.Sim
set_option maxRecDepth 100000
attribute [local go_sem ↓] aw_skip aw_ret aw_exit aw_region aw_draw aw_seq aw_block aw_loop aw_cond frz_nil frz_cons sq_normal sq_ret sq_exit exB_normal exB_ret exB_same exB_other retQ_ret retQ_normal ret0_ret ret0_normal ao_nil go1 g_move g_assign g_pick g_build g_load g_binOp g_unOp g_convert g_fieldAddr g_field g_indexAddr g_index g_extract g_slice g_nilCheck g_len g_makeFunc h_call h_append h_alloc h_box h_buildSlice h_makeSlice h_store gV i_box i_buildSlice i_move i_assign i_build i_load i_binOp i_unOp i_convert i_fieldAddr i_field i_indexAddr i_index i_extract i_slice i_nilCheck i_makeFunc i_len i_max i_min i_alloc i_makeSlice i_store i_append i_call i_pick boxI boxA buildSliceI buildSliceA makeSliceA allocA storeA p_move p_assign p_pick p_build p_load p_binOp p_unOp p_convert p_fieldAddr p_field p_indexAddr p_index p_extract p_slice p_nilCheck p_makeFunc p_len p_max p_min p_alloc p_box p_buildSlice p_makeSlice p_store p_append p_call x_nil x_go1 x_g0 x_g1 x_g2 x_g3 x_s0 x_s1 x_s2 x_s3 u_move u_assign u_pick u_build u_load u_binOp u_unOp u_convert u_fieldAddr u_field u_indexAddr u_index u_extract u_slice u_nilCheck u_makeFunc u_len u_buildSlice
attribute [local go_sem] frzV_ptr frzV_sl frzK_some set_none set_other AHeap.set_self set_del set_set cnd_t cnd_f cnd_b retA_one retA_two retA_three retA_four retA_nil gIf_b mrgV_b mrgV_wh mrgV_U gIf_U gIf_wh mrgB_f mrgB_some mrgB_if wh_true wh_false keepA_some keepA_if gD_zero gD_succ gT_some bxA_t bxA_f callA_fn ev_tmp ev_const ev_global ev_func oc_bool oc_int oc_string oc_nil oc_nilptr oc_nilfunc cl_bool cl_int cl_string cl_nil updO_some updO_none upd_same upd_other init_at pickA_b pickA_wh selA_t selA_f selA_and selA_or selA_orn selA_orm selA_bb selA_ii beqt b_add b_sub b_mul b_and b_or b_xor b_eql b_neq b_lss b_leq b_gtr b_geq b_quo b_rem b_shr b_seql b_sneq b_sadd b_beql b_bneq b_aeql b_aneq u_not u_neg isConstOp eqA eqCellV List.getD_cons_zero List.getD_cons_succ List.map_cons List.map_nil List.nil_append List.cons_append List.append_nil if_true if_false Option.map_some Option.map_none ne_eq not_false_eq_true oneA ldv ld1v ld1s wr1s ldRow stRow row_lit row_agg row_vsl row_sl row_ptr row_fn one_I one_B one_S one_vsl one_sl one_ptr one_fn extractA okA rI rS rU rClass rFault rExit rStart rLine Int.toNat_natCast List.length_cons List.length_nil List.length_map List.all_cons List.all_nil Bool.and_true Nat.zero_add List.getElem?_cons_zero List.getElem?_cons_succ List.take_succ_cons List.take_zero List.drop_succ_cons List.drop_zero and_self true_and and_true implies_true decide_eq_true_eq decide_eq_false_iff_not Bool.or_eq_true Bool.or_eq_false_iff Bool.and_eq_true Bool.not_eq_true' Bool.not_eq_false' beq_false decide_true decide_false Int.ofNat_lt Int.ofNat_le Int.natCast_nonneg Bool.or_true Bool.or_false Bool.true_or Bool.false_or beq_self_eq_true List.drop_one Bool.not_true Bool.not_false Bool.not_not Bool.false_eq_true Bool.true_eq_false false_implies true_implies Bool.true_and Bool.false_and Bool.and_false not_true_eq_false Int.natCast_eq_zero Int.natCast_pos Int.natCast_zero false_and and_false or_false false_or or_true true_or Bool.or_self none_le_iff List.replicate_zero Int.toNat_zero List.replicate_succ buildRows List.set_cons_zero List.set_cons_succ List.set_nil List.mapM_nil maxLen_eq Nat.zero_le Nat.mul_one Nat.one_mul bldA fillA spliceA List.take_nil List.drop_nil List.getElem?_nil ld1o wr1o bldSliceA le_same ti1 ti2 tk2 ti3 te3 ts3 tk3 tz3 ti4 tb4 ti5 tk5 tz5 ti9 te9 ts9 tk9 tz9 ti12 tk12 ti13 tp13 tf13_0 tf13_1 ti20 ti21 tk21 tz21 ti22 te22 tz22 ti23 te23 ti24 tp24 tf24_0 ti25 tp25 tf25_0 ti26 te26 ti27 tq27 tp27 tf27_0 tf27_1 tf27_2 ti28 tq28 tp28 tf28_0 tf28_1 tf28_2 ti30 ti31 te31 ti32 te32 ti33 tp33 tf33_0 ti34 tp34 tf34_0 ti35 tp35 tf35_0 tf35_1 tf35_2 tf35_3 ti36 tp36 tf36_0 tf36_1 tf36_2 tf36_3 ti37 ti38 ti39 ti40 tq40 tp40 tf40_0 tf40_1 tf40_2 ti41 tq41 tp41 tf41_0 tf41_1 tf41_2 ti42 ti43 ti44 ti45 ti47 ti48 ti49 ti50 ti51 ti52 ti53 ti54 ti55 tp55 tf55_0 tf55_1 ti56 tp56 tf56_0 tf56_1 ti57 ti58 ti59 ti60 ti61 ti62 ti63 ti64 ti65 ti66 ti67 tq67 tp67 tf67_0 tf67_1 ti68 tq68 tp68 tf68_0 tf68_1 ti69 tq69 tp69 tf69_0 tf69_1 tf69_2 tf69_3 tf69_4 ti70 tq70 tp70 tf70_0 tf70_1 tf70_2 tf70_3 tf70_4 ti71 ti72 tp72 tf72_0 tf72_1 tf72_2 ti73 tp73 tf73_0 tf73_1 tf73_2 ti74 ti75 ti77 ti78 tq78 tp78 tf78_0 tf78_1 ti79 tq79 tp79 tf79_0 tf79_1 ti80 ti81 ti82 ti83 ti84 ti85 te85 ti86 ti87 te87 ti88 tp88 tf88_0 tf88_1 tf88_2 tf88_3 tf88_4 ti89 tp89 tf89_0 tf89_1 tf89_2 tf89_3 tf89_4 ti90 ti91 ti92 ti93 ti94 ti95 ti96 ti97 ti98 ti99 ti100 ti101 ti102 ti103 ti104 ti105 ti106 ti107 ti108 ti109 ti110 ti111 ti112 ti113 ti114 ti115 ti116 tk116 tz116 ti117 ti118 tk118 ti120 ti121 ti122 ti124 ti125 ti126 tk126 tz126 ti127 ti128 tk128 tz128 ti129 tk129 ti130 ti131 ti132 ti133 ti134 ti135 ti137 ti138 ti144 ti148 ti153 ti154 tq154 tp154 tf154_0 tf154_1 tf154_2 tf154_3 ti155 tq155 tp155 tf155_0 tf155_1 tf155_2 tf155_3 ti157 fp13_0 fv13_0 fp13_1 fv13_1 fp24_0 fv24_0 fp25_0 fv25_0 fp27_0 fv27_0 fp27_1 fv27_1 fp27_2 fv27_2 fp28_0 fv28_0 fp28_1 fv28_1 fp28_2 fv28_2 fp33_0 fv33_0 fp34_0 fv34_0 fp35_0 fv35_0 fp35_1 fv35_1 fp35_2 fv35_2 fp35_3 fv35_3 fp36_0 fv36_0 fp36_1 fv36_1 fp36_2 fv36_2 fp36_3 fv36_3 fp40_0 fv40_0 fp40_1 fv40_1 fp40_2 fv40_2 fp41_0 fv41_0 fp41_1 fv41_1 fp41_2 fv41_2 fp55_0 fv55_0 fp55_1 fv55_1 fp56_0 fv56_0 fp56_1 fv56_1 fp67_0 fv67_0 fp67_1 fv67_1 fp68_0 fv68_0 fp68_1 fv68_1 fp69_0 fv69_0 fp69_1 fv69_1 fp69_2 fv69_2 fp69_3 fv69_3 fp69_4 fv69_4 fp70_0 fv70_0 fp70_1 fv70_1 fp70_2 fv70_2 fp70_3 fv70_3 fp70_4 fv70_4 fp72_0 fv72_0 fp72_1 fv72_1 fp72_2 fv72_2 fp73_0 fv73_0 fp73_1 fv73_1 fp73_2 fv73_2 fp78_0 fv78_0 fp78_1 fv78_1 fp79_0 fv79_0 fp79_1 fv79_1 fp88_0 fv88_0 fp88_1 fv88_1 fp88_2 fv88_2 fp88_3 fv88_3 fp88_4 fv88_4 fp89_0 fv89_0 fp89_1 fv89_1 fp89_2 fv89_2 fp89_3 fv89_3 fp89_4 fv89_4 fp154_0 fv154_0 fp154_1 fv154_1 fp154_2 fv154_2 fp154_3 fv154_3 fp155_0 fv155_0 fp155_1 fv155_1 fp155_2 fv155_2 fp155_3 fv155_3 lv22 ll22 is22 ix22 sh22 so22 sb22 sm22 sp22 lv23 ll23 is23 ix23 sh23 so23 sb23 sm23 sp23 lv26 ll26 is26 ix26 sh26 so26 sb26 sm26 sp26 lv31 ll31 is31 ix31 sh31 so31 sb31 sm31 sp31 lv32 ll32 is32 ix32 sh32 so32 sb32 sm32 sp32 lv85 ll85 is85 ix85 sh85 so85 sb85 sm85 sp85 lv87 ll87 is87 ix87 sh87 so87 sb87 sm87 sp87 xs9 ls9 sx9 sy9 sz9

theorem c_machineOf (t : List Class) (cl : Bool) (F : AHeap) (es : List (List AV)) (cl' : Bool) : ACalls Try.prog 31 [aTree t cl, .vsl es cl'] F fun r H' => ∃ bm, r = .ptr bm 5 0 0 ∧ Mach F H' bm (.vsl (t.map rClass) cl) (.vsl es cl') [] [] (-1) := by
  refine acalls_of0 Try.func31 rfl (by kernel_rfl) rfl rfl (awp_sound (fz := fun _ => []) (im := fun s => s == 2) mixed _ _ _ _ (by kernel_rfl) ?_)
  simp +contextual -dsimp -implicitDefEqProofs (maxSteps := 5000000) only [go_sem, reduceIte, reduceCtorEq, Nat.reduceEqDiff, Nat.reduceBEq, Nat.reduceAdd, Nat.reduceLeDiff, Nat.reduceMul, Nat.reduceLT, Int.reduceEq, Int.reduceLT, Int.reduceLE]
  intro b hb
  exact ⟨b, rfl, .vsl [] true, .vsl [] true, F, F, hb, grow_nil, grow_nil, hb, rfl⟩
end Go.Proofs.Ytihjbbiajggcoaa
end
section
set_option linter.unusedVariables false
set_option linter.unusedSimpArgs false
namespace Go.Proofs.Ytihjbbiajggcoaa
open Go Go.Sim
set_option maxRecDepth 100000
attribute [local go_sem ↓] aw_skip aw_ret aw_exit aw_region aw_draw aw_seq aw_block aw_loop aw_cond frz_nil frz_cons sq_normal sq_ret sq_exit exB_normal exB_ret exB_same exB_other retQ_ret retQ_normal ret0_ret ret0_normal ao_nil go1 g_move g_assign g_pick g_build g_load g_binOp g_unOp g_convert g_fieldAddr g_field g_indexAddr g_index g_extract g_slice g_nilCheck g_len g_makeFunc h_call h_append h_alloc h_box h_buildSlice h_makeSlice h_store gV i_box i_buildSlice i_move i_assign i_build i_load i_binOp i_unOp i_convert i_fieldAddr i_field i_indexAddr i_index i_extract i_slice i_nilCheck i_makeFunc i_len i_max i_min i_alloc i_makeSlice i_store i_append i_call i_pick boxI boxA buildSliceI buildSliceA makeSliceA allocA storeA p_move p_assign p_pick p_build p_load p_binOp p_unOp p_convert p_fieldAddr p_field p_indexAddr p_index p_extract p_slice p_nilCheck p_makeFunc p_len p_max p_min p_alloc p_box p_buildSlice p_makeSlice p_store p_append p_call x_nil x_go1 x_g0 x_g1 x_g2 x_g3 x_s0 x_s1 x_s2 x_s3 u_move u_assign u_pick u_build u_load u_binOp u_unOp u_convert u_fieldAddr u_field u_indexAddr u_index u_extract u_slice u_nilCheck u_makeFunc u_len u_buildSlice
attribute [local go_sem] frzV_ptr frzV_sl frzK_some set_none set_other AHeap.set_self set_del set_set cnd_t cnd_f cnd_b retA_one retA_two retA_three retA_four retA_nil gIf_b mrgV_b mrgV_wh mrgV_U gIf_U gIf_wh mrgB_f mrgB_some mrgB_if wh_true wh_false keepA_some keepA_if gD_zero gD_succ gT_some bxA_t bxA_f callA_fn ev_tmp ev_const ev_global ev_func oc_bool oc_int oc_string oc_nil oc_nilptr oc_nilfunc cl_bool cl_int cl_string cl_nil updO_some updO_none upd_same upd_other init_at pickA_b pickA_wh selA_t selA_f selA_and selA_or selA_orn selA_orm selA_bb selA_ii beqt b_add b_sub b_mul b_and b_or b_xor b_eql b_neq b_lss b_leq b_gtr b_geq b_quo b_rem b_shr b_seql b_sneq b_sadd b_beql b_bneq b_aeql b_aneq u_not u_neg isConstOp eqA eqCellV List.getD_cons_zero List.getD_cons_succ List.map_cons List.map_nil List.nil_append List.cons_append List.append_nil if_true if_false Option.map_some Option.map_none ne_eq not_false_eq_true oneA ldv ld1v ld1s wr1s ldRow stRow row_lit row_agg row_vsl row_sl row_ptr row_fn one_I one_B one_S one_vsl one_sl one_ptr one_fn extractA okA rI rS rU rClass rFault rExit rStart rLine Int.toNat_natCast List.length_cons List.length_nil List.length_map List.all_cons List.all_nil Bool.and_true Nat.zero_add List.getElem?_cons_zero List.getElem?_cons_succ List.take_succ_cons List.take_zero List.drop_succ_cons List.drop_zero and_self true_and and_true implies_true decide_eq_true_eq decide_eq_false_iff_not Bool.or_eq_true Bool.or_eq_false_iff Bool.and_eq_true Bool.not_eq_true' Bool.not_eq_false' beq_false decide_true decide_false Int.ofNat_lt Int.ofNat_le Int.natCast_nonneg Bool.or_true Bool.or_false Bool.true_or Bool.false_or beq_self_eq_true List.drop_one Bool.not_true Bool.not_false Bool.not_not Bool.false_eq_true Bool.true_eq_false false_implies true_implies Bool.true_and Bool.false_and Bool.and_false not_true_eq_false Int.natCast_eq_zero Int.natCast_pos Int.natCast_zero false_and and_false or_false false_or or_true true_or Bool.or_self none_le_iff List.replicate_zero Int.toNat_zero List.replicate_succ buildRows List.set_cons_zero List.set_cons_succ List.set_nil List.mapM_nil maxLen_eq Nat.zero_le Nat.mul_one Nat.one_mul bldA fillA spliceA List.take_nil List.drop_nil List.getElem?_nil ld1o wr1o bldSliceA le_same ti1 ti2 tk2 ti3 te3 ts3 tk3 tz3 ti4 tb4 ti5 tk5 tz5 ti9 te9 ts9 tk9 tz9 ti12 tk12 ti13 tp13 tf13_0 tf13_1 ti20 ti21 tk21 tz21 ti22 te22 tz22 ti23 te23 ti24 tp24 tf24_0 ti25 tp25 tf25_0 ti26 te26 ti27 tq27 tp27 tf27_0 tf27_1 tf27_2 ti28 tq28 tp28 tf28_0 tf28_1 tf28_2 ti30 ti31 te31 ti32 te32 ti33 tp33 tf33_0 ti34 tp34 tf34_0 ti35 tp35 tf35_0 tf35_1 tf35_2 tf35_3 ti36 tp36 tf36_0 tf36_1 tf36_2 tf36_3 ti37 ti38 ti39 ti40 tq40 tp40 tf40_0 tf40_1 tf40_2 ti41 tq41 tp41 tf41_0 tf41_1 tf41_2 ti42 ti43 ti44 ti45 ti47 ti48 ti49 ti50 ti51 ti52 ti53 ti54 ti55 tp55 tf55_0 tf55_1 ti56 tp56 tf56_0 tf56_1 ti57 ti58 ti59 ti60 ti61 ti62 ti63 ti64 ti65 ti66 ti67 tq67 tp67 tf67_0 tf67_1 ti68 tq68 tp68 tf68_0 tf68_1 ti69 tq69 tp69 tf69_0 tf69_1 tf69_2 tf69_3 tf69_4 ti70 tq70 tp70 tf70_0 tf70_1 tf70_2 tf70_3 tf70_4 ti71 ti72 tp72 tf72_0 tf72_1 tf72_2 ti73 tp73 tf73_0 tf73_1 tf73_2 ti74 ti75 ti77 ti78 tq78 tp78 tf78_0 tf78_1 ti79 tq79 tp79 tf79_0 tf79_1 ti80 ti81 ti82 ti83 ti84 ti85 te85 ti86 ti87 te87 ti88 tp88 tf88_0 tf88_1 tf88_2 tf88_3 tf88_4 ti89 tp89 tf89_0 tf89_1 tf89_2 tf89_3 tf89_4 ti90 ti91 ti92 ti93 ti94 ti95 ti96 ti97 ti98 ti99 ti100 ti101 ti102 ti103 ti104 ti105 ti106 ti107 ti108 ti109 ti110 ti111 ti112 ti113 ti114 ti115 ti116 tk116 tz116 ti117 ti118 tk118 ti120 ti121 ti122 ti124 ti125 ti126 tk126 tz126 ti127 ti128 tk128 tz128 ti129 tk129 ti130 ti131 ti132 ti133 ti134 ti135 ti137 ti138 ti144 ti148 ti153 ti154 tq154 tp154 tf154_0 tf154_1 tf154_2 tf154_3 ti155 tq155 tp155 tf155_0 tf155_1 tf155_2 tf155_3 ti157 fp13_0 fv13_0 fp13_1 fv13_1 fp24_0 fv24_0 fp25_0 fv25_0 fp27_0 fv27_0 fp27_1 fv27_1 fp27_2 fv27_2 fp28_0 fv28_0 fp28_1 fv28_1 fp28_2 fv28_2 fp33_0 fv33_0 fp34_0 fv34_0 fp35_0 fv35_0 fp35_1 fv35_1 fp35_2 fv35_2 fp35_3 fv35_3 fp36_0 fv36_0 fp36_1 fv36_1 fp36_2 fv36_2 fp36_3 fv36_3 fp40_0 fv40_0 fp40_1 fv40_1 fp40_2 fv40_2 fp41_0 fv41_0 fp41_1 fv41_1 fp41_2 fv41_2 fp55_0 fv55_0 fp55_1 fv55_1 fp56_0 fv56_0 fp56_1 fv56_1 fp67_0 fv67_0 fp67_1 fv67_1 fp68_0 fv68_0 fp68_1 fv68_1 fp69_0 fv69_0 fp69_1 fv69_1 fp69_2 fv69_2 fp69_3 fv69_3 fp69_4 fv69_4 fp70_0 fv70_0 fp70_1 fv70_1 fp70_2 fv70_2 fp70_3 fv70_3 fp70_4 fv70_4 fp72_0 fv72_0 fp72_1 fv72_1 fp72_2 fv72_2 fp73_0 fv73_0 fp73_1 fv73_1 fp73_2 fv73_2 fp78_0 fv78_0 fp78_1 fv78_1 fp79_0 fv79_0 fp79_1 fv79_1 fp88_0 fv88_0 fp88_1 fv88_1 fp88_2 fv88_2 fp88_3 fv88_3 fp88_4 fv88_4 fp89_0 fv89_0 fp89_1 fv89_1 fp89_2 fv89_2 fp89_3 fv89_3 fp89_4 fv89_4 fp154_0 fv154_0 fp154_1 fv154_1 fp154_2 fv154_2 fp154_3 fv154_3 fp155_0 fv155_0 fp155_1 fv155_1 fp155_2 fv155_2 fp155_3 fv155_3 lv22 ll22 is22 ix22 sh22 so22 sb22 sm22 sp22 lv23 ll23 is23 ix23 sh23 so23 sb23 sm23 sp23 lv26 ll26 is26 ix26 sh26 so26 sb26 sm26 sp26 lv31 ll31 is31 ix31 sh31 so31 sb31 sm31 sp31 lv32 ll32 is32 ix32 sh32 so32 sb32 sm32 sp32 lv85 ll85 is85 ix85 sh85 so85 sb85 sm85 sp85 lv87 ll87 is87 ix87 sh87 so87 sb87 sm87 sp87 xs9 ls9 sx9 sy9 sz9

theorem c_copyHeap (h : List Fault) (cl : Bool) (H : AHeap) (hl : h.length ≤ 1000000) : ACalls Try.prog 73 [aHeap h cl] H fun r H' => ∃ x, r = .agg [x] ∧ Grow rFault 5 70 H H' x h := by
  refine acalls_of1 Try.func73 rfl (by kernel_rfl) rfl rfl (awp_sound (fz := fun _ => []) (im := fun s => s == 1 || s == 3) mixed _ _ _ _ (by kernel_rfl) ?_)
  simp +contextual -dsimp -implicitDefEqProofs (maxSteps := 5000000) only [go_sem, reduceIte, reduceCtorEq, Nat.reduceEqDiff, Nat.reduceBEq, Nat.reduceAdd, Nat.reduceLeDiff, Nat.reduceMul, Nat.reduceLT, Int.reduceEq, Int.reduceLT, Int.reduceLE]
  intro b hb
  refine grow_append (l := []) (m := h) te32 ti70 rFault_len (by decide) (grow_nil (H := H.set b ⟨1, 34, [[.vsl [] true]]⟩)) (by simp; omega) (by simp; omega) rfl fun x' H' hg' => ?_
  obtain ⟨H2', hg'', rfl, hb'⟩ := grow_out hg' hb
  obtain ⟨r1, r2⟩ := one_grow hg''
  simp +contextual -dsimp -implicitDefEqProofs (maxSteps := 5000000) only [go_sem, reduceIte, reduceCtorEq, Nat.reduceEqDiff, Nat.reduceBEq, Nat.reduceAdd, Nat.reduceLeDiff, Nat.reduceMul, Nat.reduceLT, Int.reduceEq, Int.reduceLT, Int.reduceLE, r1, r2]
  refine retR_less (l := [.agg [x']]) (H' := H2') ?_ (le_set hb') ⟨x', rfl, by simpa using hg''⟩
  simp only [resA, upd_same, upd_other, ne_eq, Nat.reduceEqDiff, not_false_eq_true, updO_some, updO_none, ld1s, ldRow, go_sem, reduceIte, reduceCtorEq, Nat.reduceEqDiff, Nat.reduceBEq, Nat.reduceAdd, Nat.reduceLeDiff, Nat.reduceMul, Nat.reduceLT, Int.reduceEq, Int.reduceLT, Int.reduceLE]

theorem c_added0 (h : List Fault) (cl : Bool) (cls code : Int) (H : AHeap) (hl : h.length ≤ 999999) : ACalls Try.prog 55 [aHeap h cl, I cls, I code] H fun r H' => ∃ x, r = .agg [x] ∧ Grow rFault 5 70 H H' x (h ++ [⟨cls, code, -1, -1, false⟩]) := by
  refine acalls_of1 Try.func55 rfl (by kernel_rfl) rfl rfl (awp_sound (fz := fun _ => []) (im := fun s => s == 3 || s == 15) mixed _ _ _ _ (by kernel_rfl) ?_)
  simp +contextual -dsimp -implicitDefEqProofs (maxSteps := 5000000) only [go_sem, reduceIte, reduceCtorEq, Nat.reduceEqDiff, Nat.reduceBEq, Nat.reduceAdd, Nat.reduceLeDiff, Nat.reduceMul, Nat.reduceLT, Int.reduceEq, Int.reduceLT, Int.reduceLE]
  intro b6 hb6
  refine (c_copyHeap h cl _ (by omega)).mono ?_
  rintro _ H1 ⟨x, rfl, hg⟩
  obtain ⟨r1, r2⟩ := one_grow hg
  simp +contextual -dsimp -implicitDefEqProofs (maxSteps := 5000000) only [go_sem, reduceIte, reduceCtorEq, Nat.reduceEqDiff, Nat.reduceBEq, Nat.reduceAdd, Nat.reduceLeDiff, Nat.reduceMul, Nat.reduceLT, Int.reduceEq, Int.reduceLT, Int.reduceLE, r1, r2]
  intro b7 hb7
  refine grow_append (m := [⟨cls, code, -1, -1, false⟩]) te32 ti70 rFault_len (by decide) (grow_in hg hb7) (by simp; omega) (by simp; omega) rfl fun x' H' hg' => ?_
  have hb7' := grow_none hg hb7
  obtain ⟨H2, hg2, rfl, hn2⟩ := grow_out hg' hb7'
  obtain ⟨H3, hg3, rfl, hn3⟩ := grow_out hg2 hb6
  obtain ⟨r3, r4⟩ := one_grow hg3
  rw [set_none] at hb7' hn2
  obtain ⟨n1, n2, hH7⟩ := hb7'
  simp +contextual -dsimp -implicitDefEqProofs (maxSteps := 5000000) only [go_sem, reduceIte, reduceCtorEq, Nat.reduceEqDiff, Nat.reduceBEq, Nat.reduceAdd, Nat.reduceLeDiff, Nat.reduceMul, Nat.reduceLT, Int.reduceEq, Int.reduceLT, Int.reduceLE, r3, r4, n1, n2]
  refine retR_less (l := [.agg [x']]) (H' := H3) ?_ (fun c k hc => ?_) ⟨x', rfl, hg3⟩
  · simp only [resA, go_sem, reduceIte, reduceCtorEq, Nat.reduceEqDiff, Nat.reduceBEq, Nat.reduceAdd, Nat.reduceLeDiff, Nat.reduceMul, Nat.reduceLT, Int.reduceEq, Int.reduceLT, Int.reduceLE, n1, n2]
  · have c1 : c ≠ b6 := fun e => by rw [e, hn3] at hc; cases hc
    have c2 : c ≠ b7 := fun e => by rw [e, hn2.2.2] at hc; cases hc
    rw [set_other c2, set_other c1]; exact hc
theorem c_added (h : List Fault) (cl : Bool) (cls code : Int) (H : AHeap) (hl : h.length ≤ 999999) : ACalls Try.prog 55 [aHeap h cl, I cls, I code] H fun r H' => (∃ cl', r = aHeap (h ++ [⟨cls, code, -1, -1, false⟩]) cl') ∧ H' = H :=
  acalls_frzA (c_added0 h cl cls code H hl) fun cl' => ⟨⟨cl', rfl⟩, rfl⟩

def setCtx (fs : List Fault) (f g : Int) : List Fault := if 0 ≤ g then fs.set f.toNat { fs.getD f.toNat default with ctx := g } else fs
theorem c_raised0 (fs : List Fault) (cl : Bool) (f g : Int) (H : AHeap) (hl : fs.length ≤ 999999) (ho : heapOk fs) (hf : f = fs.length - 1) (hg : g < f) : ACalls Try.prog 56 [aHeap fs cl, I f, I g] H fun r H' => ∃ x, r = .agg [x] ∧ Grow rFault 5 70 H H' x (setCtx fs f g) := by
  refine acalls_of1 Try.func56 rfl (by kernel_rfl) rfl rfl (awp_sound (fz := fun _ => []) (im := fun s => s == 3) mixed _ _ _ _ (by kernel_rfl) ?_)
  simp +contextual -dsimp -implicitDefEqProofs (maxSteps := 5000000) only [go_sem, reduceIte, reduceCtorEq, Nat.reduceEqDiff, Nat.reduceBEq, Nat.reduceAdd, Nat.reduceLeDiff, Nat.reduceMul, Nat.reduceLT, Int.reduceEq, Int.reduceLT, Int.reduceLE]
  intro b6 hb6
  refine (c_copyHeap fs cl _ (by omega)).mono ?_
  rintro _ H1 ⟨x, rfl, hgr⟩
  obtain ⟨r1, r2⟩ := one_grow hgr
  have hfg : ¬ f = g := by omega
  have fin : ∀ (x : AV) (l : List Fault) (b7 : Nat) (H2 : AHeap) (k6 k7 : ABlk), Grow rFault 5 70 H H2 x l → H2 b6 = none → H2 b7 = none → AHeap.le H2 ((H2.set b6 k6).set b7 k7) := by
    intro x l b7 H2 k6 k7 _ h6 h7 c k hc
    have c1 : c ≠ b6 := fun e => by rw [e, h6] at hc; cases hc
    have c2 : c ≠ b7 := fun e => by rw [e, h7] at hc; cases hc
    rw [set_other c2, set_other c1]; exact hc
  obtain ⟨H2, hgr2, rfl, hn6⟩ := grow_out hgr hb6
  by_cases h0 : g < 0
  · simp +contextual -dsimp -implicitDefEqProofs (maxSteps := 5000000) only [go_sem, reduceIte, reduceCtorEq, Nat.reduceEqDiff, Nat.reduceBEq, Nat.reduceAdd, Nat.reduceLeDiff, Nat.reduceMul, Nat.reduceLT, Int.reduceEq, Int.reduceLT, Int.reduceLE, r1, r2, hfg, h0]
    rintro b7 ⟨n1, n2, hn7⟩
    refine retR_less (l := [.agg [x]]) (H' := H2) ?_ (fin x _ b7 H2 _ _ hgr2 hn6 hn7) ⟨x, rfl, by rw [setCtx, if_neg (by omega)]; exact hgr2⟩
    simp only [resA, go_sem, reduceIte, reduceCtorEq, Nat.reduceEqDiff, Nat.reduceBEq, Nat.reduceAdd, Nat.reduceLeDiff, Nat.reduceMul, Nat.reduceLT, Int.reduceEq, Int.reduceLT, Int.reduceLE, n1, n2]
  · simp +contextual -dsimp -implicitDefEqProofs (maxSteps := 5000000) only [go_sem, reduceIte, reduceCtorEq, Nat.reduceEqDiff, Nat.reduceBEq, Nat.reduceAdd, Nat.reduceLeDiff, Nat.reduceMul, Nat.reduceLT, Int.reduceEq, Int.reduceLT, Int.reduceLE, r1, r2, hfg, h0]
    rintro b7 ⟨n1, n2, hn7⟩
    rcases hgr2 with ⟨e, _, _⟩ | ⟨bx, clx, hbx, rfl, rfl⟩
    · rw [e] at hf; simp at hf; omega
    have q6 := hn6
    have q7 := hn7
    rw [set_none] at q6 q7
    have hbK : (((H.set bx ⟨5, 70, fs.map rFault⟩).set b6 ⟨1, 34, [[.vsl [] true]]⟩).set b7 ⟨1, 34, [[.sl bx 5 0 fs.length clx]]⟩) bx = some ⟨5, 70, fs.map rFault⟩ := by
      rw [set_other q7.2.1, set_other q6.2.1, AHeap.set_self]
    generalize hHH : ((H.set bx ⟨5, 70, fs.map rFault⟩).set b6 ⟨1, 34, [[.vsl [] true]]⟩).set b7 ⟨1, 34, [[.sl bx 5 0 fs.length clx]]⟩ = HH at hbK ⊢
    have hld : ∀ (t : TypeId) (i j : Nat), ldA Try.prog HH t (.ptr bx 5 i j) = if i < fs.length then ldRow Try.prog t (rFault (fs.getD i default)) j else none := fun t i j => ldp hbK
    have hlm : ∀ (t' : TypeId) (j : Nat), ldA Try.prog HH t' (.ptr b7 1 0 j) = ldRow Try.prog t' [.sl bx 5 0 fs.length clx] j := fun t' j => by rw [← hHH]; exact ld1s
    refine aloop mixed (fz := fun _ => []) (im := fun s => s == 3) (by kernel_rfl) (fun m tm H' => ∃ c : Int, m = (c + 1).toNat ∧ 0 ≤ c ∧ c ≤ g ∧ H' = HH ∧ tm 1 = I f ∧ tm 2 = I g ∧ tm 6 = .ptr b6 1 0 0 ∧ tm 7 = .ptr b7 1 0 0 ∧ tm 8 = I c) (g + 1).toNat ⟨g, ?_⟩ ?_
    · simp +contextual -dsimp -implicitDefEqProofs (maxSteps := 5000000) only [go_sem, reduceIte, reduceCtorEq, Nat.reduceEqDiff, Nat.reduceBEq, Nat.reduceAdd, Nat.reduceLeDiff, Nat.reduceMul, Nat.reduceLT, Int.reduceEq, Int.reduceLT, Int.reduceLE]
      omega
    · rintro m tm H8 ⟨c, rfl, hc0, hcg, e8, h1, h2, h6, h7, h8⟩
      subst e8
      have hc := ho c.toNat (by omega)
      have hne : ¬ (fs.getD c.toNat default).ctx = f := by omega
      have i1 : c < fs.length := by omega
      have i2 : c.toNat < fs.length := by omega
      have i3 : 0 ≤ f := by omega
      have i4 : f < fs.length := by omega
      have hw : wrA H8 (.ptr bx 5 f.toNat 3) [.lit (.int .i64 g)] = some (((H.set bx ⟨5, 70, (setCtx fs f g).map rFault⟩).set b6 ⟨1, 34, [[.vsl [] true]]⟩).set b7 ⟨1, 34, [[.sl bx 5 0 fs.length clx]]⟩) := by
        rw [wrP hbK (y := { fs.getD f.toNat default with ctx := g }) (by omega) rfl, ← hHH, set_comm q7.1, set_comm q6.1, set_set, setCtx, if_pos (by omega)]
      simp +contextual -dsimp -implicitDefEqProofs (maxSteps := 5000000) only [go_sem, reduceIte, reduceCtorEq, Nat.reduceEqDiff, Nat.reduceBEq, Nat.reduceAdd, Nat.reduceLeDiff, Nat.reduceMul, Nat.reduceLT, Int.reduceEq, Int.reduceLT, Int.reduceLE, h1, h2, h6, h7, h8, hld, hlm, hne, i1, i2, i3, i4, hc0, hw, n1, n2]
      refine ⟨fun hp => ⟨_, ?_, _, rfl, hp, by omega, rfl⟩, fun hp => ?_⟩
      · omega
      · have e6 : (H.set bx ⟨5, 70, (setCtx fs f g).map rFault⟩) b6 = none := by rw [set_other q6.1]; exact q6.2.2
        have e7 : (H.set bx ⟨5, 70, (setCtx fs f g).map rFault⟩) b7 = none := by rw [set_other q7.1]; exact q7.2.2
        have hgr3 : Grow rFault 5 70 H (H.set bx ⟨5, 70, (setCtx fs f g).map rFault⟩) (.sl bx 5 0 fs.length clx) (setCtx fs f g) := .inr ⟨bx, clx, hbx, by rw [setCtx]; split <;> simp, rfl⟩
        refine retR_less (l := [.agg [.sl bx 5 0 fs.length clx]]) (H' := H.set bx ⟨5, 70, (setCtx fs f g).map rFault⟩) ?_ (fin _ _ b7 _ _ _ hgr3 e6 e7) ⟨_, rfl, hgr3⟩
        simp only [resA, go_sem, reduceIte, reduceCtorEq, Nat.reduceEqDiff, Nat.reduceBEq, Nat.reduceAdd, Nat.reduceLeDiff, Nat.reduceMul, Nat.reduceLT, Int.reduceEq, Int.reduceLT, Int.reduceLE, n1, n2, h6]
theorem c_raised (fs : List Fault) (cl : Bool) (f g : Int) (H : AHeap) (hl : fs.length ≤ 999999) (ho : heapOk fs) (hf : f = fs.length - 1) (hg : g < f) : ACalls Try.prog 56 [aHeap fs cl, I f, I g] H fun r H' => (∃ cl', r = aHeap (setCtx fs f g) cl') ∧ H' = H :=
  acalls_frzA (c_raised0 fs cl f g H hl ho hf hg) fun cl' => ⟨⟨cl', rfl⟩, rfl⟩
end Go.Proofs.Ytihjbbiajggcoaa
end
section
set_option linter.unusedVariables false
set_option linter.unusedSimpArgs false
namespace Go.Proofs.Ytihjbbiajggcoaa
open Go Go.Sim
set_option maxRecDepth 100000
attribute [local go_sem ↓] aw_skip aw_ret aw_exit aw_region aw_draw aw_seq aw_block aw_loop aw_cond frz_nil frz_cons sq_normal sq_ret sq_exit exB_normal exB_ret exB_same exB_other retQ_ret retQ_normal ret0_ret ret0_normal ao_nil go1 g_move g_assign g_pick g_build g_load g_binOp g_unOp g_convert g_fieldAddr g_field g_indexAddr g_index g_extract g_slice g_nilCheck g_len g_makeFunc h_call h_append h_alloc h_box h_buildSlice h_makeSlice h_store gV i_box i_buildSlice i_move i_assign i_build i_load i_binOp i_unOp i_convert i_fieldAddr i_field i_indexAddr i_index i_extract i_slice i_nilCheck i_makeFunc i_len i_max i_min i_alloc i_makeSlice i_store i_append i_call i_pick boxI boxA buildSliceI buildSliceA makeSliceA allocA storeA p_move p_assign p_pick p_build p_load p_binOp p_unOp p_convert p_fieldAddr p_field p_indexAddr p_index p_extract p_slice p_nilCheck p_makeFunc p_len p_max p_min p_alloc p_box p_buildSlice p_makeSlice p_store p_append p_call x_nil x_go1 x_g0 x_g1 x_g2 x_g3 x_s0 x_s1 x_s2 x_s3 u_move u_assign u_pick u_build u_load u_binOp u_unOp u_convert u_fieldAddr u_field u_indexAddr u_index u_extract u_slice u_nilCheck u_makeFunc u_len u_buildSlice
attribute [local go_sem] frzV_ptr frzV_sl frzK_some set_none set_other AHeap.set_self set_del set_set cnd_t cnd_f cnd_b retA_one retA_two retA_three retA_four retA_nil gIf_b mrgV_b mrgV_wh mrgV_U gIf_U gIf_wh mrgB_f mrgB_some mrgB_if wh_true wh_false keepA_some keepA_if gD_zero gD_succ gT_some bxA_t bxA_f callA_fn ev_tmp ev_const ev_global ev_func oc_bool oc_int oc_string oc_nil oc_nilptr oc_nilfunc cl_bool cl_int cl_string cl_nil updO_some updO_none upd_same upd_other init_at pickA_b pickA_wh selA_t selA_f selA_and selA_or selA_orn selA_orm selA_bb selA_ii beqt b_add b_sub b_mul b_and b_or b_xor b_eql b_neq b_lss b_leq b_gtr b_geq b_quo b_rem b_shr b_seql b_sneq b_sadd b_beql b_bneq b_aeql b_aneq u_not u_neg isConstOp eqA eqCellV List.getD_cons_zero List.getD_cons_succ List.map_cons List.map_nil List.nil_append List.cons_append List.append_nil if_true if_false Option.map_some Option.map_none ne_eq not_false_eq_true oneA ldv ld1v ld1s wr1s ldRow stRow row_lit row_agg row_vsl row_sl row_ptr row_fn one_I one_B one_S one_vsl one_sl one_ptr one_fn extractA okA rI rS rU rClass rFault rExit rStart rLine Int.toNat_natCast List.length_cons List.length_nil List.length_map List.all_cons List.all_nil Bool.and_true Nat.zero_add List.getElem?_cons_zero List.getElem?_cons_succ List.take_succ_cons List.take_zero List.drop_succ_cons List.drop_zero and_self true_and and_true implies_true decide_eq_true_eq decide_eq_false_iff_not Bool.or_eq_true Bool.or_eq_false_iff Bool.and_eq_true Bool.not_eq_true' Bool.not_eq_false' beq_false decide_true decide_false Int.ofNat_lt Int.ofNat_le Int.natCast_nonneg Bool.or_true Bool.or_false Bool.true_or Bool.false_or beq_self_eq_true List.drop_one Bool.not_true Bool.not_false Bool.not_not Bool.false_eq_true Bool.true_eq_false false_implies true_implies Bool.true_and Bool.false_and Bool.and_false not_true_eq_false Int.natCast_eq_zero Int.natCast_pos Int.natCast_zero false_and and_false or_false false_or or_true true_or Bool.or_self none_le_iff List.replicate_zero Int.toNat_zero List.replicate_succ buildRows List.set_cons_zero List.set_cons_succ List.set_nil List.mapM_nil maxLen_eq Nat.zero_le Nat.mul_one Nat.one_mul bldA fillA spliceA List.take_nil List.drop_nil List.getElem?_nil ld1o wr1o bldSliceA le_same ti1 ti2 tk2 ti3 te3 ts3 tk3 tz3 ti4 tb4 ti5 tk5 tz5 ti9 te9 ts9 tk9 tz9 ti12 tk12 ti13 tp13 tf13_0 tf13_1 ti20 ti21 tk21 tz21 ti22 te22 tz22 ti23 te23 ti24 tp24 tf24_0 ti25 tp25 tf25_0 ti26 te26 ti27 tq27 tp27 tf27_0 tf27_1 tf27_2 ti28 tq28 tp28 tf28_0 tf28_1 tf28_2 ti30 ti31 te31 ti32 te32 ti33 tp33 tf33_0 ti34 tp34 tf34_0 ti35 tp35 tf35_0 tf35_1 tf35_2 tf35_3 ti36 tp36 tf36_0 tf36_1 tf36_2 tf36_3 ti37 ti38 ti39 ti40 tq40 tp40 tf40_0 tf40_1 tf40_2 ti41 tq41 tp41 tf41_0 tf41_1 tf41_2 ti42 ti43 ti44 ti45 ti47 ti48 ti49 ti50 ti51 ti52 ti53 ti54 ti55 tp55 tf55_0 tf55_1 ti56 tp56 tf56_0 tf56_1 ti57 ti58 ti59 ti60 ti61 ti62 ti63 ti64 ti65 ti66 ti67 tq67 tp67 tf67_0 tf67_1 ti68 tq68 tp68 tf68_0 tf68_1 ti69 tq69 tp69 tf69_0 tf69_1 tf69_2 tf69_3 tf69_4 ti70 tq70 tp70 tf70_0 tf70_1 tf70_2 tf70_3 tf70_4 ti71 ti72 tp72 tf72_0 tf72_1 tf72_2 ti73 tp73 tf73_0 tf73_1 tf73_2 ti74 ti75 ti77 ti78 tq78 tp78 tf78_0 tf78_1 ti79 tq79 tp79 tf79_0 tf79_1 ti80 ti81 ti82 ti83 ti84 ti85 te85 ti86 ti87 te87 ti88 tp88 tf88_0 tf88_1 tf88_2 tf88_3 tf88_4 ti89 tp89 tf89_0 tf89_1 tf89_2 tf89_3 tf89_4 ti90 ti91 ti92 ti93 ti94 ti95 ti96 ti97 ti98 ti99 ti100 ti101 ti102 ti103 ti104 ti105 ti106 ti107 ti108 ti109 ti110 ti111 ti112 ti113 ti114 ti115 ti116 tk116 tz116 ti117 ti118 tk118 ti120 ti121 ti122 ti124 ti125 ti126 tk126 tz126 ti127 ti128 tk128 tz128 ti129 tk129 ti130 ti131 ti132 ti133 ti134 ti135 ti137 ti138 ti144 ti148 ti153 ti154 tq154 tp154 tf154_0 tf154_1 tf154_2 tf154_3 ti155 tq155 tp155 tf155_0 tf155_1 tf155_2 tf155_3 ti157 fp13_0 fv13_0 fp13_1 fv13_1 fp24_0 fv24_0 fp25_0 fv25_0 fp27_0 fv27_0 fp27_1 fv27_1 fp27_2 fv27_2 fp28_0 fv28_0 fp28_1 fv28_1 fp28_2 fv28_2 fp33_0 fv33_0 fp34_0 fv34_0 fp35_0 fv35_0 fp35_1 fv35_1 fp35_2 fv35_2 fp35_3 fv35_3 fp36_0 fv36_0 fp36_1 fv36_1 fp36_2 fv36_2 fp36_3 fv36_3 fp40_0 fv40_0 fp40_1 fv40_1 fp40_2 fv40_2 fp41_0 fv41_0 fp41_1 fv41_1 fp41_2 fv41_2 fp55_0 fv55_0 fp55_1 fv55_1 fp56_0 fv56_0 fp56_1 fv56_1 fp67_0 fv67_0 fp67_1 fv67_1 fp68_0 fv68_0 fp68_1 fv68_1 fp69_0 fv69_0 fp69_1 fv69_1 fp69_2 fv69_2 fp69_3 fv69_3 fp69_4 fv69_4 fp70_0 fv70_0 fp70_1 fv70_1 fp70_2 fv70_2 fp70_3 fv70_3 fp70_4 fv70_4 fp72_0 fv72_0 fp72_1 fv72_1 fp72_2 fv72_2 fp73_0 fv73_0 fp73_1 fv73_1 fp73_2 fv73_2 fp78_0 fv78_0 fp78_1 fv78_1 fp79_0 fv79_0 fp79_1 fv79_1 fp88_0 fv88_0 fp88_1 fv88_1 fp88_2 fv88_2 fp88_3 fv88_3 fp88_4 fv88_4 fp89_0 fv89_0 fp89_1 fv89_1 fp89_2 fv89_2 fp89_3 fv89_3 fp89_4 fv89_4 fp154_0 fv154_0 fp154_1 fv154_1 fp154_2 fv154_2 fp154_3 fv154_3 fp155_0 fv155_0 fp155_1 fv155_1 fp155_2 fv155_2 fp155_3 fv155_3 lv22 ll22 is22 ix22 sh22 so22 sb22 sm22 sp22 lv23 ll23 is23 ix23 sh23 so23 sb23 sm23 sp23 lv26 ll26 is26 ix26 sh26 so26 sb26 sm26 sp26 lv31 ll31 is31 ix31 sh31 so31 sb31 sm31 sp31 lv32 ll32 is32 ix32 sh32 so32 sb32 sm32 sp32 lv85 ll85 is85 ix85 sh85 so85 sb85 sm85 sp85 lv87 ll87 is87 ix87 sh87 so87 sb87 sm87 sp87 xs9 ls9 sx9 sy9 sz9

theorem setCtx_raise (h : List Fault) (cls code g : Int) : setCtx (h ++ [⟨cls, code, -1, -1, false⟩]) h.length g = raiseF h cls code g := by
  unfold setCtx raiseF
  split
  · simp [List.getD_eq_getElem?_getD]
  · rfl
theorem c_newFault (h : List Fault) (cl : Bool) (xl : AV) (g cls code : Int) (H : AHeap) (hx : xl.row = [xl] ∧ xl.one = true) (hl : h.length ≤ 999998) (ho : heapOk h) (hg : g < h.length) :
    ACalls Try.prog 36 [.agg [xl, .vsl (h.map rFault) cl, I g], I cls, I code] H fun r H' => (∃ cl', r = .agg [xl, .vsl ((raiseF h cls code g).map rFault) cl', I h.length]) ∧ H' = H := by
  obtain ⟨x1, x2⟩ := hx
  refine acalls_of1 Try.func36 rfl (by kernel_rfl) rfl rfl (awp_sound (fz := fun _ => []) (im := fun _ => false) mixed _ _ _ _ (by kernel_rfl) ?_)
  simp +contextual -dsimp -implicitDefEqProofs (maxSteps := 5000000) only [go_sem, reduceIte, reduceCtorEq, Nat.reduceEqDiff, Nat.reduceBEq, Nat.reduceAdd, Nat.reduceLeDiff, Nat.reduceMul, Nat.reduceLT, Int.reduceEq, Int.reduceLT, Int.reduceLE, x1, x2]
  rintro b3 hb3 b6 ⟨n1, n2, hb6⟩
  refine (c_added h cl cls code _ (by omega)).mono ?_
  rintro _ _ ⟨⟨cl1, rfl⟩, rfl⟩
  simp +contextual -dsimp -implicitDefEqProofs (maxSteps := 5000000) only [go_sem, reduceIte, reduceCtorEq, Nat.reduceEqDiff, Nat.reduceBEq, Nat.reduceAdd, Nat.reduceLeDiff, Nat.reduceMul, Nat.reduceLT, Int.reduceEq, Int.reduceLT, Int.reduceLE, x1, x2, n1, n2]
  have e1 : ((h ++ [(⟨cls, code, -1, -1, false⟩ : Fault)]).length : Int) - 1 = h.length := by simp
  rw [e1, w64 (by omega) (by omega)]
  refine (c_raised _ cl1 h.length g _ (by simp; omega) (heapOk_snoc ho rfl (by simp) (by simp; omega)) (by simp) hg).mono ?_
  rintro _ _ ⟨⟨cl2, rfl⟩, rfl⟩
  rw [setCtx_raise]
  simp +contextual -dsimp -implicitDefEqProofs (maxSteps := 5000000) only [go_sem, reduceIte, reduceCtorEq, Nat.reduceEqDiff, Nat.reduceBEq, Nat.reduceAdd, Nat.reduceLeDiff, Nat.reduceMul, Nat.reduceLT, Int.reduceEq, Int.reduceLT, Int.reduceLE, x1, x2, n1, n2, e1]
  refine retR_less (l := [.agg [xl, .vsl ((raiseF h cls code g).map rFault) cl2, I h.length]]) (H' := H) ?_ (fun c k hc => ?_) ⟨⟨cl2, rfl⟩, rfl⟩
  · simp only [resA, go_sem, reduceIte, reduceCtorEq, Nat.reduceEqDiff, Nat.reduceBEq, Nat.reduceAdd, Nat.reduceLeDiff, Nat.reduceMul, Nat.reduceLT, Int.reduceEq, Int.reduceLT, Int.reduceLE, n1, n2]
  · have c1 : c ≠ b3 := fun e => by rw [e, hb3] at hc; cases hc
    have c2 : c ≠ b6 := fun e => by rw [e, hb6] at hc; cases hc
    rw [set_other c2, set_other c1]; exact hc
end Go.Proofs.Ytihjbbiajggcoaa
end
section
set_option linter.unusedVariables false
set_option linter.unusedSimpArgs false
namespace Go.Proofs.Ytihjbbiajggcoaa
open Go Go.Sim
set_option maxRecDepth 100000
attribute [local go_sem ↓] aw_skip aw_ret aw_exit aw_region aw_draw aw_seq aw_block aw_loop aw_cond frz_nil frz_cons sq_normal sq_ret sq_exit exB_normal exB_ret exB_same exB_other retQ_ret retQ_normal ret0_ret ret0_normal ao_nil go1 g_move g_assign g_pick g_build g_load g_binOp g_unOp g_convert g_fieldAddr g_field g_indexAddr g_index g_extract g_slice g_nilCheck g_len g_makeFunc h_call h_append h_alloc h_box h_buildSlice h_makeSlice h_store gV i_box i_buildSlice i_move i_assign i_build i_load i_binOp i_unOp i_convert i_fieldAddr i_field i_indexAddr i_index i_extract i_slice i_nilCheck i_makeFunc i_len i_max i_min i_alloc i_makeSlice i_store i_append i_call i_pick boxI boxA buildSliceI buildSliceA makeSliceA allocA storeA p_move p_assign p_pick p_build p_load p_binOp p_unOp p_convert p_fieldAddr p_field p_indexAddr p_index p_extract p_slice p_nilCheck p_makeFunc p_len p_max p_min p_alloc p_box p_buildSlice p_makeSlice p_store p_append p_call x_nil x_go1 x_g0 x_g1 x_g2 x_g3 x_s0 x_s1 x_s2 x_s3 u_move u_assign u_pick u_build u_load u_binOp u_unOp u_convert u_fieldAddr u_field u_indexAddr u_index u_extract u_slice u_nilCheck u_makeFunc u_len u_buildSlice
attribute [local go_sem] frzV_ptr frzV_sl frzK_some set_none set_other AHeap.set_self set_del set_set cnd_t cnd_f cnd_b retA_one retA_two retA_three retA_four retA_nil gIf_b mrgV_b mrgV_wh mrgV_U gIf_U gIf_wh mrgB_f mrgB_some mrgB_if wh_true wh_false keepA_some keepA_if gD_zero gD_succ gT_some bxA_t bxA_f callA_fn ev_tmp ev_const ev_global ev_func oc_bool oc_int oc_string oc_nil oc_nilptr oc_nilfunc cl_bool cl_int cl_string cl_nil updO_some updO_none upd_same upd_other init_at pickA_b pickA_wh selA_t selA_f selA_and selA_or selA_orn selA_orm selA_bb selA_ii beqt b_add b_sub b_mul b_and b_or b_xor b_eql b_neq b_lss b_leq b_gtr b_geq b_quo b_rem b_shr b_seql b_sneq b_sadd b_beql b_bneq b_aeql b_aneq u_not u_neg isConstOp eqA eqCellV List.getD_cons_zero List.getD_cons_succ List.map_cons List.map_nil List.nil_append List.cons_append List.append_nil if_true if_false Option.map_some Option.map_none ne_eq not_false_eq_true oneA ldv ld1v ld1s wr1s ldRow stRow row_lit row_agg row_vsl row_sl row_ptr row_fn one_I one_B one_S one_vsl one_sl one_ptr one_fn extractA okA rI rS rU rClass rFault rExit rStart rLine Int.toNat_natCast List.length_cons List.length_nil List.length_map List.all_cons List.all_nil Bool.and_true Nat.zero_add List.getElem?_cons_zero List.getElem?_cons_succ List.take_succ_cons List.take_zero List.drop_succ_cons List.drop_zero and_self true_and and_true implies_true decide_eq_true_eq decide_eq_false_iff_not Bool.or_eq_true Bool.or_eq_false_iff Bool.and_eq_true Bool.not_eq_true' Bool.not_eq_false' beq_false decide_true decide_false Int.ofNat_lt Int.ofNat_le Int.natCast_nonneg Bool.or_true Bool.or_false Bool.true_or Bool.false_or beq_self_eq_true List.drop_one Bool.not_true Bool.not_false Bool.not_not Bool.false_eq_true Bool.true_eq_false false_implies true_implies Bool.true_and Bool.false_and Bool.and_false not_true_eq_false Int.natCast_eq_zero Int.natCast_pos Int.natCast_zero false_and and_false or_false false_or or_true true_or Bool.or_self none_le_iff List.replicate_zero Int.toNat_zero List.replicate_succ buildRows List.set_cons_zero List.set_cons_succ List.set_nil List.mapM_nil maxLen_eq Nat.zero_le Nat.mul_one Nat.one_mul bldA fillA spliceA List.take_nil List.drop_nil List.getElem?_nil ld1o wr1o bldSliceA le_same ti1 ti2 tk2 ti3 te3 ts3 tk3 tz3 ti4 tb4 ti5 tk5 tz5 ti9 te9 ts9 tk9 tz9 ti12 tk12 ti13 tp13 tf13_0 tf13_1 ti20 ti21 tk21 tz21 ti22 te22 tz22 ti23 te23 ti24 tp24 tf24_0 ti25 tp25 tf25_0 ti26 te26 ti27 tq27 tp27 tf27_0 tf27_1 tf27_2 ti28 tq28 tp28 tf28_0 tf28_1 tf28_2 ti30 ti31 te31 ti32 te32 ti33 tp33 tf33_0 ti34 tp34 tf34_0 ti35 tp35 tf35_0 tf35_1 tf35_2 tf35_3 ti36 tp36 tf36_0 tf36_1 tf36_2 tf36_3 ti37 ti38 ti39 ti40 tq40 tp40 tf40_0 tf40_1 tf40_2 ti41 tq41 tp41 tf41_0 tf41_1 tf41_2 ti42 ti43 ti44 ti45 ti47 ti48 ti49 ti50 ti51 ti52 ti53 ti54 ti55 tp55 tf55_0 tf55_1 ti56 tp56 tf56_0 tf56_1 ti57 ti58 ti59 ti60 ti61 ti62 ti63 ti64 ti65 ti66 ti67 tq67 tp67 tf67_0 tf67_1 ti68 tq68 tp68 tf68_0 tf68_1 ti69 tq69 tp69 tf69_0 tf69_1 tf69_2 tf69_3 tf69_4 ti70 tq70 tp70 tf70_0 tf70_1 tf70_2 tf70_3 tf70_4 ti71 ti72 tp72 tf72_0 tf72_1 tf72_2 ti73 tp73 tf73_0 tf73_1 tf73_2 ti74 ti75 ti77 ti78 tq78 tp78 tf78_0 tf78_1 ti79 tq79 tp79 tf79_0 tf79_1 ti80 ti81 ti82 ti83 ti84 ti85 te85 ti86 ti87 te87 ti88 tp88 tf88_0 tf88_1 tf88_2 tf88_3 tf88_4 ti89 tp89 tf89_0 tf89_1 tf89_2 tf89_3 tf89_4 ti90 ti91 ti92 ti93 ti94 ti95 ti96 ti97 ti98 ti99 ti100 ti101 ti102 ti103 ti104 ti105 ti106 ti107 ti108 ti109 ti110 ti111 ti112 ti113 ti114 ti115 ti116 tk116 tz116 ti117 ti118 tk118 ti120 ti121 ti122 ti124 ti125 ti126 tk126 tz126 ti127 ti128 tk128 tz128 ti129 tk129 ti130 ti131 ti132 ti133 ti134 ti135 ti137 ti138 ti144 ti148 ti153 ti154 tq154 tp154 tf154_0 tf154_1 tf154_2 tf154_3 ti155 tq155 tp155 tf155_0 tf155_1 tf155_2 tf155_3 ti157 fp13_0 fv13_0 fp13_1 fv13_1 fp24_0 fv24_0 fp25_0 fv25_0 fp27_0 fv27_0 fp27_1 fv27_1 fp27_2 fv27_2 fp28_0 fv28_0 fp28_1 fv28_1 fp28_2 fv28_2 fp33_0 fv33_0 fp34_0 fv34_0 fp35_0 fv35_0 fp35_1 fv35_1 fp35_2 fv35_2 fp35_3 fv35_3 fp36_0 fv36_0 fp36_1 fv36_1 fp36_2 fv36_2 fp36_3 fv36_3 fp40_0 fv40_0 fp40_1 fv40_1 fp40_2 fv40_2 fp41_0 fv41_0 fp41_1 fv41_1 fp41_2 fv41_2 fp55_0 fv55_0 fp55_1 fv55_1 fp56_0 fv56_0 fp56_1 fv56_1 fp67_0 fv67_0 fp67_1 fv67_1 fp68_0 fv68_0 fp68_1 fv68_1 fp69_0 fv69_0 fp69_1 fv69_1 fp69_2 fv69_2 fp69_3 fv69_3 fp69_4 fv69_4 fp70_0 fv70_0 fp70_1 fv70_1 fp70_2 fv70_2 fp70_3 fv70_3 fp70_4 fv70_4 fp72_0 fv72_0 fp72_1 fv72_1 fp72_2 fv72_2 fp73_0 fv73_0 fp73_1 fv73_1 fp73_2 fv73_2 fp78_0 fv78_0 fp78_1 fv78_1 fp79_0 fv79_0 fp79_1 fv79_1 fp88_0 fv88_0 fp88_1 fv88_1 fp88_2 fv88_2 fp88_3 fv88_3 fp88_4 fv88_4 fp89_0 fv89_0 fp89_1 fv89_1 fp89_2 fv89_2 fp89_3 fv89_3 fp89_4 fv89_4 fp154_0 fv154_0 fp154_1 fv154_1 fp154_2 fv154_2 fp154_3 fv154_3 fp155_0 fv155_0 fp155_1 fv155_1 fp155_2 fv155_2 fp155_3 fv155_3 lv22 ll22 is22 ix22 sh22 so22 sb22 sm22 sp22 lv23 ll23 is23 ix23 sh23 so23 sb23 sm23 sp23 lv26 ll26 is26 ix26 sh26 so26 sb26 sm26 sp26 lv31 ll31 is31 ix31 sh31 so31 sb31 sm31 sp31 lv32 ll32 is32 ix32 sh32 so32 sb32 sm32 sp32 lv85 ll85 is85 ix85 sh85 so85 sb85 sm85 sp85 lv87 ll87 is87 ix87 sh87 so87 sb87 sm87 sp87 xs9 ls9 sx9 sy9 sz9

theorem c_indexOf (l : List Int) (cl : Bool) (n : Int) (H : AHeap) : ACalls Try.prog 61 [.vsl (l.map rI) cl, I n] H fun r H' => r = I (idxF (fun x => decide (n = x)) l) ∧ H' = H := by
  refine acalls_len (by kernel_rfl) (List.mem_cons_self ..) fun hl => ?_
  rw [List.length_map] at hl
  refine acalls_of0 Try.func61 rfl (by kernel_rfl) rfl rfl (awp_sound (fz := fun _ => []) (im := fun _ => false) mixed _ _ _ _ (by kernel_rfl) ?_)
  simp +contextual -dsimp -implicitDefEqProofs (maxSteps := 5000000) only [go_sem, reduceIte, reduceCtorEq, Nat.reduceEqDiff, Nat.reduceBEq, Nat.reduceAdd, Nat.reduceLeDiff, Nat.reduceMul, Nat.reduceLT, Int.reduceEq, Int.reduceLT, Int.reduceLE]
  refine aloop mixed (fz := fun _ => []) (im := fun _ => false) (by kernel_rfl) (fun m tm H' => ∃ k : Nat, m = l.length - k ∧ k ≤ l.length ∧ H' = H ∧ tm 0 = .vsl (l.map rI) cl ∧ tm 1 = I n ∧ tm 5 = I k ∧ (l.take k).any (fun x => decide (n = x)) = false) l.length ⟨0, ?_⟩ ?_
  · simp +contextual -dsimp -implicitDefEqProofs (maxSteps := 5000000) only [go_sem, reduceIte, reduceCtorEq, Nat.reduceEqDiff, Nat.reduceBEq, Nat.reduceAdd, Nat.reduceLeDiff, Nat.reduceMul, Nat.reduceLT, Int.reduceEq, Int.reduceLT, Int.reduceLE]
    simp
  · rintro m tm _ ⟨k, rfl, hk, rfl, h0, h1, h5, hn⟩
    simp +contextual -dsimp -implicitDefEqProofs (maxSteps := 5000000) only [go_sem, reduceIte, reduceCtorEq, Nat.reduceEqDiff, Nat.reduceBEq, Nat.reduceAdd, Nat.reduceLeDiff, Nat.reduceMul, Nat.reduceLT, Int.reduceEq, Int.reduceLT, Int.reduceLE, h0, h1, h5]
    refine ⟨fun h => ⟨fun hb => ?_, fun hb => ⟨_, ?_, k + 1, rfl, h, I_wrap (by omega) (by omega) (by omega), any_take h hn (d := default) (by simpa [eq_comm] using hb)⟩⟩, fun h => ?_⟩
    · rw [idxF_at h hn (d := default) (by simpa [eq_comm] using hb)]
    · omega
    · rw [idxF_none (by omega) hn]
theorem c_hasIntG (l : List Int) (x : AV) (n : Int) (H0 H : AHeap) (hg : Grow rI 1 3 H0 H x l) : ACalls Try.prog 57 [x, I n] H fun r H' => r = B (l.any fun x => decide (n = x)) ∧ H' = H := by
  obtain ⟨cl, hz⟩ := grow_froz hg
  exact acalls_borrow [.vsl (l.map rI) cl, I n] (.cons hz (.cons (.same _) .nil)) (c_hasInt _ _ _ _) rfl ⟨rfl, rfl⟩

def dchG (h : List Fault) : Nat → Int → List Int
  | 0, _ => []
  | n + 1, f => if 0 ≤ f then f :: dchG h n (ctxOf h f) else []
/-- A fault and its contexts, each older than the one ahead of it. -/
def dchF (h : List Fault) (f : Int) : List Int := dchG h (f + 1).toNat f
theorem dchG_neg {h : List Fault} {n : Nat} {f : Int} (hf : f < 0) : dchG h n f = [] := by
  cases n with
  | zero => rfl
  | succ n => simp only [dchG]; rw [if_neg (by omega)]
theorem dchG_eq {h : List Fault} (ho : heapOk h) : ∀ (n m : Nat) (f : Int), f < h.length → f < n → f < m → dchG h n f = dchG h m f
  | 0, m, f, _, h1, _ => by rw [dchG_neg (by omega), dchG_neg (by omega)]
  | n + 1, 0, f, _, _, h2 => by rw [dchG_neg (by omega), dchG_neg (by omega)]
  | n + 1, m + 1, f, h0, h1, h2 => by
    simp only [dchG]
    split
    · have := ho f.toNat (by omega)
      unfold ctxOf
      rw [dchG_eq ho n m _ (by omega) (by omega) (by omega)]
    · rfl
theorem dchF_step {h : List Fault} (ho : heapOk h) {f : Int} (h0 : 0 ≤ f) (h1 : f < h.length) : dchF h f = f :: dchF h (ctxOf h f) := by
  have := ho f.toNat (by omega)
  have e : (f + 1).toNat = f.toNat + 1 := by omega
  simp only [dchF, e, dchG]
  rw [if_pos h0]
  have : ctxOf h f < f := by unfold ctxOf; omega
  exact congrArg _ (dchG_eq ho _ _ _ (by omega) (by omega) (by omega))
theorem dchF_neg {h : List Fault} {f : Int} (hf : f < 0) : dchF h f = [] := dchG_neg hf

theorem c_reach (h : List Fault) (cl : Bool) (hl : h.length ≤ 999999) (ho : heapOk h) : ∀ (n : Nat) (f : Int) (F H : AHeap) (x : AV) (out : List Int), f < h.length → (f + 1).toNat ≤ n → (∀ a ∈ out, f < a) → out.length + (f + 1).toNat ≤ 1000001 → Grow rI 1 3 F H x out →
    ACalls Try.prog 60 [aHeap h cl, I f, x] H fun r H' => Grow rI 1 3 F H' r (out ++ dchF h f) := by
  intro n
  induction n with
  | zero =>
    intro f F H x out h1 h2 h3 h4 hg
    have h0 : f < 0 := by omega
    refine acalls_of0 Try.func60 rfl (by kernel_rfl) rfl rfl (awp_sound (fz := fun _ => []) (im := fun s => s == 3 || s == 17) mixed _ _ _ _ (by kernel_rfl) ?_)
    simp +contextual -dsimp -implicitDefEqProofs (maxSteps := 5000000) only [go_sem, reduceIte, reduceCtorEq, Nat.reduceEqDiff, Nat.reduceBEq, Nat.reduceAdd, Nat.reduceLeDiff, Nat.reduceMul, Nat.reduceLT, Int.reduceEq, Int.reduceLT, Int.reduceLE, h0]
    rw [dchF_neg h0, List.append_nil]; exact hg
  | succ n ih =>
    intro f F H x out h1 h2 h3 h4 hg
    by_cases h0 : f < 0
    · refine acalls_of0 Try.func60 rfl (by kernel_rfl) rfl rfl (awp_sound (fz := fun _ => []) (im := fun s => s == 3 || s == 17) mixed _ _ _ _ (by kernel_rfl) ?_)
      simp +contextual -dsimp -implicitDefEqProofs (maxSteps := 5000000) only [go_sem, reduceIte, reduceCtorEq, Nat.reduceEqDiff, Nat.reduceBEq, Nat.reduceAdd, Nat.reduceLeDiff, Nat.reduceMul, Nat.reduceLT, Int.reduceEq, Int.reduceLT, Int.reduceLE, h0]
      rw [dchF_neg h0, List.append_nil]; exact hg
    · have hany : (out.any fun x => decide (f = x)) = false := by
        rw [List.any_eq_false]
        intro a ha
        have := h3 a ha
        simp; omega
      have hc := ho f.toNat (by omega)
      have i1 : 0 ≤ f := by omega
      have i2 : f.toNat < h.length := by omega
      refine acalls_of0 Try.func60 rfl (by kernel_rfl) rfl rfl (awp_sound (fz := fun _ => []) (im := fun s => s == 3 || s == 17) mixed _ _ _ _ (by kernel_rfl) ?_)
      simp +contextual -dsimp -implicitDefEqProofs (maxSteps := 5000000) only [go_sem, reduceIte, reduceCtorEq, Nat.reduceEqDiff, Nat.reduceBEq, Nat.reduceAdd, Nat.reduceLeDiff, Nat.reduceMul, Nat.reduceLT, Int.reduceEq, Int.reduceLT, Int.reduceLE, h0]
      refine (c_hasIntG out x f F H hg).det ?_
      rw [hany]
      simp +contextual -dsimp -implicitDefEqProofs (maxSteps := 5000000) only [go_sem, reduceIte, reduceCtorEq, Nat.reduceEqDiff, Nat.reduceBEq, Nat.reduceAdd, Nat.reduceLeDiff, Nat.reduceMul, Nat.reduceLT, Int.reduceEq, Int.reduceLT, Int.reduceLE, h0]
      refine grow_append (m := [f]) te31 ti3 rI_len (by decide) hg (by simp; omega) (by simp; omega) rfl fun x' H' hg' => ?_
      simp +contextual -dsimp -implicitDefEqProofs (maxSteps := 5000000) only [go_sem, reduceIte, reduceCtorEq, Nat.reduceEqDiff, Nat.reduceBEq, Nat.reduceAdd, Nat.reduceLeDiff, Nat.reduceMul, Nat.reduceLT, Int.reduceEq, Int.reduceLT, Int.reduceLE, h0]
      refine draw_intro [0, 0, 0, 0, 0, 0, 0, 0, 2, 0] AHeap.none (by kernel_rfl) none_le ?_
      simp +contextual -dsimp -implicitDefEqProofs (maxSteps := 5000000) only [go_sem, reduceIte, reduceCtorEq, Nat.reduceEqDiff, Nat.reduceBEq, Nat.reduceAdd, Nat.reduceLeDiff, Nat.reduceMul, Nat.reduceLT, Int.reduceEq, Int.reduceLT, Int.reduceLE, h0, h1, i1, i2, hc.1]
      refine (ih (-1) F H' x' (out ++ [f]) (by omega) (by omega) ?_ (by simp; omega) hg').mono fun r H2 hg2 => ?_
      · intro a ha; simp at ha; rcases ha with ha | rfl
        · have := h3 a ha; omega
        · omega
      rw [dchF_neg (by omega), List.append_nil] at hg2
      simp +contextual -dsimp -implicitDefEqProofs (maxSteps := 5000000) only [go_sem, reduceIte, reduceCtorEq, Nat.reduceEqDiff, Nat.reduceBEq, Nat.reduceAdd, Nat.reduceLeDiff, Nat.reduceMul, Nat.reduceLT, Int.reduceEq, Int.reduceLT, Int.reduceLE, h0]
      refine draw_intro [0, 0, 0, 0, 0, 0, 0, 0, 2, 0] AHeap.none (by kernel_rfl) none_le ?_
      simp +contextual -dsimp -implicitDefEqProofs (maxSteps := 5000000) only [go_sem, reduceIte, reduceCtorEq, Nat.reduceEqDiff, Nat.reduceBEq, Nat.reduceAdd, Nat.reduceLeDiff, Nat.reduceMul, Nat.reduceLT, Int.reduceEq, Int.reduceLT, Int.reduceLE, h0, h1, i1, i2]
      refine (ih (h.getD f.toNat default).ctx F H2 r (out ++ [f]) (by omega) (by omega) ?_ (by simp only [List.length_append, List.length_cons, List.length_nil]; omega) hg2).mono fun r' H3 hg3 => ?_
      · intro a ha; simp at ha; rcases ha with ha | rfl
        · have := h3 a ha; omega
        · omega
      simp +contextual -dsimp -implicitDefEqProofs (maxSteps := 5000000) only [go_sem, reduceIte, reduceCtorEq, Nat.reduceEqDiff, Nat.reduceBEq, Nat.reduceAdd, Nat.reduceLeDiff, Nat.reduceMul, Nat.reduceLT, Int.reduceEq, Int.reduceLT, Int.reduceLE, h0]
      rw [dchF_step ho i1 h1]
      unfold ctxOf
      simpa using hg3
end Go.Proofs.Ytihjbbiajggcoaa
end
section
set_option linter.unusedVariables false
set_option linter.unusedSimpArgs false
namespace Go.Proofs.Ytihjbbiajggcoaa
open Go Go.Sim
set_option maxRecDepth 100000
attribute [local go_sem ↓] aw_skip aw_ret aw_exit aw_region aw_draw aw_seq aw_block aw_loop aw_cond frz_nil frz_cons sq_normal sq_ret sq_exit exB_normal exB_ret exB_same exB_other retQ_ret retQ_normal ret0_ret ret0_normal ao_nil go1 g_move g_assign g_pick g_build g_load g_binOp g_unOp g_convert g_fieldAddr g_field g_indexAddr g_index g_extract g_slice g_nilCheck g_len g_makeFunc h_call h_append h_alloc h_box h_buildSlice h_makeSlice h_store gV i_box i_buildSlice i_move i_assign i_build i_load i_binOp i_unOp i_convert i_fieldAddr i_field i_indexAddr i_index i_extract i_slice i_nilCheck i_makeFunc i_len i_max i_min i_alloc i_makeSlice i_store i_append i_call i_pick boxI boxA buildSliceI buildSliceA makeSliceA allocA storeA p_move p_assign p_pick p_build p_load p_binOp p_unOp p_convert p_fieldAddr p_field p_indexAddr p_index p_extract p_slice p_nilCheck p_makeFunc p_len p_max p_min p_alloc p_box p_buildSlice p_makeSlice p_store p_append p_call x_nil x_go1 x_g0 x_g1 x_g2 x_g3 x_s0 x_s1 x_s2 x_s3 u_move u_assign u_pick u_build u_load u_binOp u_unOp u_convert u_fieldAddr u_field u_indexAddr u_index u_extract u_slice u_nilCheck u_makeFunc u_len u_buildSlice
attribute [local go_sem] frzV_ptr frzV_sl frzK_some set_none set_other AHeap.set_self set_del set_set cnd_t cnd_f cnd_b retA_one retA_two retA_three retA_four retA_nil gIf_b mrgV_b mrgV_wh mrgV_U gIf_U gIf_wh mrgB_f mrgB_some mrgB_if wh_true wh_false keepA_some keepA_if gD_zero gD_succ gT_some bxA_t bxA_f callA_fn ev_tmp ev_const ev_global ev_func oc_bool oc_int oc_string oc_nil oc_nilptr oc_nilfunc cl_bool cl_int cl_string cl_nil updO_some updO_none upd_same upd_other init_at pickA_b pickA_wh selA_t selA_f selA_and selA_or selA_orn selA_orm selA_bb selA_ii beqt b_add b_sub b_mul b_and b_or b_xor b_eql b_neq b_lss b_leq b_gtr b_geq b_quo b_rem b_shr b_seql b_sneq b_sadd b_beql b_bneq b_aeql b_aneq u_not u_neg isConstOp eqA eqCellV List.getD_cons_zero List.getD_cons_succ List.map_cons List.map_nil List.nil_append List.cons_append List.append_nil if_true if_false Option.map_some Option.map_none ne_eq not_false_eq_true oneA ldv ld1v ld1s wr1s ldRow stRow row_lit row_agg row_vsl row_sl row_ptr row_fn one_I one_B one_S one_vsl one_sl one_ptr one_fn extractA okA rI rS rU rClass rFault rExit rStart rLine Int.toNat_natCast List.length_cons List.length_nil List.length_map List.all_cons List.all_nil Bool.and_true Nat.zero_add List.getElem?_cons_zero List.getElem?_cons_succ List.take_succ_cons List.take_zero List.drop_succ_cons List.drop_zero and_self true_and and_true implies_true decide_eq_true_eq decide_eq_false_iff_not Bool.or_eq_true Bool.or_eq_false_iff Bool.and_eq_true Bool.not_eq_true' Bool.not_eq_false' beq_false decide_true decide_false Int.ofNat_lt Int.ofNat_le Int.natCast_nonneg Bool.or_true Bool.or_false Bool.true_or Bool.false_or beq_self_eq_true List.drop_one Bool.not_true Bool.not_false Bool.not_not Bool.false_eq_true Bool.true_eq_false false_implies true_implies Bool.true_and Bool.false_and Bool.and_false not_true_eq_false Int.natCast_eq_zero Int.natCast_pos Int.natCast_zero false_and and_false or_false false_or or_true true_or Bool.or_self none_le_iff List.replicate_zero Int.toNat_zero List.replicate_succ buildRows List.set_cons_zero List.set_cons_succ List.set_nil List.mapM_nil maxLen_eq Nat.zero_le Nat.mul_one Nat.one_mul bldA fillA spliceA List.take_nil List.drop_nil List.getElem?_nil ld1o wr1o bldSliceA le_same ti1 ti2 tk2 ti3 te3 ts3 tk3 tz3 ti4 tb4 ti5 tk5 tz5 ti9 te9 ts9 tk9 tz9 ti12 tk12 ti13 tp13 tf13_0 tf13_1 ti20 ti21 tk21 tz21 ti22 te22 tz22 ti23 te23 ti24 tp24 tf24_0 ti25 tp25 tf25_0 ti26 te26 ti27 tq27 tp27 tf27_0 tf27_1 tf27_2 ti28 tq28 tp28 tf28_0 tf28_1 tf28_2 ti30 ti31 te31 ti32 te32 ti33 tp33 tf33_0 ti34 tp34 tf34_0 ti35 tp35 tf35_0 tf35_1 tf35_2 tf35_3 ti36 tp36 tf36_0 tf36_1 tf36_2 tf36_3 ti37 ti38 ti39 ti40 tq40 tp40 tf40_0 tf40_1 tf40_2 ti41 tq41 tp41 tf41_0 tf41_1 tf41_2 ti42 ti43 ti44 ti45 ti47 ti48 ti49 ti50 ti51 ti52 ti53 ti54 ti55 tp55 tf55_0 tf55_1 ti56 tp56 tf56_0 tf56_1 ti57 ti58 ti59 ti60 ti61 ti62 ti63 ti64 ti65 ti66 ti67 tq67 tp67 tf67_0 tf67_1 ti68 tq68 tp68 tf68_0 tf68_1 ti69 tq69 tp69 tf69_0 tf69_1 tf69_2 tf69_3 tf69_4 ti70 tq70 tp70 tf70_0 tf70_1 tf70_2 tf70_3 tf70_4 ti71 ti72 tp72 tf72_0 tf72_1 tf72_2 ti73 tp73 tf73_0 tf73_1 tf73_2 ti74 ti75 ti77 ti78 tq78 tp78 tf78_0 tf78_1 ti79 tq79 tp79 tf79_0 tf79_1 ti80 ti81 ti82 ti83 ti84 ti85 te85 ti86 ti87 te87 ti88 tp88 tf88_0 tf88_1 tf88_2 tf88_3 tf88_4 ti89 tp89 tf89_0 tf89_1 tf89_2 tf89_3 tf89_4 ti90 ti91 ti92 ti93 ti94 ti95 ti96 ti97 ti98 ti99 ti100 ti101 ti102 ti103 ti104 ti105 ti106 ti107 ti108 ti109 ti110 ti111 ti112 ti113 ti114 ti115 ti116 tk116 tz116 ti117 ti118 tk118 ti120 ti121 ti122 ti124 ti125 ti126 tk126 tz126 ti127 ti128 tk128 tz128 ti129 tk129 ti130 ti131 ti132 ti133 ti134 ti135 ti137 ti138 ti144 ti148 ti153 ti154 tq154 tp154 tf154_0 tf154_1 tf154_2 tf154_3 ti155 tq155 tp155 tf155_0 tf155_1 tf155_2 tf155_3 ti157 fp13_0 fv13_0 fp13_1 fv13_1 fp24_0 fv24_0 fp25_0 fv25_0 fp27_0 fv27_0 fp27_1 fv27_1 fp27_2 fv27_2 fp28_0 fv28_0 fp28_1 fv28_1 fp28_2 fv28_2 fp33_0 fv33_0 fp34_0 fv34_0 fp35_0 fv35_0 fp35_1 fv35_1 fp35_2 fv35_2 fp35_3 fv35_3 fp36_0 fv36_0 fp36_1 fv36_1 fp36_2 fv36_2 fp36_3 fv36_3 fp40_0 fv40_0 fp40_1 fv40_1 fp40_2 fv40_2 fp41_0 fv41_0 fp41_1 fv41_1 fp41_2 fv41_2 fp55_0 fv55_0 fp55_1 fv55_1 fp56_0 fv56_0 fp56_1 fv56_1 fp67_0 fv67_0 fp67_1 fv67_1 fp68_0 fv68_0 fp68_1 fv68_1 fp69_0 fv69_0 fp69_1 fv69_1 fp69_2 fv69_2 fp69_3 fv69_3 fp69_4 fv69_4 fp70_0 fv70_0 fp70_1 fv70_1 fp70_2 fv70_2 fp70_3 fv70_3 fp70_4 fv70_4 fp72_0 fv72_0 fp72_1 fv72_1 fp72_2 fv72_2 fp73_0 fv73_0 fp73_1 fv73_1 fp73_2 fv73_2 fp78_0 fv78_0 fp78_1 fv78_1 fp79_0 fv79_0 fp79_1 fv79_1 fp88_0 fv88_0 fp88_1 fv88_1 fp88_2 fv88_2 fp88_3 fv88_3 fp88_4 fv88_4 fp89_0 fv89_0 fp89_1 fv89_1 fp89_2 fv89_2 fp89_3 fv89_3 fp89_4 fv89_4 fp154_0 fv154_0 fp154_1 fv154_1 fp154_2 fv154_2 fp154_3 fv154_3 fp155_0 fv155_0 fp155_1 fv155_1 fp155_2 fv155_2 fp155_3 fv155_3 lv22 ll22 is22 ix22 sh22 so22 sb22 sm22 sp22 lv23 ll23 is23 ix23 sh23 so23 sb23 sm23 sp23 lv26 ll26 is26 ix26 sh26 so26 sb26 sm26 sp26 lv31 ll31 is31 ix31 sh31 so31 sb31 sm31 sp31 lv32 ll32 is32 ix32 sh32 so32 sb32 sm32 sp32 lv85 ll85 is85 ix85 sh85 so85 sb85 sm85 sp85 lv87 ll87 is87 ix87 sh87 so87 sb87 sm87 sp87 xs9 ls9 sx9 sy9 sz9

/-- A number put to its place in an ascending list. -/
def insK (out : List Int) (v : Int) : Nat := (out.takeWhile fun x => decide (x < v)).length
def insF (out : List Int) (v : Int) : List Int := if insK out v = out.length ∨ out.getD (insK out v) default ≠ v then out.take (insK out v) ++ [v] ++ out.drop (insK out v) else out
def sortedF (l : List Int) : List Int := l.foldl insF []
theorem insK_at {out : List Int} {v : Int} : ∀ {j : Nat}, j ≤ out.length → (out.take j).all (fun x => decide (x < v)) = true → (j < out.length → ¬ out.getD j default < v) → insK out v = j := by
  induction out with
  | nil => intro j h _ _; simp at h; subst h; rfl
  | cons a out ih =>
    intro j h1 h2 h3
    cases j with
    | zero =>
      have := h3 (by simp)
      simp only [List.getD_cons_zero] at this
      simp [insK, this]
    | succ j =>
      simp only [List.take_succ_cons, List.all_cons, Bool.and_eq_true] at h2
      have := ih (j := j) (by simpa using h1) h2.2 (fun q => by have := h3 (by simpa using q); simpa using this)
      unfold insK at this ⊢
      simp only [List.takeWhile_cons, h2.1, if_true, List.length_cons, this]
theorem insF_len (out : List Int) (v : Int) : (insF out v).length ≤ out.length + 1 := by
  unfold insF
  split
  · simp; omega
  · omega
theorem c_sorted (l : List Int) (cl : Bool) (H : AHeap) (hl : l.length ≤ 1000000) : ACalls Try.prog 59 [.vsl (l.map rI) cl] H fun r H' => (∃ cl', r = .vsl ((sortedF l).map rI) cl') ∧ H' = H := by
  refine acalls_of0 Try.func59 rfl (by kernel_rfl) rfl rfl (awp_sound (fz := fun r => if r = 9 then [3] else []) (im := fun s => s == 6) mixed _ _ _ _ (by kernel_rfl) ?_)
  simp +contextual -dsimp -implicitDefEqProofs (maxSteps := 5000000) only [go_sem, reduceIte, reduceCtorEq, Nat.reduceEqDiff, Nat.reduceBEq, Nat.reduceAdd, Nat.reduceLeDiff, Nat.reduceMul, Nat.reduceLT, Int.reduceEq, Int.reduceLT, Int.reduceLE]
  refine aloop mixed (fz := fun r => if r = 9 then [3] else []) (im := fun s => s == 6) (by kernel_rfl) (fun m tm H' => ∃ (k : Nat) (out : List Int) (c : Bool), m = l.length - k ∧ k ≤ l.length ∧ H' = H ∧ out.length ≤ k ∧ tm 0 = .vsl (l.map rI) cl ∧ tm 3 = .vsl (out.map rI) c ∧ tm 4 = I k ∧ (l.take k).foldl insF [] = out) l.length ⟨0, [], true, ?_⟩ ?_
  · simp +contextual -dsimp -implicitDefEqProofs (maxSteps := 5000000) only [go_sem, reduceIte, reduceCtorEq, Nat.reduceEqDiff, Nat.reduceBEq, Nat.reduceAdd, Nat.reduceLeDiff, Nat.reduceMul, Nat.reduceLT, Int.reduceEq, Int.reduceLT, Int.reduceLE]
    simp
  · rintro m tm H8 ⟨k, out, c, rfl, hk, e8, hol, h0, h3, h4, he⟩
    simp +contextual -dsimp -implicitDefEqProofs (maxSteps := 5000000) only [go_sem, reduceIte, reduceCtorEq, Nat.reduceEqDiff, Nat.reduceBEq, Nat.reduceAdd, Nat.reduceLeDiff, Nat.reduceMul, Nat.reduceLT, Int.reduceEq, Int.reduceLT, Int.reduceLE, h0, h3, h4]
    refine ⟨fun h => ?_, fun h => ?_⟩
    · refine aloop mixed (fz := fun r => if r = 9 then [3] else []) (im := fun s => s == 6) (by kernel_rfl) (fun m tm H' => ∃ j : Nat, m = out.length - j ∧ j ≤ out.length ∧ H' = H8 ∧ tm 0 = .vsl (l.map rI) cl ∧ tm 3 = .vsl (out.map rI) c ∧ tm 4 = I k ∧ tm 5 = I j ∧ (out.take j).all (fun x => decide (x < l.getD k default)) = true) out.length ⟨0, ?_⟩ ?_
      · simp +contextual -dsimp -implicitDefEqProofs (maxSteps := 5000000) only [go_sem, reduceIte, reduceCtorEq, Nat.reduceEqDiff, Nat.reduceBEq, Nat.reduceAdd, Nat.reduceLeDiff, Nat.reduceMul, Nat.reduceLT, Int.reduceEq, Int.reduceLT, Int.reduceLE, h0, h3, h4]
        simp
      · rintro m tm H9 ⟨j, rfl, hj, e9, h0, h3, h4, h5, ha⟩
        simp +contextual -dsimp -implicitDefEqProofs (maxSteps := 5000000) only [go_sem, reduceIte, reduceCtorEq, Nat.reduceEqDiff, Nat.reduceBEq, Nat.reduceAdd, Nat.reduceLeDiff, Nat.reduceMul, Nat.reduceLT, Int.reduceEq, Int.reduceLT, Int.reduceLE, h0, h3, h4, h5, h]
        refine draw_intro [0, 0, 0, 0, 0, 0, 0, 0, 0, 0, 0, 0, 0, 0, 0] AHeap.none (by kernel_rfl) none_le ?_
        simp +contextual -dsimp -implicitDefEqProofs (maxSteps := 5000000) only [go_sem, reduceIte, reduceCtorEq, Nat.reduceEqDiff, Nat.reduceBEq, Nat.reduceAdd, Nat.reduceLeDiff, Nat.reduceMul, Nat.reduceLT, Int.reduceEq, Int.reduceLT, Int.reduceLE, h0, h3, h4, h5, h]
        refine ⟨fun q => ⟨_, ?_, j + 1, rfl, q.1, e9, I_wrap (by omega) (by omega) (by omega), all_take q.1 ha (d := default) (by simpa using q.2)⟩, fun q => ?_⟩
        · have := q.1; omega
        have hK : insK out (l.getD k default) = j := insK_at hj ha (fun q1 q2 => by simp [q1] at q; simp [List.getD_eq_getElem?_getD, q1] at q2; omega)
        have nxt : (l.take (k + 1)).foldl insF [] = insF out (l.getD k default) := by
          rw [List.take_succ_eq_append_getElem h, List.foldl_append, he]
          simp [List.getD_eq_getElem?_getD, h]
        have hlen := insF_len out (l.getD k default)
        have go : ∀ (x : List Int), insF out (l.getD k default) = x → ∃ m', m' < l.length - k ∧ ∃ k_1 : Nat, m' = l.length - k_1 ∧ k_1 ≤ l.length ∧ x.length ≤ k_1 ∧ AV.lit (Value.int IntKind.i64 (IntKind.i64.wrap (↑k + 1))) = I ↑k_1 ∧ (l.take k_1).foldl insF [] = x := fun x hx => ⟨_, by omega, k + 1, rfl, h, by rw [← hx]; omega, I_wrap (by omega) (by omega) (by omega), by rw [nxt, hx]⟩
        refine draw_intro [0, 0, 0, 0, 0, 0, 0, 0, 0, 0, 0, 0, 0, 0, 0] AHeap.none (by kernel_rfl) none_le ?_
        by_cases hjl : j = out.length
        · simp +contextual -dsimp -implicitDefEqProofs (maxSteps := 5000000) only [go_sem, reduceIte, reduceCtorEq, Nat.reduceEqDiff, Nat.reduceBEq, Nat.reduceAdd, Nat.reduceLeDiff, Nat.reduceMul, Nat.reduceLT, Int.reduceEq, Int.reduceLT, Int.reduceLE, h0, h3, h4, h5, h, hjl]
          refine draw_intro [0, 0, 0, 0, 3, 0, 0, 0, 1, 0, 2, 0, 0, 0, 2, 0] AHeap.none (by kernel_rfl) none_le ?_
          simp +contextual -dsimp -implicitDefEqProofs (maxSteps := 5000000) only [go_sem, reduceIte, reduceCtorEq, Nat.reduceEqDiff, Nat.reduceBEq, Nat.reduceAdd, Nat.reduceLeDiff, Nat.reduceMul, Nat.reduceLT, Int.reduceEq, Int.reduceLT, Int.reduceLE, h0, h3, h4, h5, h, hjl]
          refine ⟨by omega, grow_append (m := out.take out.length) te31 ti3 rI_len (by decide) grow_nil (by simp; omega) (by simp; omega) rfl fun x1 H1 g1 => ⟨none_le, ?_⟩⟩
          simp +contextual -dsimp -implicitDefEqProofs (maxSteps := 5000000) only [go_sem, reduceIte, reduceCtorEq, Nat.reduceEqDiff, Nat.reduceBEq, Nat.reduceAdd, Nat.reduceLeDiff, Nat.reduceMul, Nat.reduceLT, Int.reduceEq, Int.reduceLT, Int.reduceLE, h0, h3, h4, h5, h, hjl]
          refine grow_append (m := [l.getD k default]) te31 ti3 rI_len (by decide) g1 (by simp; omega) (by simp; omega) rfl fun x2 H2 g2 => ?_
          simp +contextual -dsimp -implicitDefEqProofs (maxSteps := 5000000) only [go_sem, reduceIte, reduceCtorEq, Nat.reduceEqDiff, Nat.reduceBEq, Nat.reduceAdd, Nat.reduceLeDiff, Nat.reduceMul, Nat.reduceLT, Int.reduceEq, Int.reduceLT, Int.reduceLE, h0, h3, h4, h5, h, hjl]
          refine ⟨by omega, grow_append (m := out.drop out.length) te31 ti3 rI_len (by decide) g2 (by simp; omega) (by simp; omega) rfl fun x3 H3 g3 => ?_⟩
          rcases g3 with ⟨e, _, _⟩ | ⟨b3, cl3, hb3, rfl, rfl⟩
          · simp at e
          simp +contextual -dsimp -implicitDefEqProofs (maxSteps := 5000000) only [go_sem, reduceIte, reduceCtorEq, Nat.reduceEqDiff, Nat.reduceBEq, Nat.reduceAdd, Nat.reduceLeDiff, Nat.reduceMul, Nat.reduceLT, Int.reduceEq, Int.reduceLT, Int.reduceLE, h0, h3, h4, h5, h, hb3, hjl]
          have hX : insF out (l.getD k default) = out.take out.length ++ [l.getD k default] ++ out.drop out.length := by
            unfold insF
            rw [hK, if_pos (.inl hjl), hjl]
          obtain ⟨m', q1, k1, q2, q3, q4, q5, q6⟩ := go _ hX
          refine ⟨Nat.le_refl _, m', q1, k1, _, cl3, q2, q3, e9.trans e8, q4, ?_, q5, q6⟩
          rw [List.take_of_length_le (by rw [List.length_map]; exact Nat.le_refl _)]
        · have hjl' : ¬ (j : Int) = out.length := by omega
          have hjlt : j < out.length := by omega
          simp +contextual -dsimp -implicitDefEqProofs (maxSteps := 5000000) only [go_sem, reduceIte, reduceCtorEq, Nat.reduceEqDiff, Nat.reduceBEq, Nat.reduceAdd, Nat.reduceLeDiff, Nat.reduceMul, Nat.reduceLT, Int.reduceEq, Int.reduceLT, Int.reduceLE, h0, h3, h4, h5, h, hjl', hjlt]
          refine ⟨fun hq => ?_, fun hq => ?_⟩
          · refine draw_intro [0, 0, 0, 0, 3, 0, 0, 0, 1, 0, 2, 0, 0, 0, 2, 0] AHeap.none (by kernel_rfl) none_le ?_
            simp +contextual -dsimp -implicitDefEqProofs (maxSteps := 5000000) only [go_sem, reduceIte, reduceCtorEq, Nat.reduceEqDiff, Nat.reduceBEq, Nat.reduceAdd, Nat.reduceLeDiff, Nat.reduceMul, Nat.reduceLT, Int.reduceEq, Int.reduceLT, Int.reduceLE, h0, h3, h4, h5, h, hjl', hjlt]
            refine ⟨by omega, grow_append (m := out.take j) te31 ti3 rI_len (by decide) grow_nil (by simp; omega) (by simp; omega) rfl fun x1 H1 g1 => ⟨none_le, ?_⟩⟩
            simp +contextual -dsimp -implicitDefEqProofs (maxSteps := 5000000) only [go_sem, reduceIte, reduceCtorEq, Nat.reduceEqDiff, Nat.reduceBEq, Nat.reduceAdd, Nat.reduceLeDiff, Nat.reduceMul, Nat.reduceLT, Int.reduceEq, Int.reduceLT, Int.reduceLE, h0, h3, h4, h5, h, hjl', hjlt]
            refine grow_append (m := [l.getD k default]) te31 ti3 rI_len (by decide) g1 (by simp; omega) (by simp; omega) rfl fun x2 H2 g2 => ?_
            simp +contextual -dsimp -implicitDefEqProofs (maxSteps := 5000000) only [go_sem, reduceIte, reduceCtorEq, Nat.reduceEqDiff, Nat.reduceBEq, Nat.reduceAdd, Nat.reduceLeDiff, Nat.reduceMul, Nat.reduceLT, Int.reduceEq, Int.reduceLT, Int.reduceLE, h0, h3, h4, h5, h, hjl', hjlt]
            refine ⟨by omega, grow_append (m := out.drop j) te31 ti3 rI_len (by decide) g2 (by simp; omega) (by simp; omega) rfl fun x3 H3 g3 => ?_⟩
            rcases g3 with ⟨e, _, _⟩ | ⟨b3, cl3, hb3, rfl, rfl⟩
            · simp at e
            simp +contextual -dsimp -implicitDefEqProofs (maxSteps := 5000000) only [go_sem, reduceIte, reduceCtorEq, Nat.reduceEqDiff, Nat.reduceBEq, Nat.reduceAdd, Nat.reduceLeDiff, Nat.reduceMul, Nat.reduceLT, Int.reduceEq, Int.reduceLT, Int.reduceLE, h0, h3, h4, h5, h, hb3, hjl', hjlt]
            have hX : insF out (l.getD k default) = out.take j ++ [l.getD k default] ++ out.drop j := by
              unfold insF
              rw [hK, if_pos (.inr hq)]
            obtain ⟨m', q1, k1, q2, q3, q4, q5, q6⟩ := go _ hX
            refine ⟨Nat.le_refl _, m', q1, k1, _, cl3, q2, q3, e9.trans e8, q4, ?_, q5, q6⟩
            rw [List.take_of_length_le (by rw [List.length_map]; exact Nat.le_refl _)]
          · obtain ⟨m', q1, k1, q2, q3, q4, q5, q6⟩ := go out (by unfold insF; rw [hK, if_neg (fun q => q.elim hjl (fun q => q hq))])
            exact ⟨m', q1, k1, out, c, q2, q3, e9.trans e8, q4, rfl, q5, q6⟩
    · subst e8
      rw [List.take_of_length_le (by omega)] at he
      exact ⟨⟨c, by rw [sortedF, he]⟩, rfl⟩
end Go.Proofs.Ytihjbbiajggcoaa
end
section
set_option linter.unusedVariables false
set_option linter.unusedSimpArgs false
namespace Go.Proofs.Ytihjbbiajggcoaa
open Go Go.Sim
set_option maxRecDepth 100000
attribute [local go_sem ↓] aw_skip aw_ret aw_exit aw_region aw_draw aw_seq aw_block aw_loop aw_cond frz_nil frz_cons sq_normal sq_ret sq_exit exB_normal exB_ret exB_same exB_other retQ_ret retQ_normal ret0_ret ret0_normal ao_nil go1 g_move g_assign g_pick g_build g_load g_binOp g_unOp g_convert g_fieldAddr g_field g_indexAddr g_index g_extract g_slice g_nilCheck g_len g_makeFunc h_call h_append h_alloc h_box h_buildSlice h_makeSlice h_store gV i_box i_buildSlice i_move i_assign i_build i_load i_binOp i_unOp i_convert i_fieldAddr i_field i_indexAddr i_index i_extract i_slice i_nilCheck i_makeFunc i_len i_max i_min i_alloc i_makeSlice i_store i_append i_call i_pick boxI boxA buildSliceI buildSliceA makeSliceA allocA storeA p_move p_assign p_pick p_build p_load p_binOp p_unOp p_convert p_fieldAddr p_field p_indexAddr p_index p_extract p_slice p_nilCheck p_makeFunc p_len p_max p_min p_alloc p_box p_buildSlice p_makeSlice p_store p_append p_call x_nil x_go1 x_g0 x_g1 x_g2 x_g3 x_s0 x_s1 x_s2 x_s3 u_move u_assign u_pick u_build u_load u_binOp u_unOp u_convert u_fieldAddr u_field u_indexAddr u_index u_extract u_slice u_nilCheck u_makeFunc u_len u_buildSlice
attribute [local go_sem] frzV_ptr frzV_sl frzK_some set_none set_other AHeap.set_self set_del set_set cnd_t cnd_f cnd_b retA_one retA_two retA_three retA_four retA_nil gIf_b mrgV_b mrgV_wh mrgV_U gIf_U gIf_wh mrgB_f mrgB_some mrgB_if wh_true wh_false keepA_some keepA_if gD_zero gD_succ gT_some bxA_t bxA_f callA_fn ev_tmp ev_const ev_global ev_func oc_bool oc_int oc_string oc_nil oc_nilptr oc_nilfunc cl_bool cl_int cl_string cl_nil updO_some updO_none upd_same upd_other init_at pickA_b pickA_wh selA_t selA_f selA_and selA_or selA_orn selA_orm selA_bb selA_ii beqt b_add b_sub b_mul b_and b_or b_xor b_eql b_neq b_lss b_leq b_gtr b_geq b_quo b_rem b_shr b_seql b_sneq b_sadd b_beql b_bneq b_aeql b_aneq u_not u_neg isConstOp eqA eqCellV List.getD_cons_zero List.getD_cons_succ List.map_cons List.map_nil List.nil_append List.cons_append List.append_nil if_true if_false Option.map_some Option.map_none ne_eq not_false_eq_true oneA ldv ld1v ld1s wr1s ldRow stRow row_lit row_agg row_vsl row_sl row_ptr row_fn one_I one_B one_S one_vsl one_sl one_ptr one_fn extractA okA rI rS rU rClass rFault rExit rStart rLine Int.toNat_natCast List.length_cons List.length_nil List.length_map List.all_cons List.all_nil Bool.and_true Nat.zero_add List.getElem?_cons_zero List.getElem?_cons_succ List.take_succ_cons List.take_zero List.drop_succ_cons List.drop_zero and_self true_and and_true implies_true decide_eq_true_eq decide_eq_false_iff_not Bool.or_eq_true Bool.or_eq_false_iff Bool.and_eq_true Bool.not_eq_true' Bool.not_eq_false' beq_false decide_true decide_false Int.ofNat_lt Int.ofNat_le Int.natCast_nonneg Bool.or_true Bool.or_false Bool.true_or Bool.false_or beq_self_eq_true List.drop_one Bool.not_true Bool.not_false Bool.not_not Bool.false_eq_true Bool.true_eq_false false_implies true_implies Bool.true_and Bool.false_and Bool.and_false not_true_eq_false Int.natCast_eq_zero Int.natCast_pos Int.natCast_zero false_and and_false or_false false_or or_true true_or Bool.or_self none_le_iff List.replicate_zero Int.toNat_zero List.replicate_succ buildRows List.set_cons_zero List.set_cons_succ List.set_nil List.mapM_nil maxLen_eq Nat.zero_le Nat.mul_one Nat.one_mul bldA fillA spliceA List.take_nil List.drop_nil List.getElem?_nil ld1o wr1o bldSliceA le_same ti1 ti2 tk2 ti3 te3 ts3 tk3 tz3 ti4 tb4 ti5 tk5 tz5 ti9 te9 ts9 tk9 tz9 ti12 tk12 ti13 tp13 tf13_0 tf13_1 ti20 ti21 tk21 tz21 ti22 te22 tz22 ti23 te23 ti24 tp24 tf24_0 ti25 tp25 tf25_0 ti26 te26 ti27 tq27 tp27 tf27_0 tf27_1 tf27_2 ti28 tq28 tp28 tf28_0 tf28_1 tf28_2 ti30 ti31 te31 ti32 te32 ti33 tp33 tf33_0 ti34 tp34 tf34_0 ti35 tp35 tf35_0 tf35_1 tf35_2 tf35_3 ti36 tp36 tf36_0 tf36_1 tf36_2 tf36_3 ti37 ti38 ti39 ti40 tq40 tp40 tf40_0 tf40_1 tf40_2 ti41 tq41 tp41 tf41_0 tf41_1 tf41_2 ti42 ti43 ti44 ti45 ti47 ti48 ti49 ti50 ti51 ti52 ti53 ti54 ti55 tp55 tf55_0 tf55_1 ti56 tp56 tf56_0 tf56_1 ti57 ti58 ti59 ti60 ti61 ti62 ti63 ti64 ti65 ti66 ti67 tq67 tp67 tf67_0 tf67_1 ti68 tq68 tp68 tf68_0 tf68_1 ti69 tq69 tp69 tf69_0 tf69_1 tf69_2 tf69_3 tf69_4 ti70 tq70 tp70 tf70_0 tf70_1 tf70_2 tf70_3 tf70_4 ti71 ti72 tp72 tf72_0 tf72_1 tf72_2 ti73 tp73 tf73_0 tf73_1 tf73_2 ti74 ti75 ti77 ti78 tq78 tp78 tf78_0 tf78_1 ti79 tq79 tp79 tf79_0 tf79_1 ti80 ti81 ti82 ti83 ti84 ti85 te85 ti86 ti87 te87 ti88 tp88 tf88_0 tf88_1 tf88_2 tf88_3 tf88_4 ti89 tp89 tf89_0 tf89_1 tf89_2 tf89_3 tf89_4 ti90 ti91 ti92 ti93 ti94 ti95 ti96 ti97 ti98 ti99 ti100 ti101 ti102 ti103 ti104 ti105 ti106 ti107 ti108 ti109 ti110 ti111 ti112 ti113 ti114 ti115 ti116 tk116 tz116 ti117 ti118 tk118 ti120 ti121 ti122 ti124 ti125 ti126 tk126 tz126 ti127 ti128 tk128 tz128 ti129 tk129 ti130 ti131 ti132 ti133 ti134 ti135 ti137 ti138 ti144 ti148 ti153 ti154 tq154 tp154 tf154_0 tf154_1 tf154_2 tf154_3 ti155 tq155 tp155 tf155_0 tf155_1 tf155_2 tf155_3 ti157 fp13_0 fv13_0 fp13_1 fv13_1 fp24_0 fv24_0 fp25_0 fv25_0 fp27_0 fv27_0 fp27_1 fv27_1 fp27_2 fv27_2 fp28_0 fv28_0 fp28_1 fv28_1 fp28_2 fv28_2 fp33_0 fv33_0 fp34_0 fv34_0 fp35_0 fv35_0 fp35_1 fv35_1 fp35_2 fv35_2 fp35_3 fv35_3 fp36_0 fv36_0 fp36_1 fv36_1 fp36_2 fv36_2 fp36_3 fv36_3 fp40_0 fv40_0 fp40_1 fv40_1 fp40_2 fv40_2 fp41_0 fv41_0 fp41_1 fv41_1 fp41_2 fv41_2 fp55_0 fv55_0 fp55_1 fv55_1 fp56_0 fv56_0 fp56_1 fv56_1 fp67_0 fv67_0 fp67_1 fv67_1 fp68_0 fv68_0 fp68_1 fv68_1 fp69_0 fv69_0 fp69_1 fv69_1 fp69_2 fv69_2 fp69_3 fv69_3 fp69_4 fv69_4 fp70_0 fv70_0 fp70_1 fv70_1 fp70_2 fv70_2 fp70_3 fv70_3 fp70_4 fv70_4 fp72_0 fv72_0 fp72_1 fv72_1 fp72_2 fv72_2 fp73_0 fv73_0 fp73_1 fv73_1 fp73_2 fv73_2 fp78_0 fv78_0 fp78_1 fv78_1 fp79_0 fv79_0 fp79_1 fv79_1 fp88_0 fv88_0 fp88_1 fv88_1 fp88_2 fv88_2 fp88_3 fv88_3 fp88_4 fv88_4 fp89_0 fv89_0 fp89_1 fv89_1 fp89_2 fv89_2 fp89_3 fv89_3 fp89_4 fv89_4 fp154_0 fv154_0 fp154_1 fv154_1 fp154_2 fv154_2 fp154_3 fv154_3 fp155_0 fv155_0 fp155_1 fv155_1 fp155_2 fv155_2 fp155_3 fv155_3 lv22 ll22 is22 ix22 sh22 so22 sb22 sm22 sp22 lv23 ll23 is23 ix23 sh23 so23 sb23 sm23 sp23 lv26 ll26 is26 ix26 sh26 so26 sb26 sm26 sp26 lv31 ll31 is31 ix31 sh31 so31 sb31 sm31 sp31 lv32 ll32 is32 ix32 sh32 so32 sb32 sm32 sp32 lv85 ll85 is85 ix85 sh85 so85 sb85 sm85 sp85 lv87 ll87 is87 ix87 sh87 so87 sb87 sm87 sp87 xs9 ls9 sx9 sy9 sz9

def isoAt (h : List Fault) (list : List Int) (g : Int) : Fault :=
  { h.getD g.toNat default with cause := idxF (fun x => decide ((h.getD g.toNat default).cause = x)) list, ctx := idxF (fun x => decide ((h.getD g.toNat default).ctx = x)) list }
def isoL (h : List Fault) (list : List Int) : List Fault := list.map (isoAt h list)
theorem c_isolated0 (h : List Fault) (cl : Bool) (f : Int) (H : AHeap) (hl : h.length ≤ 999999) (ho : heapOk h) (hf : f < h.length) (hm : ∀ a ∈ sortedF (dchF h f), 0 ≤ a ∧ a < h.length) (hll : (dchF h f).length ≤ 1000000 ∧ (sortedF (dchF h f)).length ≤ 1000000) :
    ACalls Try.prog 38 [aHeap h cl, I f] H fun r H' => ∃ x, r = .tup [.agg [x], I (idxF (fun x => decide (f = x)) (sortedF (dchF h f)))] ∧ Grow rFault 5 70 H H' x (isoL h (sortedF (dchF h f))) := by
  refine acalls_of1 Try.func38 rfl (by kernel_rfl) rfl rfl (awp_sound (fz := fun r => if r = 9 then [9] else []) (im := fun s => s == 2 || s == 12 || s == 15 || s == 44) mixed _ _ _ _ (by kernel_rfl) ?_)
  simp +contextual -dsimp -implicitDefEqProofs (maxSteps := 5000000) only [go_sem, reduceIte, reduceCtorEq, Nat.reduceEqDiff, Nat.reduceBEq, Nat.reduceAdd, Nat.reduceLeDiff, Nat.reduceMul, Nat.reduceLT, Int.reduceEq, Int.reduceLT, Int.reduceLE]
  intro b4 hb4
  refine acalls_frz (c_reach h cl hl ho _ f _ _ _ [] hf (Nat.le_refl _) (by simp) (by simp; omega) grow_nil) fun cl1 => ?_
  simp +contextual -dsimp -implicitDefEqProofs (maxSteps := 5000000) only [go_sem, reduceIte, reduceCtorEq, Nat.reduceEqDiff, Nat.reduceBEq, Nat.reduceAdd, Nat.reduceLeDiff, Nat.reduceMul, Nat.reduceLT, Int.reduceEq, Int.reduceLT, Int.reduceLE]
  refine (c_sorted (dchF h f) cl1 _ hll.1).detV fun cl2 => ?_
  generalize sortedF (dchF h f) = L at hm hll ⊢
  simp +contextual -dsimp -implicitDefEqProofs (maxSteps := 5000000) only [go_sem, reduceIte, reduceCtorEq, Nat.reduceEqDiff, Nat.reduceBEq, Nat.reduceAdd, Nat.reduceLeDiff, Nat.reduceMul, Nat.reduceLT, Int.reduceEq, Int.reduceLT, Int.reduceLE]
  rintro b7 ⟨n1, n2, hb7⟩
  refine aloop mixed (fz := fun r => if r = 9 then [9] else []) (im := fun s => s == 2 || s == 12 || s == 15 || s == 44) (by kernel_rfl) (fun m tm H' => ∃ (k : Nat) (H2 : AHeap) (x : AV), m = L.length - k ∧ k ≤ L.length ∧ Grow rFault 5 70 H H2 x ((L.take k).map (isoAt h L)) ∧ H2 b4 = none ∧ H2 b7 = none ∧ H' = (H2.set b4 ⟨1, 34, [[.vsl [] true]]⟩).set b7 ⟨1, 34, [[x]]⟩ ∧
    tm 1 = I f ∧ tm 2 = .vptr [[.vsl (h.map rFault) cl]] 0 0 ∧ tm 4 = .ptr b4 1 0 0 ∧ tm 6 = .vsl (L.map rI) cl2 ∧ tm 7 = .ptr b7 1 0 0 ∧ tm 8 = I k) L.length ⟨0, H, .vsl [] true, ?_⟩ ?_
  · simp +contextual -dsimp -implicitDefEqProofs (maxSteps := 5000000) only [go_sem, reduceIte, reduceCtorEq, Nat.reduceEqDiff, Nat.reduceBEq, Nat.reduceAdd, Nat.reduceLeDiff, Nat.reduceMul, Nat.reduceLT, Int.reduceEq, Int.reduceLT, Int.reduceLE]
    exact ⟨rfl, grow_nil, hb4, hb7⟩
  · rintro m tm H' ⟨k, H2, x, rfl, hk, hg, e4, e7, rfl, h1, h2, h4, h6, h7, h8⟩
    obtain ⟨r1, r2⟩ := one_grow hg
    simp +contextual -dsimp -implicitDefEqProofs (maxSteps := 5000000) only [go_sem, reduceIte, reduceCtorEq, Nat.reduceEqDiff, Nat.reduceBEq, Nat.reduceAdd, Nat.reduceLeDiff, Nat.reduceMul, Nat.reduceLT, Int.reduceEq, Int.reduceLT, Int.reduceLE, h1, h2, h4, h6, h7, h8, r1, r2, n1, n2]
    refine ⟨fun h0 => ?_, fun h0 => ?_⟩
    · refine draw_intro [0, 1, 0, 0, 0, 1, 0, 1, 3, 2] AHeap.none (by kernel_rfl) none_le ?_
      have hx := hm (L.getD k default) (by rw [List.getD_eq_getElem?_getD, List.getElem?_eq_getElem h0]; exact List.getElem_mem h0)
      have i1 : (L.getD k default).toNat < h.length := by omega
      simp +contextual -dsimp -implicitDefEqProofs (maxSteps := 5000000) only [go_sem, reduceIte, reduceCtorEq, Nat.reduceEqDiff, Nat.reduceBEq, Nat.reduceAdd, Nat.reduceLeDiff, Nat.reduceMul, Nat.reduceLT, Int.reduceEq, Int.reduceLT, Int.reduceLE, h1, h2, h4, h6, h7, h8, r1, r2, n1, n2, h0, hx, i1]
      rintro b9 ⟨m1, m2, m3, m4, hb9⟩
      refine (c_indexOf _ _ _ _).det ?_
      simp +contextual -dsimp -implicitDefEqProofs (maxSteps := 5000000) only [go_sem, reduceIte, reduceCtorEq, Nat.reduceEqDiff, Nat.reduceBEq, Nat.reduceAdd, Nat.reduceLeDiff, Nat.reduceMul, Nat.reduceLT, Int.reduceEq, Int.reduceLT, Int.reduceLE, h1, h2, h4, h6, h7, h8, r1, r2, n1, n2, h0, hx, i1, m1, m2, m3, m4]
      refine (c_indexOf _ _ _ _).det ?_
      simp +contextual -dsimp -implicitDefEqProofs (maxSteps := 5000000) only [go_sem, reduceIte, reduceCtorEq, Nat.reduceEqDiff, Nat.reduceBEq, Nat.reduceAdd, Nat.reduceLeDiff, Nat.reduceMul, Nat.reduceLT, Int.reduceEq, Int.reduceLT, Int.reduceLE, h1, h2, h4, h6, h7, h8, r1, r2, n1, n2, h0, hx, i1, m1, m2, m3, m4]
      have e9 : ((H2.set b4 ⟨1, 34, [[.vsl [] true]]⟩).set b7 ⟨1, 34, [[x]]⟩) b9 = none := by rw [set_other m1, set_other m3]; exact hb9
      have e74 : (H2.set b4 ⟨1, 34, [[.vsl [] true]]⟩) b7 = none := by rw [set_other n1]; exact e7
      have hlen : ((L.take k).map (isoAt h L)).length ≤ 1000000 := by simp; omega
      refine grow_append (m := [isoAt h L (L.getD k default)]) te32 ti70 rFault_len (by decide) (grow_in (grow_in (grow_in hg e4) e74) e9) (by simp only [List.length_cons, List.length_nil]; omega) (by simp only [List.length_cons, List.length_nil]; omega) rfl fun x' H' hg' => ?_
      have f4 := grow_none hg e4
      have f7 := grow_none hg e7
      have f9 := grow_none hg hb9
      obtain ⟨G1, hg1, rfl, u9⟩ := grow_out hg' (by rw [set_other m1, set_other m3]; exact f9)
      obtain ⟨G2, hg2, rfl, u7⟩ := grow_out hg1 (by rw [set_other n1]; exact f7)
      obtain ⟨G3, hg3, rfl, u4⟩ := grow_out hg2 f4
      obtain ⟨r3, r4⟩ := one_grow hg3
      rw [set_other n1] at u7
      rw [set_other m1, set_other m3] at u9
      simp +contextual -dsimp -implicitDefEqProofs (maxSteps := 5000000) only [go_sem, reduceIte, reduceCtorEq, Nat.reduceEqDiff, Nat.reduceBEq, Nat.reduceAdd, Nat.reduceLeDiff, Nat.reduceMul, Nat.reduceLT, Int.reduceEq, Int.reduceLT, Int.reduceLE, h1, h2, h4, h6, h7, h8, r1, r2, r3, r4, n1, n2, h0, hx, i1, m1, m2, m3, m4, u9]
      exact ⟨_, by omega, k + 1, G3, x', rfl, h0, by rw [List.take_succ_eq_append_getElem h0, List.map_append]; simpa [List.getD_eq_getElem?_getD, h0] using hg3, u4, u7, rfl, I_wrap (by omega) (by omega) (by omega)⟩
    · refine draw_intro [1, 0, 0, 3, 2, 0] ((H2.set b4 ⟨1, 34, [[.vsl [] true]]⟩).set b7 ⟨1, 34, [[x]]⟩) (by kernel_rfl) (AHeap.le_refl _) ?_
      simp +contextual -dsimp -implicitDefEqProofs (maxSteps := 5000000) only [go_sem, reduceIte, reduceCtorEq, Nat.reduceEqDiff, Nat.reduceBEq, Nat.reduceAdd, Nat.reduceLeDiff, Nat.reduceMul, Nat.reduceLT, Int.reduceEq, Int.reduceLT, Int.reduceLE, h1, h2, h4, h6, h7, h8, r1, r2, n1, n2]
      refine (c_indexOf _ _ _ _).det ?_
      simp +contextual -dsimp -implicitDefEqProofs (maxSteps := 5000000) only [go_sem, reduceIte, reduceCtorEq, Nat.reduceEqDiff, Nat.reduceBEq, Nat.reduceAdd, Nat.reduceLeDiff, Nat.reduceMul, Nat.reduceLT, Int.reduceEq, Int.reduceLT, Int.reduceLE, h1, h2, h4, h6, h7, h8, r1, r2, n1, n2]
      rw [List.take_of_length_le (by omega)] at hg
      refine retR_less (l := [.agg [x], I (idxF (fun x => decide (f = x)) L)]) (H' := H2) ?_ (fun c k hc => ?_) ⟨x, rfl, hg⟩
      · simp only [resA, go_sem, reduceIte, reduceCtorEq, Nat.reduceEqDiff, Nat.reduceBEq, Nat.reduceAdd, Nat.reduceLeDiff, Nat.reduceMul, Nat.reduceLT, Int.reduceEq, Int.reduceLT, Int.reduceLE, n1, n2, h4]
      · have c1 : c ≠ b4 := fun e => by rw [e, e4] at hc; cases hc
        have c2 : c ≠ b7 := fun e => by rw [e, e7] at hc; cases hc
        rw [set_other c2, set_other c1]; exact hc
theorem c_isolated (h : List Fault) (cl : Bool) (f : Int) (H : AHeap) (hl : h.length ≤ 999999) (ho : heapOk h) (hf : f < h.length) (hm : ∀ a ∈ sortedF (dchF h f), 0 ≤ a ∧ a < h.length) (hll : (dchF h f).length ≤ 1000000 ∧ (sortedF (dchF h f)).length ≤ 1000000) :
    ACalls Try.prog 38 [aHeap h cl, I f] H fun r H' => (∃ cl', r = .tup [aHeap (isoL h (sortedF (dchF h f))) cl', I (idxF (fun x => decide (f = x)) (sortedF (dchF h f)))]) ∧ H' = H := by
  refine acalls_fz (c_isolated0 h cl f H hl ho hf hm hll) ?_
  rintro _ H' ⟨x, rfl, hg⟩
  obtain ⟨cl', hz⟩ := grow_fz hg
  exact ⟨_, H, grow_le hg, fz_tup (.cons (fz_agg (.cons hz .nil)) (.refl _)), ⟨cl', rfl⟩, rfl⟩
end Go.Proofs.Ytihjbbiajggcoaa
end
section
set_option linter.unusedVariables false
set_option linter.unusedSimpArgs false
namespace Go.Proofs.Ytihjbbiajggcoaa
open Go Go.Sim
set_option maxRecDepth 100000

structure Clo where
  log : List Int
  fs : List Fault
  cur : Int
def isF (t : List Class) (a b : Int) : Bool := (aboveF t a).any fun x => decide (b = x)
def stepX (t : List Class) (s : Clo) (e : Exi) : Clo :=
  if e.kind = 0 then { s with log := s.log ++ [e.a] }
  else if e.kind = 1 then (if 0 ≤ s.cur then { s with log := s.log ++ [e.a] } else s)
  else if e.kind = 2 then (if 0 ≤ s.cur ∧ isF t (s.fs.getD s.cur.toNat default).cls e.a = true then { s with cur := -1 } else s)
  else if e.kind = 3 then { s with fs := raiseF s.fs e.a e.b s.cur, cur := s.fs.length } else s
def startX (x : Sta) : Clo := if x.has then ⟨[], raiseF [] x.cls x.code (-1), 0⟩ else ⟨[], [], -1⟩
/-- Exits are done from the last one to the first one. -/
def closeX (t : List Class) (l : List Exi) (x : Sta) : Clo := l.reverse.foldl (stepX t) (startX x)
def resX (s : Clo) : Res :=
  if 0 ≤ s.cur then ⟨s.log, 2, idxF (fun x => decide (s.cur = x)) (sortedF (dchF s.fs s.cur)), isoL s.fs (sortedF (dchF s.fs s.cur))⟩ else ⟨s.log, 0, 0, []⟩
end Go.Proofs.Ytihjbbiajggcoaa
end
section
set_option linter.unusedVariables false
set_option linter.unusedSimpArgs false
namespace Go.Proofs.Ytihjbbiajggcoaa
open Go Go.Sim
set_option maxRecDepth 100000

/-- What holds of what exits have done. -/
structure CloOk (t : List Class) (s : Clo) (n : Nat) : Prop where
  ho : heapOk s.fs
  cur : s.cur < s.fs.length
  len : s.fs.length ≤ n + 1
  log : s.log.length ≤ n
  cls : ∀ k, k < s.fs.length → 0 ≤ (s.fs.getD k default).cls ∧ (s.fs.getD k default).cls < t.length
theorem validX_at {t : List Class} {l : List Exi} (h : validX t l = true) {i : Nat} (hi : i < l.length) : exitOk t (l.getD i default) = true := by
  simp only [validX, Bool.and_eq_true, List.all_eq_true] at h
  apply h.2
  rw [List.getD_eq_getElem?_getD, List.getElem?_eq_getElem hi]
  exact List.getElem_mem hi
theorem validX_T {t : List Class} {l : List Exi} (h : validX t l = true) : validT t = true ∧ l.length ≤ 8 := by
  simp only [validX, Bool.and_eq_true, decide_eq_true_eq] at h
  exact h.1
theorem rev_take {l : List Exi} {k : Nat} (h : k < l.length) : l.reverse.take (k + 1) = l.reverse.take k ++ [l.getD (l.length - 1 - k) default] := by
  rw [List.take_succ_eq_append_getElem (by simpa using h), List.getElem_reverse]
  have : l.length - 1 - k < l.length := by omega
  simp [List.getD_eq_getElem?_getD, this]
theorem hasF_spec {t : List Class} {a : Int} (h : hasF t a = true) : 0 ≤ a ∧ a < t.length := by
  simp only [hasF, inR, Bool.and_eq_true, decide_eq_true_eq] at h
  omega
theorem raiseF_at {fs : List Fault} {c d g : Int} {k : Nat} (hk : k < (raiseF fs c d g).length) : (k < fs.length ∧ (raiseF fs c d g).getD k default = fs.getD k default) ∨ (k = fs.length ∧ ((raiseF fs c d g).getD k default).cls = c) := by
  rw [raiseF_len] at hk
  unfold raiseF
  rcases Nat.lt_or_ge k fs.length with q | q
  · left; refine ⟨q, ?_⟩
    rw [List.getD_eq_getElem?_getD, List.getD_eq_getElem?_getD, List.getElem?_append_left q]
  · right
    have : k = fs.length := by omega
    subst this
    refine ⟨rfl, ?_⟩
    simp [List.getD_eq_getElem?_getD]
theorem CloOk.raise {t : List Class} {s : Clo} {n : Nat} (h : CloOk t s n) {c d : Int} (hc : hasF t c = true) : CloOk t { s with fs := raiseF s.fs c d s.cur, cur := s.fs.length } (n + 1) := by
  refine ⟨raiseF_ok h.ho h.cur, by simp only [raiseF_len]; omega, by simp only [raiseF_len]; have := h.len; omega, Nat.le_succ_of_le h.log, fun k hk => ?_⟩
  rcases raiseF_at hk with ⟨q1, q2⟩ | ⟨q1, q2⟩
  · simp only [q2]; exact h.cls k q1
  · simp only [q2]; exact hasF_spec hc
theorem CloOk.step {t : List Class} {s : Clo} {n : Nat} (h : CloOk t s n) {e : Exi} (he : exitOk t e = true) : CloOk t (stepX t s e) (n + 1) := by
  unfold stepX
  have wk : CloOk t s (n + 1) := ⟨h.ho, h.cur, Nat.le_succ_of_le h.len, Nat.le_succ_of_le h.log, h.cls⟩
  have lg : CloOk t { s with log := s.log ++ [e.a] } (n + 1) := ⟨h.ho, h.cur, Nat.le_succ_of_le h.len, by simp; exact h.log, h.cls⟩
  split
  · exact lg
  split
  · split
    · exact lg
    · exact wk
  split
  · split
    · exact ⟨h.ho, by show (-1 : Int) < _; omega, Nat.le_succ_of_le h.len, Nat.le_succ_of_le h.log, h.cls⟩
    · exact wk
  split
  · rename_i h0 h1 h2 h3
    apply h.raise
    unfold exitOk at he
    simp only [h3] at he
    simp at he
    exact he.1
  · exact wk
theorem CloOk.start {t : List Class} {x : Sta} (hs : startOk t x = true) : CloOk t (startX x) 0 := by
  unfold startX
  split
  · rename_i hx
    have hc : hasF t x.cls = true := by
      unfold startOk at hs
      simp only [hx, if_true, Bool.and_eq_true] at hs
      exact hs.1
    have h0 : CloOk t ⟨[], [], -1⟩ 0 := ⟨heapOk_nil, by simp, by simp, by simp, fun k hk => by simp at hk⟩
    have := h0.raise (d := x.code) hc
    exact ⟨this.ho, this.cur, by simp [raiseF_len], by simp, this.cls⟩
  · exact ⟨heapOk_nil, by simp, by simp, by simp, fun k hk => by simp at hk⟩
theorem dchG_mem {h : List Fault} (ho : heapOk h) : ∀ (n : Nat) (f : Int), f < h.length → ∀ a ∈ dchG h n f, 0 ≤ a ∧ a ≤ f
  | 0, f, _, a, ha => by cases ha
  | n + 1, f, hf, a, ha => by
    simp only [dchG] at ha
    split at ha
    · rename_i h0
      rcases List.mem_cons.1 ha with rfl | ha
      · exact ⟨h0, Int.le_refl _⟩
      · have hc := ho f.toNat (by omega)
        have h1 : ctxOf h f < f := by unfold ctxOf; omega
        have := dchG_mem ho n (ctxOf h f) (by omega) a ha
        omega
    · cases ha
theorem dchG_len {h : List Fault} : ∀ (n : Nat) (f : Int), (dchG h n f).length ≤ n
  | 0, f => Nat.le_refl _
  | n + 1, f => by
    simp only [dchG]
    split
    · simp only [List.length_cons]; exact Nat.succ_le_succ (dchG_len n _)
    · simp
theorem insF_mem {out : List Int} {v a : Int} (h : a ∈ insF out v) : a ∈ out ∨ a = v := by
  unfold insF at h
  split at h
  · simp only [List.mem_append, List.mem_singleton] at h
    rcases h with (h | h) | h
    · exact .inl (List.mem_of_mem_take h)
    · exact .inr h
    · exact .inl (List.mem_of_mem_drop h)
  · exact .inl h
theorem foldl_insF_mem : ∀ (l out : List Int) {a : Int}, a ∈ l.foldl insF out → a ∈ out ∨ a ∈ l
  | [], out, a, h => .inl h
  | v :: l, out, a, h => by
    rcases foldl_insF_mem l _ h with h | h
    · rcases insF_mem h with h | h
      · exact .inl h
      · exact .inr (by simp [h])
    · exact .inr (by simp [h])
theorem sortedF_mem {l : List Int} {a : Int} (h : a ∈ sortedF l) : a ∈ l := by
  rcases foldl_insF_mem l [] h with h | h
  · cases h
  · exact h
theorem foldl_insF_len : ∀ (l out : List Int), (l.foldl insF out).length ≤ out.length + l.length
  | [], out => by simp
  | v :: l, out => by
    have := foldl_insF_len l (insF out v)
    have h2 := insF_len out v
    simp only [List.foldl_cons, List.length_cons]
    omega
theorem sortedF_len (l : List Int) : (sortedF l).length ≤ l.length := by
  have := foldl_insF_len l []
  simpa [sortedF] using this
theorem dch_ok {h : List Fault} (ho : heapOk h) {f : Int} (hf : f < h.length) : ∀ a ∈ sortedF (dchF h f), 0 ≤ a ∧ a < h.length := fun a ha => by
  have := dchG_mem ho _ f hf a (sortedF_mem ha)
  omega
theorem dch_len {h : List Fault} {f : Int} (hf : f < h.length) (hl : h.length ≤ 999999) : (dchF h f).length ≤ 1000000 ∧ (sortedF (dchF h f)).length ≤ 1000000 := by
  have h1 := dchG_len (h := h) (f + 1).toNat f
  have h2 := sortedF_len (dchF h f)
  unfold dchF at *
  omega
end Go.Proofs.Ytihjbbiajggcoaa
end
