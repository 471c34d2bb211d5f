/- FnWithFinally answers true at every input: the program's and the reference's WithFinally agree, and it tells and ends as said. No condition. -/
import Derived.Test.YtbjgilehnlpmaaaGreatJ4
import Derived.Test.YtbjgilehnlpmaaaGreatSimZ
import Derived.Test.YtbjgilehnlpmaaaGreatGrow
import Derived.Test.YtbjgilehnlpmaaaGreatJ2
set_option linter.unusedVariables false
set_option linter.unusedSimpArgs false
namespace Go.Proofs.YtbjgilehnlpmaaaGreat
open Go Go.Sim
section
open Go Go.Sim
set_option maxRecDepth 100000
theorem dchG_pos {h : List Fault} : ∀ (m : Nat) (f a : Int), a ∈ dchG h m f → 0 ≤ a
  | 0, f, a, q => by cases q
  | m + 1, f, a, q => by
    simp only [dchG] at q
    split at q
    · rcases List.mem_cons.1 q with e | e
      · omega
      · exact dchG_pos m _ a e
    · cases q
theorem dchG_lt {h : List Fault} (ho : heapOk h) {m : Nat} {f a : Int} (hf : f < h.length) (q : a ∈ dchG h m f) : a < h.length := by
  have := (dchG_dec ho m f hf).2 a q
  omega
/-- A fault isolated: its number, and the faults. -/
def isoR (fs : List Fault) (v : Int) : Int × List Fault := (idxF (fun x => decide (v = x)) (sortI (bfsF fs v)), isoL fs (sortI (bfsF fs v)))
theorem sort_dch {h : List Fault} (ho : heapOk h) {f : Int} (h0 : 0 ≤ f) (h1 : f < h.length) : sortI (bfsF h f) = (dchF h f).reverse := by
  rw [bfsF_dch ho h0 h1]
  exact sortI_dec (dchG_dec ho (f + 1).toNat f h1).1
section
variable {F h : List Fault}
theorem dch_pre {X : List Fault} (ho : heapOk F) : ∀ (m : Nat) (v : Int), v < F.length → dchG (F ++ X) m v = dchG F m v
  | 0, v, _ => rfl
  | m + 1, v, hv => by
    simp only [dchG]
    split
    · rename_i h0
      obtain ⟨o1, o2, o3⟩ := ho v.toNat (by omega)
      have e : ctxOf (F ++ X) v = ctxOf F v := by
        unfold ctxOf
        simp only [List.getD_eq_getElem?_getD]
        rw [List.getElem?_append_left (by omega)]
      have e3 : ctxOf F v < F.length := by
        have : ctxOf F v < v.toNat := o3
        omega
      rw [e, dch_pre ho m _ e3]
    · rfl
theorem iso_pre {X : List Fault} (ho : heapOk F) (ho' : heapOk (F ++ X)) {v : Int} (h0 : 0 ≤ v) (h1 : v < F.length) : isoR (F ++ X) v = isoR F v := by
  have hl : (F ++ X).length = F.length + X.length := by simp
  unfold isoR
  rw [sort_dch ho h0 h1, sort_dch ho' h0 (by omega)]
  have e1 : dchF (F ++ X) v = dchF F v := dch_pre ho _ v h1
  rw [e1]
  have hm : ∀ a ∈ (dchF F v).reverse, 0 ≤ a ∧ a < F.length := fun a ha => by
    rw [List.mem_reverse] at ha
    exact ⟨dchG_pos _ _ a ha, dchG_lt ho h1 ha⟩
  generalize (dchF F v).reverse = S at hm ⊢
  rw [Prod.mk.injEq]
  refine ⟨rfl, ?_⟩
  unfold isoL
  refine List.map_congr_left fun a ha => ?_
  obtain ⟨a0, a1⟩ := hm a ha
  have e : (F ++ X).getD a.toNat default = F.getD a.toNat default := by
    simp only [List.getD_eq_getElem?_getD]
    rw [List.getElem?_append_left (by omega)]
  unfold isoAt
  rw [e]
end
theorem runP_def (t : List Class) (p : List Line) : runP t p = runF t (forestP p) 0 none (-1) rs0 := rfl
theorem res_two {r : En × RS} (h : r.1.ed = 2) : resOf r = ⟨r.2.log, 2, (isoR r.2.fs r.1.val).1, (isoR r.2.fs r.1.val).2⟩ := by unfold resOf isoR; rw [if_pos h]
theorem res_else {r : En × RS} (h : r.1.ed ≠ 2) : resOf r = ⟨r.2.log, r.1.ed, r.1.val, []⟩ := by unfold resOf; rw [if_neg h]
theorem res_log (r : En × RS) : (resOf r).log = r.2.log := by unfold resOf; split <;> rfl
theorem res_ed (r : En × RS) : (resOf r).ed = r.1.ed := by
  unfold resOf
  split
  · rename_i h; rw [h]
  · rfl
end
section
open Go Go.Sim
set_option maxRecDepth 100000

theorem sr_start (s : RS) (wk : Bool) : SR (behind s.log s.fs wk) rs0 s := ⟨by show _ = _ ++ []; rw [List.append_nil], [], by show _ = _ ++ []; rw [List.append_nil], fun _ => rfl, fun _ => rfl⟩
/-- The program of a loop's block, from where it is. -/
def bodyP (t : List Class) (f : Fo) (s : RS) : En × RS := runF t f 1 none (-1) s
theorem en_same {e : En} {s : RS} (h : e.ed = 0 → e.val = 0) : (if e.ed = 0 then (En.next, s) else (e, s)) = (e, s) := by
  split
  · rename_i c
    obtain ⟨a, b⟩ := e
    simp only at c h
    rw [c, h c]; rfl
  · rfl
theorem body_eq {t : List Class} {p : List Line} : REq (runP t p) (bodyP t (forestP p) rs0) := run_eq t (forestP p) 0 1 (-1) rs0 rs0 rfl rfl
def finP (p q : List Line) : List Line := (⟨0, 7, 0, 0⟩ :: innP p) ++ (⟨0, 10, 0, 0⟩ :: innP q)
theorem forest_two {t : List Class} {p q : List Line} (hp : ValidP t p) (hq : ValidP t q) (k a : Int) : forestP ((⟨0, 7, 0, 0⟩ :: innP p) ++ (⟨0, k, a, 0⟩ :: innP q)) = .node 7 0 0 (innF (forestP p)) (.node k a 0 (innF (forestP q)) .nil) := by
  obtain ⟨_, e1, _⟩ := validP_forest hp
  obtain ⟨_, e2, _⟩ := validP_forest hq
  have : (⟨0, 7, 0, 0⟩ :: innP p) ++ (⟨0, k, a, 0⟩ :: innP q) = (Fo.node 7 0 0 (innF (forestP p)) (.node k a 0 (innF (forestP q)) .nil)).flat 0 := by
    simp only [Fo.flat, List.append_nil]
    rw [show (0 : Int) + 1 = 1 from rfl, innF_flat, innF_flat, ← e1, ← e2]; rfl
  rw [this, forestP_flat]
/-- The second program, from where the first one ended. -/
noncomputable def nextP (t : List Class) (p q : List Line) (h : Int) : En × RS := runF t (forestP q) (0 + 1 + (innF (forestP p)).size + 1) none h (bodyP t (forestP p) rs0).2
theorem fin_run {t : List Class} {p q : List Line} (hp : ValidP t p) (hq : ValidP t q) :
    runP t (finP p q) = (fun n : En × RS => (if n.1.ed = 0 then (runP t p).1 else n.1, n.2)) (nextP t p q (if (runP t p).1.ed = 2 then (runP t p).1.val else -1)) := by
  have hb := body_eq (t := t) (p := p)
  have e0 : runF t (innF (forestP p)) (0 + 1) none (-1) rs0 = bodyP t (forestP p) rs0 := run_inn t (forestP p) _ _ _
  rw [runP_def, finP, forest_two hp hq, runF_try, e0]
  simp only [runF, show followsK 10 = true from rfl, if_true, show ¬ (10 : Int) = 8 by decide, show ¬ (10 : Int) = 9 by decide, if_false]
  rw [run_inn, hb.1]
  have en : runF t (forestP q) (0 + 1 + (innF (forestP p)).size + 1) none (if (runP t p).1.ed = 2 then (runP t p).1.val else -1) (bodyP t (forestP p) rs0).2 = nextP t p q (if (runP t p).1.ed = 2 then (runP t p).1.val else -1) := rfl
  rw [en]
  generalize nextP t p q (if (runP t p).1.ed = 2 then (runP t p).1.val else -1) = n
  refine en_same (s := n.2) ?_
  split
  · exact (ed_top hp).1
  · exact fun h => absurd h ‹_›
theorem noAg_flat : ∀ (f : Fo) (d : Int), noAg f = true ↔ ∀ x ∈ f.flat d, x.kind ≠ 3
  | .nil, d => by simp [noAg, Fo.flat]
  | .node k a b kids rest, d => by
    simp only [noAg, Fo.flat, Bool.and_eq_true, Bool.not_eq_true', decide_eq_false_iff_not, noAg_flat kids (d + 1), noAg_flat rest d, List.mem_cons, List.mem_append]
    constructor
    · rintro ⟨h1, h2, h3⟩ x (rfl | h | h)
      · exact h1
      · exact h2 x h
      · exact h3 x h
    · exact fun h => ⟨h _ (.inl rfl), fun x hx => h x (.inr (.inl hx)), fun x hx => h x (.inr (.inr hx))⟩
theorem next_on {t : List Class} {p q : List Line} (hq : ValidP t q) (hn : ∀ x ∈ q, x.kind ≠ 3) (h : Int) : RR (behind (runP t p).2.log (runP t p).2.fs true) (runP t q) (nextP t p q h) := by
  have hb := body_eq (t := t) (p := p)
  obtain ⟨_, e2, _⟩ := validP_forest hq
  have hs := sr_start (bodyP t (forestP p) rs0).2 true
  rw [hb.2.1, hb.2.2] at hs
  exact sim_behind (runP t p).2.log (runP t p).2.fs true t (forestP q) 0 _ (-1) h rs0 _ (fun _ => (noAg_flat _ 0).2 (by rw [← e2]; exact hn)) (.inr ⟨by decide, .inl rfl⟩) hs
theorem next_goes {t : List Class} {p q : List Line} (hp : ValidP t p) (hq : ValidP t q) {h : Int} (hh : h < (runP t p).2.fs.length) : Goes t (cost (forestP q)) (bodyP t (forestP p) rs0).2 (nextP t p q h).1 (nextP t p q h).2 := by
  obtain ⟨h1, h2, h3, h4, h5, h6⟩ := validP_forest hq
  have hb := body_eq (t := t) (p := p)
  exact goes_run h1 (forestP q) _ none 0 h _ h3 (by rw [hb.2.2]; exact (runP_goes hp).ok) (by rw [hb.2.2]; exact hh) trivial
theorem run_val {t : List Class} {p : List Line} (hp : ValidP t p) : (if (runP t p).1.ed = 2 then (runP t p).1.val else -1) < (runP t p).2.fs.length := by
  have := (runP_goes hp).val
  split
  · exact (this ‹_›).2
  · omega
/-- What comes last is run, whatever ends. -/
theorem fin_law {t : List Class} {p q : List Line} (hp : ValidP t p) (hq : ValidP t q) (hf : ValidP t (finP p q)) :
    (∃ m, (resOf (runP t (finP p q))).log = (resOf (runP t p)).log ++ m) ∧
    ((∀ x ∈ q, x.kind ≠ 3) → (resOf (runP t (finP p q))).log = (resOf (runP t p)).log ++ (resOf (runP t q)).log ∧
      ((resOf (runP t q)).ed = 0 → (resOf (runP t (finP p q))).ed = (resOf (runP t p)).ed ∧ (resOf (runP t (finP p q))).val = (resOf (runP t p)).val ∧ (resOf (runP t (finP p q))).heap = (resOf (runP t p)).heap) ∧
      ((resOf (runP t q)).ed ≠ 0 → (resOf (runP t (finP p q))).ed = (resOf (runP t q)).ed ∧ ((resOf (runP t q)).ed = 2 ∨ (resOf (runP t (finP p q))).val = (resOf (runP t q)).val))) := by
  have hb := body_eq (t := t) (p := p)
  have hg := next_goes hp hq (run_val hp)
  have hgf := (runP_goes hf).ok.ho
  have hgp := runP_goes hp
  have hon := fun hn => next_on (p := p) hq hn (if (runP t p).1.ed = 2 then (runP t p).1.val else -1)
  rw [fin_run hp hq] at hgf ⊢
  generalize nextP t p q (if (runP t p).1.ed = 2 then (runP t p).1.val else -1) = n at hg hon hgf ⊢
  simp only [res_log, res_ed]
  obtain ⟨m, e1, _⟩ := hg.log
  obtain ⟨X, e2, _⟩ := hg.fs
  rw [hb.2.1] at e1
  rw [hb.2.2] at e2
  refine ⟨⟨m, e1⟩, fun hn => ?_⟩
  obtain ⟨⟨a1, a2, a3⟩, b1, _⟩ := hon hn
  have b1' : n.2.log = (runP t p).2.log ++ (runP t q).2.log := b1
  refine ⟨b1', fun h0 => ?_, fun h0 => ?_⟩
  · rw [if_pos (by omega)]
    refine ⟨rfl, ?_⟩
    by_cases c : (runP t p).1.ed = 2
    · rw [res_two (r := ((runP t p).1, n.2)) c, res_two c]
      simp only at hgf
      have := iso_pre (X := X) hgp.ok.ho (by rw [← e2]; exact hgf) (hgp.val c).1 (hgp.val c).2
      show (isoR n.2.fs (runP t p).1.val).1 = _ ∧ (isoR n.2.fs (runP t p).1.val).2 = _
      rw [e2, this]
      exact ⟨rfl, rfl⟩
    · rw [res_else (r := ((runP t p).1, n.2)) c, res_else c]
      exact ⟨rfl, rfl⟩
  · rw [if_neg (by omega)]
    refine ⟨a1, ?_⟩
    by_cases c : (runP t q).1.ed = 2
    · exact .inl c
    · right
      rw [res_else (r := (n.1, n.2)) (by show n.1.ed ≠ 2; rw [a1]; exact c), res_else c]
      exact a3 c
end
section
set_option maxRecDepth 100000
attribute [local go_sem ↓] aw_skip aw_ret aw_exit aw_region aw_draw aw_seq aw_block aw_loop aw_cond frz_nil frz_cons sq_normal sq_ret sq_exit exB_normal exB_ret exB_same exB_other retQ_ret retQ_normal ret0_ret ret0_normal ao_nil go1 g_move g_assign g_pick g_build g_load g_binOp g_unOp g_convert g_fieldAddr g_field g_indexAddr g_index g_extract g_slice g_nilCheck g_len g_makeFunc h_call h_append h_alloc h_box h_buildSlice h_makeSlice h_store gV i_box i_buildSlice i_move i_assign i_build i_load i_binOp i_unOp i_convert i_fieldAddr i_field i_indexAddr i_index i_extract i_slice i_nilCheck i_makeFunc i_len i_max i_min i_alloc i_makeSlice i_store i_append i_call i_pick boxI boxA buildSliceI buildSliceA makeSliceA allocA storeA p_move p_assign p_pick p_build p_load p_binOp p_unOp p_convert p_fieldAddr p_field p_indexAddr p_index p_extract p_slice p_nilCheck p_makeFunc p_len p_max p_min p_alloc p_box p_buildSlice p_makeSlice p_store p_append p_call x_nil x_go1 x_g0 x_g1 x_g2 x_g3 x_s0 x_s1 x_s2 x_s3 u_move u_assign u_pick u_build u_load u_binOp u_unOp u_convert u_fieldAddr u_field u_indexAddr u_index u_extract u_slice u_nilCheck u_makeFunc u_len u_buildSlice x_s4 x_g4 rq_normal rq_ret rq_exit aw_range
attribute [local go_sem] frzV_sl frzK_some set_none set_other AHeap.set_self set_del set_set cnd_t cnd_f cnd_b retA_one retA_two retA_three retA_four retA_nil gIf_b mrgV_b mrgV_wh mrgV_U gIf_U gIf_wh mrgB_f mrgB_some mrgB_if wh_true wh_false keepA_some keepA_if gD_zero gD_succ gT_some bxA_t bxA_f callA_fn ev_tmp ev_const ev_global ev_func oc_bool oc_int oc_string oc_nil oc_nilptr oc_nilfunc cl_bool cl_int cl_string cl_nil updO_some updO_none upd_same upd_other init_at pickA_b pickA_wh selA_t selA_f selA_and selA_or selA_orn selA_orm selA_bb selA_ii beqt b_add b_sub b_mul b_and b_or b_xor b_eql b_neq b_lss b_leq b_gtr b_geq b_quo b_rem b_shr b_seql b_sneq b_sadd b_beql b_bneq b_aeql b_aneq u_not u_neg isConstOp eqA eqCellV List.getD_cons_zero List.getD_cons_succ List.map_cons List.map_nil List.nil_append List.cons_append List.append_nil if_true if_false Option.map_some Option.map_none ne_eq not_false_eq_true oneA ldv ld1v ld1s wr1s ldRow stRow row_lit row_agg row_vsl row_sl row_ptr row_fn one_I one_B one_S one_vsl one_sl one_ptr one_fn extractA okA rI rS rU rClass rFault rExit rStart rLine Int.toNat_natCast List.length_cons List.length_nil List.length_map List.all_cons List.all_nil Bool.and_true Nat.zero_add List.getElem?_cons_zero List.getElem?_cons_succ List.take_succ_cons List.take_zero List.drop_succ_cons List.drop_zero and_self true_and and_true implies_true decide_eq_true_eq decide_eq_false_iff_not Bool.or_eq_true Bool.or_eq_false_iff Bool.and_eq_true Bool.not_eq_true' Bool.not_eq_false' beq_false decide_true decide_false Int.ofNat_lt Int.ofNat_le Int.natCast_nonneg Bool.or_true Bool.or_false Bool.true_or Bool.false_or beq_self_eq_true List.drop_one Bool.not_true Bool.not_false Bool.not_not Bool.false_eq_true Bool.true_eq_false false_implies true_implies Bool.true_and Bool.false_and Bool.and_false not_true_eq_false Int.natCast_eq_zero Int.natCast_pos Int.natCast_zero false_and and_false or_false false_or or_true true_or Bool.or_self none_le_iff List.replicate_zero Int.toNat_zero List.replicate_succ buildRows List.set_cons_zero List.set_cons_succ List.set_nil List.mapM_nil maxLen_eq Nat.zero_le Nat.mul_one Nat.one_mul bldA fillA spliceA List.take_nil List.drop_nil List.getElem?_nil ld1o wr1o bldSliceA le_same cv_i cvI_t quietT_fn qvd_some ld_o ldO_1 ldO_l wr_o wrO_1 set_2 set_3 set_4 putL_nil putL_cons List.zip_cons_cons List.zip_nil_left List.zip_nil_right List.toList_toArray frzV_set ti1 ti2 tk2 ti3 te3 ts3 tk3 tz3 ti4 tb4 ti5 tk5 tz5 ti9 te9 ts9 tk9 tz9 ti12 tk12 ti13 tp13 tf13_0 tf13_1 ti20 ti21 tk21 tz21 ti22 te22 ti23 tp23 tf23_0 ti24 tp24 tf24_0 ti25 te25 ti26 te26 ti27 te27 ti28 tp28 tf28_0 ti29 tp29 tf29_0 ti30 tp30 tf30_0 tf30_1 tf30_2 tf30_3 ti31 tp31 tf31_0 tf31_1 tf31_2 tf31_3 ti32 ti33 ti34 ti35 te35 tz35 ti37 ti38 ti39 ti40 ti42 ti44 ti46 ti47 ti48 ti49 tq49 tp49 tf49_0 tf49_1 tf49_2 tf49_3 ti50 tq50 tp50 tf50_0 tf50_1 tf50_2 tf50_3 ti51 ti52 ti53 ti54 ti55 ti56 ti57 ti58 tq58 tp58 tf58_0 tf58_1 ti59 tq59 tp59 tf59_0 tf59_1 ti60 ti61 ti62 ti63 ti64 ti65 ti66 ti67 ti68 ti69 ti70 ti71 ti72 ti73 ti74 ti75 ti76 ti77 ti78 ti79 tq79 tp79 tf79_0 tf79_1 tf79_2 tf79_3 tf79_4 ti80 tq80 tp80 tf80_0 tf80_1 tf80_2 tf80_3 tf80_4 ti81 ti82 ti83 ti84 ti85 ti86 ti87 ti88 ti89 tp89 tf89_0 tf89_1 tf89_2 tf89_3 tf89_4 ti90 tp90 tf90_0 tf90_1 tf90_2 tf90_3 tf90_4 ti91 ti93 ti94 ti95 ti96 ti97 ti98 tp98 tf98_0 tf98_1 tf98_2 tf98_3 ti99 tp99 tf99_0 tf99_1 tf99_2 tf99_3 ti100 tq100 tp100 tf100_0 tf100_1 ti101 tq101 tp101 tf101_0 tf101_1 ti102 ti103 ti104 tq104 tp104 tf104_0 tf104_1 ti105 tq105 tp105 tf105_0 tf105_1 ti106 ti107 ti108 ti109 ti110 ti111 ti112 ti113 tp113 tf113_0 tf113_1 ti114 tp114 tf114_0 tf114_1 ti115 ti116 ti117 ti118 te118 ti119 ti120 ti121 ti122 ti123 ti124 ti125 ti126 ti127 ti128 ti129 ti130 ti131 te131 ti132 ti133 ti134 ti135 ti136 tk136 tz136 ti137 ti138 ti139 ti140 ti141 ti142 ti143 tk143 ti145 ti146 ti147 ti149 ti150 ti151 tk151 tz151 ti152 ti153 tk153 tz153 ti154 ti155 ti156 ti157 ti158 tk158 ti159 ti160 ti161 ti162 ti163 ti164 ti165 ti167 ti168 ti174 ti178 fp13_0 fv13_0 fp13_1 fv13_1 fp23_0 fv23_0 fp24_0 fv24_0 fp28_0 fv28_0 fp29_0 fv29_0 fp30_0 fv30_0 fp30_1 fv30_1 fp30_2 fv30_2 fp30_3 fv30_3 fp31_0 fv31_0 fp31_1 fv31_1 fp31_2 fv31_2 fp31_3 fv31_3 fp49_0 fv49_0 fp49_1 fv49_1 fp49_2 fv49_2 fp49_3 fv49_3 fp50_0 fv50_0 fp50_1 fv50_1 fp50_2 fv50_2 fp50_3 fv50_3 fp58_0 fv58_0 fp58_1 fv58_1 fp59_0 fv59_0 fp59_1 fv59_1 fp79_0 fv79_0 fp79_1 fv79_1 fp79_2 fv79_2 fp79_3 fv79_3 fp79_4 fv79_4 fp80_0 fv80_0 fp80_1 fv80_1 fp80_2 fv80_2 fp80_3 fv80_3 fp80_4 fv80_4 fp89_0 fv89_0 fp89_1 fv89_1 fp89_2 fv89_2 fp89_3 fv89_3 fp89_4 fv89_4 fp90_0 fv90_0 fp90_1 fv90_1 fp90_2 fv90_2 fp90_3 fv90_3 fp90_4 fv90_4 fp98_0 fv98_0 fp98_1 fv98_1 fp98_2 fv98_2 fp98_3 fv98_3 fp99_0 fv99_0 fp99_1 fv99_1 fp99_2 fv99_2 fp99_3 fv99_3 fp100_0 fv100_0 fp100_1 fv100_1 fp101_0 fv101_0 fp101_1 fv101_1 fp104_0 fv104_0 fp104_1 fv104_1 fp105_0 fv105_0 fp105_1 fv105_1 fp113_0 fv113_0 fp113_1 fv113_1 fp114_0 fv114_0 fp114_1 fv114_1 lv22 ll22 is22 ix22 sh22 so22 sb22 sm22 sp22 lv25 ll25 is25 ix25 sh25 so25 sb25 sm25 sp25 lv26 ll26 is26 ix26 sh26 so26 sb26 sm26 sp26 lv27 ll27 is27 ix27 sh27 so27 sb27 sm27 sp27 lv35 ll35 is35 ix35 sh35 so35 sb35 sm35 sp35 lv118 ll118 is118 sp118 lv131 ll131 is131 ix131 sh131 so131 sb131 sm131 sp131 xs9 ls9 sx9 sy9 sz9
section
open Go Go.Sim
set_option maxRecDepth 100000
set_option maxHeartbeats 4000000

theorem c_GrowL (n : Nat) (H : AHeap) (hn : n ≤ 1000000) : ACalls Tryz.prog 103 [.vsl [] true, I n] H fun r H' => Grow rLine 4 50 H H' r [] := by
  rcases Nat.eq_zero_or_pos n with h0 | h0
  · subst h0
    refine (acalls_grow0 (by kernel_rfl) fun base w => ?_).mono ?_
    · exact Tryz.growRoomLine base 0 0 0 w (by omega) (by omega) (by omega) (by omega)
    · rintro _ _ ⟨rfl, rfl⟩
      exact grow_nil
  · obtain ⟨i, d, z, hi, hd, hz, hsz, hby, hag, hzl, hzs, hz1⟩ := tinfo_spec ti50
    have hz4 : z.cells.size = 4 := by rw [hzs]
    refine acalls_growN (bytes := i.bytes) (by kernel_rfl) (fun base m w hm hb h63 => ?_) h0 (by rw [hby]; show n * 32 ≤ _; omega) (by omega)
    refine (Any8.slices_Grow_grow Tryz.laysGrowLine i z hi hz (by rw [hsz]; decide) base 0 0 m [] w (by omega) (by omega) (by simpa using hb) (by simpa using h63) (by simp) (fun _ => rfl) (fun a _ j v hj => by simp at hj)).mono ?_
    rintro e w' ⟨rfl, rfl⟩
    refine ⟨by rw [Nat.zero_add]; rfl, _, rfl, ?_⟩
    have hge := grownCap_ge w (0 + m) 0 (Tryz.laysGrowLine_ren.t 25)
    simp only [Array.size_append, size_zeroCells, hz4, List.size_toArray, List.length_nil, Nat.zero_add, ← Nat.add_mul] at hge ⊢
    refine Nat.mul_le_mul_right _ ?_
    show grownCap w m 0 (Tryz.laysGrowLine_ren.t 25) ≤ _
    omega
def rSeg (q : List Line × Bool) : List AV := [.vsl (q.1.map rLine) q.2]
theorem rSeg_len (q : List Line × Bool) : (rSeg q).length = 1 := rfl
def segs (ps : List (List Line × Bool)) : List Line := (ps.map (·.1)).flatten
theorem segs_next {ps : List (List Line × Bool)} {k : Nat} (h : k < ps.length) : segs (ps.take (k + 1)) = segs (ps.take k) ++ (ps.getD k default).1 := by
  unfold segs
  rw [List.take_succ_eq_append_getElem h, List.map_append, List.flatten_append, List.getD_eq_getElem?_getD, List.getElem?_eq_getElem h]
  simp
theorem segs_le (ps : List (List Line × Bool)) (k : Nat) : (segs (ps.take k)).length ≤ (segs ps).length := by
  have : segs ps = segs (ps.take k) ++ segs (ps.drop k) := by
    unfold segs
    rw [← List.flatten_append, ← List.map_append, List.take_append_drop]
  rw [this, List.length_append]; omega
theorem c_ConcatL (ps : List (List Line × Bool)) (cl : Bool) (H : AHeap) (hb : (segs ps).length ≤ 1000000) : ACalls Tryz.prog 60 [.vsl (ps.map rSeg) cl] H fun r H' => Grow rLine 4 50 H H' r (segs ps) := by
  refine acalls_len (by kernel_rfl) (List.mem_cons_self ..) fun hl => ?_
  rw [List.length_map] at hl
  refine acalls_of0 Tryz.func60 rfl (by kernel_rfl) rfl rfl (awp_sound (fz := fun _ => []) (im := fun _ => false) mixed _ _ _ _ (by kernel_rfl) ?_)
  simp +contextual -dsimp -implicitDefEqProofs (maxSteps := 5000000) only [go_sem, reduceIte, reduceCtorEq, Nat.reduceEqDiff, Nat.reduceBEq, Nat.reduceAdd, Nat.reduceLeDiff, Nat.reduceMul, Nat.reduceLT, Int.reduceEq, Int.reduceLT, Int.reduceLE]
  refine aloop mixed (fz := fun _ => []) (im := fun _ => false) (by kernel_rfl) (fun m tm H' => ∃ k : Nat, m = ps.length - k ∧ k ≤ ps.length ∧ H' = H ∧ tm 0 = .vsl (ps.map rSeg) cl ∧ tm 3 = I (segs (ps.take k)).length ∧ tm 9 = .vsl (ps.map rSeg) cl ∧ tm 10 = I ps.length ∧ tm 11 = I k) ps.length ⟨0, by omega, by omega, rfl, ?_⟩ ?_
  · simp +contextual -dsimp -implicitDefEqProofs (maxSteps := 5000000) only [go_sem, reduceIte, reduceCtorEq, Nat.reduceEqDiff, Nat.reduceBEq, Nat.reduceAdd, Nat.reduceLeDiff, Nat.reduceMul, Nat.reduceLT, Int.reduceEq, Int.reduceLT, Int.reduceLE]
    rfl
  · rintro m tm H ⟨k, rfl, hk, rfl, t0, t3, t9, t10, t11⟩
    by_cases hlt : k < ps.length
    · have h1 := segs_next hlt
      have h2 := segs_le ps (k + 1)
      rw [h1, List.length_append] at h2
      have hw : IntKind.i64.wrap (((segs (ps.take k)).length : Int) + ((ps.getD k default).1.length : Int)) = (((segs (ps.take (k + 1))).length : Nat) : Int) := by rw [h1, List.length_append, w64 (by omega) (by omega)]; omega
      have hnn : ¬ ((segs (ps.take (k + 1))).length : Int) < 0 := by omega
      simp +contextual -dsimp -implicitDefEqProofs (maxSteps := 5000000) only [go_sem, reduceIte, reduceCtorEq, Nat.reduceEqDiff, Nat.reduceBEq, Nat.reduceAdd, Nat.reduceLeDiff, Nat.reduceMul, Nat.reduceLT, Int.reduceEq, Int.reduceLT, Int.reduceLE, ixv te118 ti25 rSeg_len (show 0 < 1 by decide), rSeg, Nat.lt_irrefl, t0, t3, t9, t10, t11, hlt, hw, hnn]
      exact ⟨_, by omega, k + 1, rfl, hlt, rfl, I_wrap (by omega) (by omega) (by omega)⟩
    · have hke : k = ps.length := by omega
      subst hke
      rw [List.take_length] at t3
      simp +contextual -dsimp -implicitDefEqProofs (maxSteps := 5000000) only [go_sem, reduceIte, reduceCtorEq, Nat.reduceEqDiff, Nat.reduceBEq, Nat.reduceAdd, Nat.reduceLeDiff, Nat.reduceMul, Nat.reduceLT, Int.reduceEq, Int.reduceLT, Int.reduceLE, ixv te118 ti25 rSeg_len (show 0 < 1 by decide), rSeg, Nat.lt_irrefl, t0, t3, t9, t10, t11]
      refine (c_GrowL _ _ hb).mono ?_
      intro x H1 hg
      simp +contextual -dsimp -implicitDefEqProofs (maxSteps := 5000000) only [go_sem, reduceIte, reduceCtorEq, Nat.reduceEqDiff, Nat.reduceBEq, Nat.reduceAdd, Nat.reduceLeDiff, Nat.reduceMul, Nat.reduceLT, Int.reduceEq, Int.reduceLT, Int.reduceLE, ixv te118 ti25 rSeg_len (show 0 < 1 by decide), rSeg, Nat.lt_irrefl, t0, t3, t9, t10, t11]
      refine aloop mixed (fz := fun _ => []) (im := fun _ => false) (by kernel_rfl) (fun m tm H' => ∃ (k : Nat) (x : AV), m = ps.length - k ∧ k ≤ ps.length ∧ Grow rLine 4 50 H H' x (segs (ps.take k)) ∧ tm 6 = x ∧ tm 25 = .vsl (ps.map rSeg) cl ∧ tm 26 = I ps.length ∧ tm 27 = I k) ps.length ⟨0, x, by omega, by omega, by simpa [segs] using hg, ?_⟩ ?_
      · simp +contextual -dsimp -implicitDefEqProofs (maxSteps := 5000000) only [go_sem, reduceIte, reduceCtorEq, Nat.reduceEqDiff, Nat.reduceBEq, Nat.reduceAdd, Nat.reduceLeDiff, Nat.reduceMul, Nat.reduceLT, Int.reduceEq, Int.reduceLT, Int.reduceLE, ixv te118 ti25 rSeg_len (show 0 < 1 by decide), rSeg, Nat.lt_irrefl, t0]
      · rintro m tm H' ⟨k, x, rfl, hk, hg, t6, t25, t26, t27⟩
        by_cases hlt : k < ps.length
        · have h1 := segs_next hlt
          have h2 := segs_le ps (k + 1)
          rw [h1, List.length_append] at h2
          simp +contextual -dsimp -implicitDefEqProofs (maxSteps := 5000000) only [go_sem, reduceIte, reduceCtorEq, Nat.reduceEqDiff, Nat.reduceBEq, Nat.reduceAdd, Nat.reduceLeDiff, Nat.reduceMul, Nat.reduceLT, Int.reduceEq, Int.reduceLT, Int.reduceLE, ixv te118 ti25 rSeg_len (show 0 < 1 by decide), rSeg, Nat.lt_irrefl, t6, t25, t26, t27, hlt]
          refine app_lines (m := (ps.getD k default).1) hg (by omega) rfl fun x' H'' hg' => ?_
          simp +contextual -dsimp -implicitDefEqProofs (maxSteps := 5000000) only [go_sem, reduceIte, reduceCtorEq, Nat.reduceEqDiff, Nat.reduceBEq, Nat.reduceAdd, Nat.reduceLeDiff, Nat.reduceMul, Nat.reduceLT, Int.reduceEq, Int.reduceLT, Int.reduceLE, ixv te118 ti25 rSeg_len (show 0 < 1 by decide), rSeg, Nat.lt_irrefl, t6, t25, t26, t27, hlt]
          exact ⟨_, by omega, k + 1, x', rfl, hlt, by rw [h1]; exact hg', rfl, I_wrap (by omega) (by omega) (by omega)⟩
        · simp +contextual -dsimp -implicitDefEqProofs (maxSteps := 5000000) only [go_sem, reduceIte, reduceCtorEq, Nat.reduceEqDiff, Nat.reduceBEq, Nat.reduceAdd, Nat.reduceLeDiff, Nat.reduceMul, Nat.reduceLT, Int.reduceEq, Int.reduceLT, Int.reduceLE, ixv te118 ti25 rSeg_len (show 0 < 1 by decide), rSeg, Nat.lt_irrefl, t6, t25, t26, t27, hlt]
          rw [show k = ps.length by omega, List.take_length] at hg
          exact hg
end
section
open Go Go.Sim
set_option maxRecDepth 100000
set_option maxHeartbeats 4000000

theorem valid_depth {t : List Class} {p : List Line} (h : ValidP t p) : ∀ x ∈ p, 0 ≤ x.depth ∧ x.depth ≤ 5 := by
  obtain ⟨_, e, h3, _⟩ := validP_forest h
  have key : ∀ (f : Fo) (d : Int), numsF t f d = true → ∀ x ∈ f.flat d, 0 ≤ x.depth ∧ x.depth ≤ 5 := by
    intro f
    induction f with
    | nil => intro d _ x hx; cases hx
    | node k a b kids rest ihk ihr =>
      intro d hn x hx
      obtain ⟨n1, n2, n3, n4, n5⟩ := numsF_node hn
      simp only [Fo.flat, List.mem_cons, List.mem_append] at hx
      rcases hx with rfl | hx | hx
      · simp only [inR, Bool.and_eq_true, decide_eq_true_eq] at n2; exact n2
      · exact ihk _ n4 x hx
      · exact ihr _ n5 x hx
  rw [e]; exact key _ 0 h3
theorem getD_mem {l : List Line} {k : Nat} (h : k < l.length) : l.getD k default ∈ l := by
  rw [List.getD_eq_getElem?_getD, List.getElem?_eq_getElem h]; exact List.getElem_mem h
theorem take_nextL {l : List Line} {k : Nat} (h : k < l.length) : l.take (k + 1) = l.take k ++ [l.getD k default] := by
  rw [List.take_succ_eq_append_getElem h, List.getD_eq_getElem?_getD, List.getElem?_eq_getElem h]; rfl
theorem c_inner (p : List Line) (cl : Bool) (H : AHeap) (hp : p.length ≤ 1000) (hd : ∀ x ∈ p, 0 ≤ x.depth ∧ x.depth ≤ 5) : ACalls Tryz.prog 64 [aProg p cl] H fun r H' => (∃ c, r = aProg (innP p) c) ∧ H' = H := by
  refine acalls_of1 Tryz.func64 rfl (by kernel_rfl) rfl rfl (awp_sound (fz := fun r => if r = 7 then [5] else []) (im := fun s => s == 10 || s == 26) mixed _ _ _ _ (by kernel_rfl) ?_)
  simp +contextual -dsimp -implicitDefEqProofs (maxSteps := 5000000) only [go_sem, reduceIte, reduceCtorEq, Nat.reduceEqDiff, Nat.reduceBEq, Nat.reduceAdd, Nat.reduceLeDiff, Nat.reduceMul, Nat.reduceLT, Int.reduceEq, Int.reduceLT, Int.reduceLE]
  refine ⟨fun h0 => ?_, fun h0 => ?_⟩
  · have hp0 : p = [] := List.eq_nil_of_length_eq_zero (by omega)
    subst hp0
    refine retR_less (l := [aProg (innP []) true]) (H' := H) ?_ (AHeap.le_refl _) ⟨⟨true, rfl⟩, rfl⟩
    simp only [resA, go_sem, reduceIte, reduceCtorEq, Nat.reduceEqDiff, Nat.reduceBEq, Nat.reduceAdd, Nat.reduceLeDiff, Nat.reduceMul, Nat.reduceLT, Int.reduceEq, Int.reduceLT, Int.reduceLE]
    try rfl
  · have hip : innP p = p.map deepL := by unfold innP; rw [if_neg (fun e => h0 (by rw [e]; rfl))]
    rw [hip]
    refine ⟨by omega, by omega, fun b3 hb3 => ?_⟩
    refine aloop mixed (fz := fun r => if r = 7 then [5] else []) (im := fun s => s == 10 || s == 26) (by kernel_rfl) (fun m tm H' => ∃ (k : Nat) (x : AV), m = p.length - k ∧ k ≤ p.length ∧ Grow rLine 4 50 H H' x ((p.take k).map deepL) ∧ tm 3 = x ∧ tm 14 = aProg p cl ∧ tm 15 = I p.length ∧ tm 16 = I k) p.length ⟨0, .sl b3 4 0 0 false, by omega, by omega, grow_new hb3, ?_⟩ ?_
    · simp +contextual -dsimp -implicitDefEqProofs (maxSteps := 5000000) only [go_sem, reduceIte, reduceCtorEq, Nat.reduceEqDiff, Nat.reduceBEq, Nat.reduceAdd, Nat.reduceLeDiff, Nat.reduceMul, Nat.reduceLT, Int.reduceEq, Int.reduceLT, Int.reduceLE]
    · rintro m tm H' ⟨k, x, rfl, hk, hg, t3, t14, t15, t16⟩
      by_cases hlt : k < p.length
      · have hdk := hd _ (getD_mem hlt)
        have hw : IntKind.i64.wrap ((p.getD k default).depth + 1) = (p.getD k default).depth + 1 := w64 (by omega) (by omega)
        simp +contextual -dsimp -implicitDefEqProofs (maxSteps := 5000000) only [go_sem, reduceIte, reduceCtorEq, Nat.reduceEqDiff, Nat.reduceBEq, Nat.reduceAdd, Nat.reduceLeDiff, Nat.reduceMul, Nat.reduceLT, Int.reduceEq, Int.reduceLT, Int.reduceLE, t3, t14, t15, t16, hlt]
        intro b5 hb5
        rw [hw]
        refine app_lines (m := [deepL (p.getD k default)]) hg (by simp; omega) rfl fun x' H'' hg' => ?_
        simp +contextual -dsimp -implicitDefEqProofs (maxSteps := 5000000) only [go_sem, reduceIte, reduceCtorEq, Nat.reduceEqDiff, Nat.reduceBEq, Nat.reduceAdd, Nat.reduceLeDiff, Nat.reduceMul, Nat.reduceLT, Int.reduceEq, Int.reduceLT, Int.reduceLE, t3, t14, t15, t16, hlt]
        exact ⟨_, by omega, k + 1, x', rfl, hlt, by rw [take_nextL hlt, List.map_append]; exact hg', rfl, I_wrap (by omega) (by omega) (by omega)⟩
      · rw [show k = p.length by omega, List.take_length] at hg
        simp +contextual -dsimp -implicitDefEqProofs (maxSteps := 5000000) only [go_sem, reduceIte, reduceCtorEq, Nat.reduceEqDiff, Nat.reduceBEq, Nat.reduceAdd, Nat.reduceLeDiff, Nat.reduceMul, Nat.reduceLT, Int.reduceEq, Int.reduceLT, Int.reduceLE, t3, t14, t15, t16, hlt]
        refine grow_frz (t := 2) (by simpa only [upd_same] using hg) fun c => ?_
        refine retR_less (l := [aProg (p.map deepL) c]) (H' := H) ?_ (AHeap.le_refl _) ⟨⟨c, rfl⟩, rfl⟩
        simp only [resA, go_sem, reduceIte, reduceCtorEq, Nat.reduceEqDiff, Nat.reduceBEq, Nat.reduceAdd, Nat.reduceLeDiff, Nat.reduceMul, Nat.reduceLT, Int.reduceEq, Int.reduceLT, Int.reduceLE]
/-- Lines that are half made deeper. -/
def halfL (p : List Line) (k : Nat) : List Line := (p.take k).map deepL ++ p.drop k
theorem halfL_len {p : List Line} {k : Nat} (h : k ≤ p.length) : (halfL p k).length = p.length := by simp [halfL]; omega
theorem halfL_at {p : List Line} {k : Nat} (h : k < p.length) : (halfL p k).getD k default = p.getD k default := by
  unfold halfL
  simp only [List.getD_eq_getElem?_getD]
  rw [List.getElem?_append_right (by simp; omega)]
  simp [Nat.min_eq_left (Nat.le_of_lt h)]
theorem halfL_set {p : List Line} {k : Nat} (h : k < p.length) : (halfL p k).set k (deepL (p.getD k default)) = halfL p (k + 1) := by
  unfold halfL
  rw [List.set_append_right _ _ (by simp; omega), take_nextL h, List.map_append, List.append_assoc]
  congr 1
  have e : k - ((p.take k).map deepL).length = 0 := by simp; omega
  rw [e]
  have e2 : p.getD k default = p[k] := by simp [List.getD_eq_getElem?_getD, h]
  rw [e2, List.drop_eq_getElem_cons h]; rfl
theorem c_indent (p : List Line) (cl : Bool) (H : AHeap) (hp : p.length ≤ 1000) (h0 : p ≠ []) (hd : ∀ x ∈ p, 0 ≤ x.depth ∧ x.depth ≤ 5) : ACalls Tryz.prog 104 [aProg p cl] H fun r H' => Grow rLine 4 50 H H' r (p.map deepL) := by
  refine acalls_of0 Tryz.func104 rfl (by kernel_rfl) rfl rfl (awp_sound (fz := fun _ => []) (im := fun s => s == 5) mixed _ _ _ _ (by kernel_rfl) ?_)
  simp +contextual -dsimp -implicitDefEqProofs (maxSteps := 5000000) only [go_sem, reduceIte, reduceCtorEq, Nat.reduceEqDiff, Nat.reduceBEq, Nat.reduceAdd, Nat.reduceLeDiff, Nat.reduceMul, Nat.reduceLT, Int.reduceEq, Int.reduceLT, Int.reduceLE]
  refine app_lines (m := p) grow_nil (by simp; omega) rfl fun x' H' hg => ?_
  rcases hg with ⟨e, _, _⟩ | ⟨bx, c, hbx, rfl, rfl⟩
  · exact absurd (by simpa using e) h0
  simp +contextual -dsimp -implicitDefEqProofs (maxSteps := 5000000) only [go_sem, reduceIte, reduceCtorEq, Nat.reduceEqDiff, Nat.reduceBEq, Nat.reduceAdd, Nat.reduceLeDiff, Nat.reduceMul, Nat.reduceLT, Int.reduceEq, Int.reduceLT, Int.reduceLE]
  refine aloop mixed (fz := fun _ => []) (im := fun s => s == 5) (by kernel_rfl) (fun m tm H' => ∃ (k : Nat), m = p.length - k ∧ k ≤ p.length ∧ H' = H.set bx ⟨4, 50, (halfL p k).map rLine⟩ ∧ tm 3 = .sl bx 4 0 p.length c ∧ tm 4 = I k) p.length ⟨0, by omega, by omega, by simp [halfL], ?_⟩ ?_
  · simp +contextual -dsimp -implicitDefEqProofs (maxSteps := 5000000) only [go_sem, reduceIte, reduceCtorEq, Nat.reduceEqDiff, Nat.reduceBEq, Nat.reduceAdd, Nat.reduceLeDiff, Nat.reduceMul, Nat.reduceLT, Int.reduceEq, Int.reduceLT, Int.reduceLE]
  · rintro m tm H' ⟨k, rfl, hk, rfl, t3, t4⟩
    by_cases hlt : k < p.length
    · have hdk := hd _ (getD_mem hlt)
      have hw : IntKind.i64.wrap ((p.getD k default).depth + 1) = (p.getD k default).depth + 1 := w64 (by omega) (by omega)
      have hl2 : k < (halfL p k).length := by rw [halfL_len hk]; exact hlt
      simp +contextual -dsimp -implicitDefEqProofs (maxSteps := 5000000) only [go_sem, reduceIte, reduceCtorEq, Nat.reduceEqDiff, Nat.reduceBEq, Nat.reduceAdd, Nat.reduceLeDiff, Nat.reduceMul, Nat.reduceLT, Int.reduceEq, Int.reduceLT, Int.reduceLE, t3, t4, hlt, hl2, halfL_at hlt, hw]
      rw [wrO_y (y := deepL (p.getD k default)) hl2 (by rw [halfL_at hlt]; rfl), halfL_set hlt]
      simp +contextual -dsimp -implicitDefEqProofs (maxSteps := 5000000) only [go_sem, reduceIte, reduceCtorEq, Nat.reduceEqDiff, Nat.reduceBEq, Nat.reduceAdd, Nat.reduceLeDiff, Nat.reduceMul, Nat.reduceLT, Int.reduceEq, Int.reduceLT, Int.reduceLE, t3, t4, hlt]
      exact ⟨_, by omega, k + 1, rfl, hlt, rfl, I_wrap (by omega) (by omega) (by omega)⟩
    · simp +contextual -dsimp -implicitDefEqProofs (maxSteps := 5000000) only [go_sem, reduceIte, reduceCtorEq, Nat.reduceEqDiff, Nat.reduceBEq, Nat.reduceAdd, Nat.reduceLeDiff, Nat.reduceMul, Nat.reduceLT, Int.reduceEq, Int.reduceLT, Int.reduceLE, t3, t4, hlt]
      have hke : k = p.length := by omega
      subst hke
      refine .inr ⟨bx, c, hbx, by simp, ?_⟩
      simp [halfL]
end
section
open Go Go.Sim
set_option maxRecDepth 100000
set_option maxHeartbeats 4000000

theorem c_under (y : Line) (p : List Line) (cl : Bool) (H : AHeap) (hp : p.length ≤ 1000) (hd : ∀ x ∈ p, 0 ≤ x.depth ∧ x.depth ≤ 5) : ACalls Tryz.prog 65 [.agg (rLine y), aProg p cl] H fun r H' => Grow rLine 4 50 H H' r (y :: innP p) := by
  refine acalls_of1 Tryz.func65 rfl (by kernel_rfl) rfl rfl (awp_sound (fz := fun _ => []) (im := fun s => s == 2 || s == 9) mixed _ _ _ _ (by kernel_rfl) ?_)
  simp +contextual -dsimp -implicitDefEqProofs (maxSteps := 5000000) only [go_sem, reduceIte, reduceCtorEq, Nat.reduceEqDiff, Nat.reduceBEq, Nat.reduceAdd, Nat.reduceLeDiff, Nat.reduceMul, Nat.reduceLT, Int.reduceEq, Int.reduceLT, Int.reduceLE]
  refine ⟨fun h0 => ?_, fun h0 => ?_⟩
  · have hp0 : p = [] := List.eq_nil_of_length_eq_zero h0
    subst hp0
    refine draw_intro [1, 0, 0, 3, 2, 0] AHeap.none (by kernel_rfl) none_le ?_
    simp +contextual -dsimp -implicitDefEqProofs (maxSteps := 5000000) only [go_sem, reduceIte, reduceCtorEq, Nat.reduceEqDiff, Nat.reduceBEq, Nat.reduceAdd, Nat.reduceLeDiff, Nat.reduceMul, Nat.reduceLT, Int.reduceEq, Int.reduceLT, Int.reduceLE]
    refine acalls_frz (c_indent [⟨0, 0, 0, 0⟩] true _ (by simp) (by simp) (by simp)) fun c => ?_
    simp +contextual -dsimp -implicitDefEqProofs (maxSteps := 5000000) only [go_sem, reduceIte, reduceCtorEq, Nat.reduceEqDiff, Nat.reduceBEq, Nat.reduceAdd, Nat.reduceLeDiff, Nat.reduceMul, Nat.reduceLT, Int.reduceEq, Int.reduceLT, Int.reduceLE]
    refine app_lit (y := y) (l := [deepL ⟨0, 0, 0, 0⟩]) rfl (by simp) (by simp) fun x' H' hg => ?_
    simp +contextual -dsimp -implicitDefEqProofs (maxSteps := 5000000) only [go_sem, reduceIte, reduceCtorEq, Nat.reduceEqDiff, Nat.reduceBEq, Nat.reduceAdd, Nat.reduceLeDiff, Nat.reduceMul, Nat.reduceLT, Int.reduceEq, Int.reduceLT, Int.reduceLE]
    refine retR_less (l := [x']) (H' := H') ?_ (AHeap.le_refl _) hg
    simp only [resA, go_sem, reduceIte, reduceCtorEq, Nat.reduceEqDiff, Nat.reduceBEq, Nat.reduceAdd, Nat.reduceLeDiff, Nat.reduceMul, Nat.reduceLT, Int.reduceEq, Int.reduceLT, Int.reduceLE]
  · have hp0 : p ≠ [] := fun e => h0 (by rw [e]; rfl)
    have hip : innP p = p.map deepL := by unfold innP; rw [if_neg hp0]
    rw [hip]
    refine draw_intro [1, 0, 0, 3, 2, 0] AHeap.none (by kernel_rfl) none_le ?_
    simp +contextual -dsimp -implicitDefEqProofs (maxSteps := 5000000) only [go_sem, reduceIte, reduceCtorEq, Nat.reduceEqDiff, Nat.reduceBEq, Nat.reduceAdd, Nat.reduceLeDiff, Nat.reduceMul, Nat.reduceLT, Int.reduceEq, Int.reduceLT, Int.reduceLE]
    refine acalls_frz (c_indent p cl _ hp hp0 hd) fun c => ?_
    simp +contextual -dsimp -implicitDefEqProofs (maxSteps := 5000000) only [go_sem, reduceIte, reduceCtorEq, Nat.reduceEqDiff, Nat.reduceBEq, Nat.reduceAdd, Nat.reduceLeDiff, Nat.reduceMul, Nat.reduceLT, Int.reduceEq, Int.reduceLT, Int.reduceLE]
    refine app_lit (y := y) (l := p.map deepL) rfl (by simp; omega) (by simp; omega) fun x' H' hg => ?_
    simp +contextual -dsimp -implicitDefEqProofs (maxSteps := 5000000) only [go_sem, reduceIte, reduceCtorEq, Nat.reduceEqDiff, Nat.reduceBEq, Nat.reduceAdd, Nat.reduceLeDiff, Nat.reduceMul, Nat.reduceLT, Int.reduceEq, Int.reduceLT, Int.reduceLE]
    refine retR_less (l := [x']) (H' := H') ?_ (AHeap.le_refl _) hg
    simp only [resA, go_sem, reduceIte, reduceCtorEq, Nat.reduceEqDiff, Nat.reduceBEq, Nat.reduceAdd, Nat.reduceLeDiff, Nat.reduceMul, Nat.reduceLT, Int.reduceEq, Int.reduceLT, Int.reduceLE]
theorem c_bothValid (t : List Class) (cl : Bool) (p q : List Line) (c1 c2 : Bool) (H : AHeap) (hn : namesOk t) (hp : p.length ≤ 4398046511104) (hq : q.length ≤ 4398046511104) : ACalls Tryz.prog 58 [aTree t cl, aProg p c1, aProg q c2] H fun r H' => r = B (validB t p && validB t q) ∧ H' = H := by
  refine acalls_of0 Tryz.func58 rfl (by kernel_rfl) rfl rfl (awp_sound (fz := fun _ => []) (im := fun s => s == 3) mixed _ _ _ _ (by kernel_rfl) ?_)
  simp +contextual -dsimp -implicitDefEqProofs (maxSteps := 5000000) only [go_sem, reduceIte, reduceCtorEq, Nat.reduceEqDiff, Nat.reduceBEq, Nat.reduceAdd, Nat.reduceLeDiff, Nat.reduceMul, Nat.reduceLT, Int.reduceEq, Int.reduceLT, Int.reduceLE]
  refine (c_ValidProgram t cl p c1 _ hn hp).det ?_
  cases hv : validB t p
  · simp +contextual -dsimp -implicitDefEqProofs (maxSteps := 5000000) only [go_sem, reduceIte, reduceCtorEq, Nat.reduceEqDiff, Nat.reduceBEq, Nat.reduceAdd, Nat.reduceLeDiff, Nat.reduceMul, Nat.reduceLT, Int.reduceEq, Int.reduceLT, Int.reduceLE]
  · simp +contextual -dsimp -implicitDefEqProofs (maxSteps := 5000000) only [go_sem, reduceIte, reduceCtorEq, Nat.reduceEqDiff, Nat.reduceBEq, Nat.reduceAdd, Nat.reduceLeDiff, Nat.reduceMul, Nat.reduceLT, Int.reduceEq, Int.reduceLT, Int.reduceLE]
    refine (c_ValidProgram t cl q c2 _ hn hq).det ?_
    simp +contextual -dsimp -implicitDefEqProofs (maxSteps := 5000000) only [go_sem, reduceIte, reduceCtorEq, Nat.reduceEqDiff, Nat.reduceBEq, Nat.reduceAdd, Nat.reduceLeDiff, Nat.reduceMul, Nat.reduceLT, Int.reduceEq, Int.reduceLT, Int.reduceLE]
theorem c_both (t : List Class) (cl : Bool) (p q : List Line) (c1 c2 : Bool) (H : AHeap) (hn : namesOk t) (hp : p.length ≤ 4398046511104) (hq : q.length ≤ 4398046511104) : ACalls Tryz.prog 61 [aTree t cl, aProg p c1, aProg q c2] H fun r H' => r = B (validB t p && validB t q) ∧ H' = H := by
  refine acalls_of0 Tryz.func61 rfl (by kernel_rfl) rfl rfl (awp_sound (fz := fun _ => []) (im := fun s => s == 3) mixed _ _ _ _ (by kernel_rfl) ?_)
  simp +contextual -dsimp -implicitDefEqProofs (maxSteps := 5000000) only [go_sem, reduceIte, reduceCtorEq, Nat.reduceEqDiff, Nat.reduceBEq, Nat.reduceAdd, Nat.reduceLeDiff, Nat.reduceMul, Nat.reduceLT, Int.reduceEq, Int.reduceLT, Int.reduceLE]
  refine (c_svalidProgram t cl p c1 _ hn hp).det ?_
  cases hv : validB t p
  · simp +contextual -dsimp -implicitDefEqProofs (maxSteps := 5000000) only [go_sem, reduceIte, reduceCtorEq, Nat.reduceEqDiff, Nat.reduceBEq, Nat.reduceAdd, Nat.reduceLeDiff, Nat.reduceMul, Nat.reduceLT, Int.reduceEq, Int.reduceLT, Int.reduceLE]
  · simp +contextual -dsimp -implicitDefEqProofs (maxSteps := 5000000) only [go_sem, reduceIte, reduceCtorEq, Nat.reduceEqDiff, Nat.reduceBEq, Nat.reduceAdd, Nat.reduceLeDiff, Nat.reduceMul, Nat.reduceLT, Int.reduceEq, Int.reduceLT, Int.reduceLE]
    refine (c_svalidProgram t cl q c2 _ hn hq).det ?_
    simp +contextual -dsimp -implicitDefEqProofs (maxSteps := 5000000) only [go_sem, reduceIte, reduceCtorEq, Nat.reduceEqDiff, Nat.reduceBEq, Nat.reduceAdd, Nat.reduceLeDiff, Nat.reduceMul, Nat.reduceLT, Int.reduceEq, Int.reduceLT, Int.reduceLE]
/-- What is made, if it may be and is valid. -/
noncomputable def mkR (b : Bool) (t : List Class) (l : List Line) : List Line := if b = true then madeF t l else []
noncomputable def mkB (b : Bool) (t : List Class) (l : List Line) : Bool := b && validB t l
theorem innP_len (p : List Line) : (innP p).length ≤ p.length + 1 := by
  unfold innP; split <;> simp
theorem c_mWithFinally (t : List Class) (cl : Bool) (p q : List Line) (c1 c2 : Bool) (H : AHeap) (hn : namesOk t) (hp : p.length ≤ 1000) (hq : q.length ≤ 1000) : ACalls Tryz.prog 28 [aTree t cl, aProg p c1, aProg q c2] H fun r H' => (∃ c, r = .tup [aProg (mkR (validB t p && validB t q) t (finP p q)) c, B (mkB (validB t p && validB t q) t (finP p q))]) ∧ H' = H := by
  have hil := innP_len p
  have hiq := innP_len q
  refine acalls_of0 Tryz.func28 rfl (by kernel_rfl) rfl rfl (awp_sound (fz := fun _ => []) (im := fun s => s == 3) mixed _ _ _ _ (by kernel_rfl) ?_)
  simp +contextual -dsimp -implicitDefEqProofs (maxSteps := 5000000) only [go_sem, reduceIte, reduceCtorEq, Nat.reduceEqDiff, Nat.reduceBEq, Nat.reduceAdd, Nat.reduceLeDiff, Nat.reduceMul, Nat.reduceLT, Int.reduceEq, Int.reduceLT, Int.reduceLE]
  refine (c_bothValid t cl p q c1 c2 _ hn (by omega) (by omega)).det ?_
  unfold mkR mkB
  cases hv : (validB t p && validB t q)
  · simp +contextual -dsimp -implicitDefEqProofs (maxSteps := 5000000) only [go_sem, reduceIte, reduceCtorEq, Nat.reduceEqDiff, Nat.reduceBEq, Nat.reduceAdd, Nat.reduceLeDiff, Nat.reduceMul, Nat.reduceLT, Int.reduceEq, Int.reduceLT, Int.reduceLE]
    exact ⟨true, rfl⟩
  · rw [Bool.and_eq_true] at hv
    simp +contextual -dsimp -implicitDefEqProofs (maxSteps := 5000000) only [go_sem, reduceIte, reduceCtorEq, Nat.reduceEqDiff, Nat.reduceBEq, Nat.reduceAdd, Nat.reduceLeDiff, Nat.reduceMul, Nat.reduceLT, Int.reduceEq, Int.reduceLT, Int.reduceLE]
    refine draw_intro [1, 0, 0, 0, 3, 0, 0, 0, 3, 0, 3, 2, 0, 0, 0, 0] AHeap.none (by kernel_rfl) none_le ?_
    simp +contextual -dsimp -implicitDefEqProofs (maxSteps := 5000000) only [go_sem, reduceIte, reduceCtorEq, Nat.reduceEqDiff, Nat.reduceBEq, Nat.reduceAdd, Nat.reduceLeDiff, Nat.reduceMul, Nat.reduceLT, Int.reduceEq, Int.reduceLT, Int.reduceLE]
    refine (c_inner p c1 _ hp (valid_depth (validB_true.1 hv.1))).mono ?_
    rintro _ H ⟨⟨c3, rfl⟩, rfl⟩
    simp +contextual -dsimp -implicitDefEqProofs (maxSteps := 5000000) only [go_sem, reduceIte, reduceCtorEq, Nat.reduceEqDiff, Nat.reduceBEq, Nat.reduceAdd, Nat.reduceLeDiff, Nat.reduceMul, Nat.reduceLT, Int.reduceEq, Int.reduceLT, Int.reduceLE]
    refine (c_inner q c2 _ hq (valid_depth (validB_true.1 hv.2))).mono ?_
    rintro _ H ⟨⟨c4, rfl⟩, rfl⟩
    simp +contextual -dsimp -implicitDefEqProofs (maxSteps := 5000000) only [go_sem, reduceIte, reduceCtorEq, Nat.reduceEqDiff, Nat.reduceBEq, Nat.reduceAdd, Nat.reduceLeDiff, Nat.reduceMul, Nat.reduceLT, Int.reduceEq, Int.reduceLT, Int.reduceLE]
    refine acalls_frz (c_ConcatL [([⟨0, 7, 0, 0⟩], true), (innP p, c3), ([⟨0, 10, 0, 0⟩], true), (innP q, c4)] true _ (by simp [segs]; omega)) fun c5 => ?_
    have e : segs [([⟨0, 7, 0, 0⟩], true), (innP p, c3), ([⟨0, 10, 0, 0⟩], true), (innP q, c4)] = (finP p q) := by simp [segs, finP]
    have hll : ((finP p q)).length ≤ 4398046511104 := by simp [finP]; omega
    rw [e]
    simp +contextual -dsimp -implicitDefEqProofs (maxSteps := 5000000) only [go_sem, reduceIte, reduceCtorEq, Nat.reduceEqDiff, Nat.reduceBEq, Nat.reduceAdd, Nat.reduceLeDiff, Nat.reduceMul, Nat.reduceLT, Int.reduceEq, Int.reduceLT, Int.reduceLE]
    refine (c_programMade t cl (finP p q) c5 _ hn hll).mono ?_
    rintro _ _ ⟨⟨c, rfl⟩, rfl⟩
    simp +contextual -dsimp -implicitDefEqProofs (maxSteps := 5000000) only [go_sem, reduceIte, reduceCtorEq, Nat.reduceEqDiff, Nat.reduceBEq, Nat.reduceAdd, Nat.reduceLeDiff, Nat.reduceMul, Nat.reduceLT, Int.reduceEq, Int.reduceLT, Int.reduceLE]
    exact ⟨c, rfl⟩
theorem c_sWithFinally (t : List Class) (cl : Bool) (p q : List Line) (c1 c2 : Bool) (H : AHeap) (hn : namesOk t) (hp : p.length ≤ 1000) (hq : q.length ≤ 1000) : ACalls Tryz.prog 29 [aTree t cl, aProg p c1, aProg q c2] H fun r H' => (∃ c, r = .tup [aProg (mkR (validB t p && validB t q) t (finP p q)) c, B (mkB (validB t p && validB t q) t (finP p q))]) ∧ H' = H := by
  have hil := innP_len p
  have hiq := innP_len q
  refine acalls_of1 Tryz.func29 rfl (by kernel_rfl) rfl rfl (awp_sound (fz := fun _ => []) (im := fun s => s == 3) mixed _ _ _ _ (by kernel_rfl) ?_)
  simp +contextual -dsimp -implicitDefEqProofs (maxSteps := 5000000) only [go_sem, reduceIte, reduceCtorEq, Nat.reduceEqDiff, Nat.reduceBEq, Nat.reduceAdd, Nat.reduceLeDiff, Nat.reduceMul, Nat.reduceLT, Int.reduceEq, Int.reduceLT, Int.reduceLE]
  refine (c_both t cl p q c1 c2 _ hn (by omega) (by omega)).det ?_
  unfold mkR mkB
  cases hv : (validB t p && validB t q)
  · simp +contextual -dsimp -implicitDefEqProofs (maxSteps := 5000000) only [go_sem, reduceIte, reduceCtorEq, Nat.reduceEqDiff, Nat.reduceBEq, Nat.reduceAdd, Nat.reduceLeDiff, Nat.reduceMul, Nat.reduceLT, Int.reduceEq, Int.reduceLT, Int.reduceLE]
    refine retR_less (l := [aProg [] true, B false]) (H' := H) ?_ (AHeap.le_refl _) ⟨⟨true, rfl⟩, rfl⟩
    simp only [resA, go_sem, reduceIte, reduceCtorEq, Nat.reduceEqDiff, Nat.reduceBEq, Nat.reduceAdd, Nat.reduceLeDiff, Nat.reduceMul, Nat.reduceLT, Int.reduceEq, Int.reduceLT, Int.reduceLE]
    try rfl
  · rw [Bool.and_eq_true] at hv
    have hll : ((finP p q)).length ≤ 4398046511104 := by simp [finP]; omega
    simp +contextual -dsimp -implicitDefEqProofs (maxSteps := 5000000) only [go_sem, reduceIte, reduceCtorEq, Nat.reduceEqDiff, Nat.reduceBEq, Nat.reduceAdd, Nat.reduceLeDiff, Nat.reduceMul, Nat.reduceLT, Int.reduceEq, Int.reduceLT, Int.reduceLE]
    refine draw_intro [1, 0, 0, 3, 0, 0, 3, 3, 2, 0, 0, 0, 0] AHeap.none (by kernel_rfl) none_le ?_
    simp +contextual -dsimp -implicitDefEqProofs (maxSteps := 5000000) only [go_sem, reduceIte, reduceCtorEq, Nat.reduceEqDiff, Nat.reduceBEq, Nat.reduceAdd, Nat.reduceLeDiff, Nat.reduceMul, Nat.reduceLT, Int.reduceEq, Int.reduceLT, Int.reduceLE]
    refine (c_under ⟨0, 7, 0, 0⟩ p c1 _ hp (valid_depth (validB_true.1 hv.1))).mono ?_
    rintro x1 H1 hg1
    simp +contextual -dsimp -implicitDefEqProofs (maxSteps := 5000000) only [go_sem, reduceIte, reduceCtorEq, Nat.reduceEqDiff, Nat.reduceBEq, Nat.reduceAdd, Nat.reduceLeDiff, Nat.reduceMul, Nat.reduceLT, Int.reduceEq, Int.reduceLT, Int.reduceLE]
    refine acalls_frz (c_under ⟨0, 10, 0, 0⟩ q c2 _ hq (valid_depth (validB_true.1 hv.2))) fun c4 => ?_
    simp +contextual -dsimp -implicitDefEqProofs (maxSteps := 5000000) only [go_sem, reduceIte, reduceCtorEq, Nat.reduceEqDiff, Nat.reduceBEq, Nat.reduceAdd, Nat.reduceLeDiff, Nat.reduceMul, Nat.reduceLT, Int.reduceEq, Int.reduceLT, Int.reduceLE]
    refine app_lines (m := ⟨0, 10, 0, 0⟩ :: innP q) hg1 (by simp; omega) rfl fun x2 H2 hg2 => ?_
    have e : (⟨0, 7, 0, 0⟩ :: innP p) ++ (⟨0, 10, 0, 0⟩ :: innP q) = (finP p q) := rfl
    rw [e] at hg2
    obtain ⟨c3, hz⟩ := grow_fz hg2
    simp +contextual -dsimp -implicitDefEqProofs (maxSteps := 5000000) only [go_sem, reduceIte, reduceCtorEq, Nat.reduceEqDiff, Nat.reduceBEq, Nat.reduceAdd, Nat.reduceLeDiff, Nat.reduceMul, Nat.reduceLT, Int.reduceEq, Int.reduceLT, Int.reduceLE]
    refine acalls_drop [aTree t cl, aProg (finP p q) c3] (grow_le hg2) (.cons (.same _) (.cons hz .nil)) ?_
    refine (c_checkedProgram t cl (finP p q) c3 _ hn hll).mono ?_
    rintro _ H ⟨⟨c, rfl⟩, rfl⟩
    simp +contextual -dsimp -implicitDefEqProofs (maxSteps := 5000000) only [go_sem, reduceIte, reduceCtorEq, Nat.reduceEqDiff, Nat.reduceBEq, Nat.reduceAdd, Nat.reduceLeDiff, Nat.reduceMul, Nat.reduceLT, Int.reduceEq, Int.reduceLT, Int.reduceLE]
    refine retR_less (l := [aProg (madeF t (finP p q)) c, B (validB t (finP p q))]) (H' := H) ?_ (AHeap.le_refl _) ⟨⟨c, rfl⟩, rfl⟩
    simp only [resA, go_sem, reduceIte, reduceCtorEq, Nat.reduceEqDiff, Nat.reduceBEq, Nat.reduceAdd, Nat.reduceLeDiff, Nat.reduceMul, Nat.reduceLT, Int.reduceEq, Int.reduceLT, Int.reduceLE]
end
section
open Go Go.Sim
set_option maxRecDepth 100000
set_option maxHeartbeats 4000000

theorem c_shortProgram (F : AHeap) (br n : Nat) (K : ABlk) (t : List Class) (cl : Bool) (hK : RdK n K) (hF : F br = none) (hn : n < 400000000) : ACalls Tryz.prog 102 [.ptr br 2 0 0, aTree t cl] (F.set br K) fun r H' =>
    ∃ (l : List Line) (cl' : Bool) (K' : ABlk), r = aProg l cl' ∧ H' = F.set br K' ∧ RdK (n + 80000) K' ∧ l.length ≤ 8 := by
  refine acalls_of1 Tryz.func102 rfl (by kernel_rfl) rfl rfl (awp_sound (fz := fun _ => []) (im := fun s => s == 3 || s == 15 || s == 28) mixed _ _ _ _ (by kernel_rfl) ?_)
  by_cases ht : t.length = 0
  · simp +contextual -dsimp -implicitDefEqProofs (maxSteps := 5000000) only [go_sem, reduceIte, reduceCtorEq, Nat.reduceEqDiff, Nat.reduceBEq, Nat.reduceAdd, Nat.reduceLeDiff, Nat.reduceMul, Nat.reduceLT, Int.reduceEq, Int.reduceLT, Int.reduceLE, ht]
    refine retR_less (l := [aProg [] true]) (H' := F.set br K) ?_ (AHeap.le_refl _) ⟨[], true, K, rfl, rfl, rdk_mono hK (by omega), by simp⟩
    simp only [resA, go_sem, reduceIte, reduceCtorEq, Nat.reduceEqDiff, Nat.reduceBEq, Nat.reduceAdd, Nat.reduceLeDiff, Nat.reduceMul, Nat.reduceLT, Int.reduceEq, Int.reduceLT, Int.reduceLE]
    try rfl
  · simp +contextual -dsimp -implicitDefEqProofs (maxSteps := 5000000) only [go_sem, reduceIte, reduceCtorEq, Nat.reduceEqDiff, Nat.reduceBEq, Nat.reduceAdd, Nat.reduceLeDiff, Nat.reduceMul, Nat.reduceLT, Int.reduceEq, Int.reduceLT, Int.reduceLE, ht]
    refine k_pick 8 hK hF (by omega) rfl fun v K1 _ _ _ hK1 => ?_
    simp +contextual -dsimp -implicitDefEqProofs (maxSteps := 5000000) only [go_sem, reduceIte, reduceCtorEq, Nat.reduceEqDiff, Nat.reduceBEq, Nat.reduceAdd, Nat.reduceLeDiff, Nat.reduceMul, Nat.reduceLT, Int.reduceEq, Int.reduceLT, Int.reduceLE, ht]
    refine ⟨fun _ => ?_, fun _ => ?_⟩
    · refine retR_less (l := [aProg [] true]) (H' := F.set br K1) ?_ (AHeap.le_refl _) ⟨[], true, K1, rfl, rfl, rdk_mono hK1 (by omega), by simp⟩
      simp only [resA, go_sem, reduceIte, reduceCtorEq, Nat.reduceEqDiff, Nat.reduceBEq, Nat.reduceAdd, Nat.reduceLeDiff, Nat.reduceMul, Nat.reduceLT, Int.reduceEq, Int.reduceLT, Int.reduceLE]
      try rfl
    · refine (blk0.frz F br _ K1 t cl false hK1 hF (by omega)).mono ?_
      rintro _ _ ⟨l, cl', K2, rfl, rfl, hK2, h1, h2⟩
      simp +contextual -dsimp -implicitDefEqProofs (maxSteps := 5000000) only [go_sem, reduceIte, reduceCtorEq, Nat.reduceEqDiff, Nat.reduceBEq, Nat.reduceAdd, Nat.reduceLeDiff, Nat.reduceMul, Nat.reduceLT, Int.reduceEq, Int.reduceLT, Int.reduceLE, ht]
      refine ⟨fun h8 => ?_, fun h8 => ?_⟩
      · refine k_pick t.length hK2 hF (by omega) rfl fun v K3 _ _ _ hK3 => ?_
        simp +contextual -dsimp -implicitDefEqProofs (maxSteps := 5000000) only [go_sem, reduceIte, reduceCtorEq, Nat.reduceEqDiff, Nat.reduceBEq, Nat.reduceAdd, Nat.reduceLeDiff, Nat.reduceMul, Nat.reduceLT, Int.reduceEq, Int.reduceLT, Int.reduceLE, ht]
        refine retR_less (l := [aProg [⟨0, 2, v, 4⟩] true]) (H' := F.set br K3) ?_ (AHeap.le_refl _) ⟨[⟨0, 2, v, 4⟩], true, K3, rfl, rfl, rdk_mono hK3 (by omega), by simp⟩
        simp only [resA, go_sem, reduceIte, reduceCtorEq, Nat.reduceEqDiff, Nat.reduceBEq, Nat.reduceAdd, Nat.reduceLeDiff, Nat.reduceMul, Nat.reduceLT, Int.reduceEq, Int.reduceLT, Int.reduceLE]
        try rfl
      · refine retR_less (l := [aProg l cl']) (H' := F.set br K2) ?_ (AHeap.le_refl _) ⟨l, cl', K2, rfl, rfl, rdk_mono hK2 (by omega), by omega⟩
        simp only [resA, go_sem, reduceIte, reduceCtorEq, Nat.reduceEqDiff, Nat.reduceBEq, Nat.reduceAdd, Nat.reduceLeDiff, Nat.reduceMul, Nat.reduceLT, Int.reduceEq, Int.reduceLT, Int.reduceLE]
theorem c_twoPrograms (F : AHeap) (br n : Nat) (K : ABlk) (h : RdK n K) (hF : F br = none) (hn : n < 300000000) : ACalls Tryz.prog 57 [.ptr br 2 0 0] (F.set br K) fun r H' =>
    ∃ t cl, ∃ (p q : List Line) (c1 c2 : Bool) (K' : ABlk), r = .tup [aTree t cl, aProg p c1, aProg q c2] ∧ H' = F.set br K' ∧ RdK (n + 2000000) K' ∧ t.length ≤ 8 ∧ shortNames t ∧ p.length ≤ 24 ∧ q.length ≤ 24 := by
  refine acalls_of1 Tryz.func57 rfl (by kernel_rfl) rfl rfl (awp_sound (fz := fun _ => []) (im := fun _ => false) mixed _ _ _ _ (by kernel_rfl) ?_)
  simp +contextual -dsimp -implicitDefEqProofs (maxSteps := 5000000) only [go_sem, reduceIte, reduceCtorEq, Nat.reduceEqDiff, Nat.reduceBEq, Nat.reduceAdd, Nat.reduceLeDiff, Nat.reduceMul, Nat.reduceLT, Int.reduceEq, Int.reduceLT, Int.reduceLE]
  rintro b2 ⟨p1, p2, hb2⟩
  rw [br_out p1]
  have n2 : ∀ K4, (F.set b2 K4) br = none := fun K4 => by rw [set_other p2]; exact hF
  refine (c_someProgram _ br n K h (n2 _) (by omega)).mono ?_
  rintro _ _ ⟨t, cl, p, c1, K1, rfl, rfl, hK1, ht8, hs, hp⟩
  simp +contextual -dsimp -implicitDefEqProofs (maxSteps := 5000000) only [go_sem, reduceIte, reduceCtorEq, Nat.reduceEqDiff, Nat.reduceBEq, Nat.reduceAdd, Nat.reduceLeDiff, Nat.reduceMul, Nat.reduceLT, Int.reduceEq, Int.reduceLT, Int.reduceLE, p1, p2]
  rintro b4 ⟨q1, q2, q3, q4, hb4⟩
  simp only [br_out q1]
  have n4 : ∀ K4 K5, ((F.set b2 K4).set b4 K5) br = none := fun K4 K5 => by rw [set_other q2]; exact n2 _
  refine k_pick 2 hK1 (n4 _ _) (by omega) rfl fun v K2 _ _ _ hK2 => ?_
  simp +contextual -dsimp -implicitDefEqProofs (maxSteps := 5000000) only [go_sem, reduceIte, reduceCtorEq, Nat.reduceEqDiff, Nat.reduceBEq, Nat.reduceAdd, Nat.reduceLeDiff, Nat.reduceMul, Nat.reduceLT, Int.reduceEq, Int.reduceLT, Int.reduceLE, p1, p2, q1, q2, q3, q4]
  refine ⟨fun _ => ?_, fun _ => ?_⟩
  · refine (c_shortProgram _ br _ K2 t cl hK2 (n4 _ _) (by omega)).mono ?_
    rintro _ _ ⟨p', c1', K3, rfl, rfl, hK3, hp'⟩
    simp +contextual -dsimp -implicitDefEqProofs (maxSteps := 5000000) only [go_sem, reduceIte, reduceCtorEq, Nat.reduceEqDiff, Nat.reduceBEq, Nat.reduceAdd, Nat.reduceLeDiff, Nat.reduceMul, Nat.reduceLT, Int.reduceEq, Int.reduceLT, Int.reduceLE, p1, p2, q1, q2, q3, q4]
    · refine draw_intro [1, 0, 0, 0, 3, 2, 0, 0] _ (by kernel_rfl) (le_set (n4 _ _)) ?_
      simp +contextual -dsimp -implicitDefEqProofs (maxSteps := 5000000) only [go_sem, reduceIte, reduceCtorEq, Nat.reduceEqDiff, Nat.reduceBEq, Nat.reduceAdd, Nat.reduceLeDiff, Nat.reduceMul, Nat.reduceLT, Int.reduceEq, Int.reduceLT, Int.reduceLE, p1, p2, q1, q2, q3, q4]
      refine (c_shortProgram _ br _ K3 t cl hK3 (n4 _ _) (by omega)).mono ?_
      rintro _ _ ⟨q, c2, K5, rfl, rfl, hK5, hq⟩
      refine ⟨le_set (n4 _ _), ?_⟩
      simp +contextual -dsimp -implicitDefEqProofs (maxSteps := 5000000) only [go_sem, reduceIte, reduceCtorEq, Nat.reduceEqDiff, Nat.reduceBEq, Nat.reduceAdd, Nat.reduceLeDiff, Nat.reduceMul, Nat.reduceLT, Int.reduceEq, Int.reduceLT, Int.reduceLE, p1, p2, q1, q2, q3, q4]
      refine retR_less (l := [aTree t cl, aProg p' c1', aProg q c2]) (H' := F.set br K5) ?_ (le_ch (le_s1 (le_s1 (AHeap.le_refl _) hb2) hb4)) ⟨t, cl, p', q, c1', c2, K5, rfl, rfl, rdk_mono hK5 (by omega), ht8, hs, by omega, by omega⟩
      simp only [resA, go_sem, reduceIte, reduceCtorEq, Nat.reduceEqDiff, Nat.reduceBEq, Nat.reduceAdd, Nat.reduceLeDiff, Nat.reduceMul, Nat.reduceLT, Int.reduceEq, Int.reduceLT, Int.reduceLE, p1, p2, q1, q2, q3, q4]
  · refine draw_intro [1, 0, 0, 0, 3, 2, 0, 0] _ (by kernel_rfl) (le_set (n4 _ _)) ?_
    simp +contextual -dsimp -implicitDefEqProofs (maxSteps := 5000000) only [go_sem, reduceIte, reduceCtorEq, Nat.reduceEqDiff, Nat.reduceBEq, Nat.reduceAdd, Nat.reduceLeDiff, Nat.reduceMul, Nat.reduceLT, Int.reduceEq, Int.reduceLT, Int.reduceLE, p1, p2, q1, q2, q3, q4]
    refine (c_shortProgram _ br _ K2 t cl hK2 (n4 _ _) (by omega)).mono ?_
    rintro _ _ ⟨q, c2, K5, rfl, rfl, hK5, hq⟩
    refine ⟨le_set (n4 _ _), ?_⟩
    simp +contextual -dsimp -implicitDefEqProofs (maxSteps := 5000000) only [go_sem, reduceIte, reduceCtorEq, Nat.reduceEqDiff, Nat.reduceBEq, Nat.reduceAdd, Nat.reduceLeDiff, Nat.reduceMul, Nat.reduceLT, Int.reduceEq, Int.reduceLT, Int.reduceLE, p1, p2, q1, q2, q3, q4]
    refine retR_less (l := [aTree t cl, aProg p c1, aProg q c2]) (H' := F.set br K5) ?_ (le_ch (le_s1 (le_s1 (AHeap.le_refl _) hb2) hb4)) ⟨t, cl, p, q, c1, c2, K5, rfl, rfl, rdk_mono hK5 (by omega), ht8, hs, by omega, by omega⟩
    simp only [resA, go_sem, reduceIte, reduceCtorEq, Nat.reduceEqDiff, Nat.reduceBEq, Nat.reduceAdd, Nat.reduceLeDiff, Nat.reduceMul, Nat.reduceLT, Int.reduceEq, Int.reduceLT, Int.reduceLE, p1, p2, q1, q2, q3, q4]
theorem c_DrawWithFinally (F : AHeap) (bs : List UInt8) (cb : Bool) : ACalls Tryz.prog 27 [.vsl (bs.map rU) cb] F fun r H' =>
    ∃ t cl, ∃ (p q : List Line) (c1 c2 : Bool), r = .tup [aTree t cl, aProg p c1, aProg q c2] ∧ H' = F ∧ shortNames t ∧ t.length ≤ 8 ∧ p.length ≤ 24 ∧ q.length ≤ 24 := by
  refine acalls_of1 Tryz.func27 rfl (by kernel_rfl) rfl rfl (awp_sound (fz := fun _ => []) (im := fun _ => false) mixed _ _ _ _ (by kernel_rfl) ?_)
  simp +contextual -dsimp -implicitDefEqProofs (maxSteps := 5000000) only [go_sem, reduceIte, reduceCtorEq, Nat.reduceEqDiff, Nat.reduceBEq, Nat.reduceAdd, Nat.reduceLeDiff, Nat.reduceMul, Nat.reduceLT, Int.reduceEq, Int.reduceLT, Int.reduceLE]
  rintro b2 h2
  refine (c_newReader bs cb _).mono ?_
  rintro _ H' ⟨br, rfl, hR⟩
  obtain ⟨K1, hK1, rfl⟩ := rd_to hR
  have f4 : ∀ K2, (F.set b2 K2) br = none := by
    have q := hR; obtain ⟨_, _, _, _, _, q, _⟩ := q
    rw [set_none] at q
    intro K2; rw [set_none]; exact q
  have q1 := f4 ⟨1, 0, []⟩
  rw [set_none] at q1
  obtain ⟨u1, u2, hr⟩ := q1
  simp +contextual -dsimp -implicitDefEqProofs (maxSteps := 5000000) only [go_sem, reduceIte, reduceCtorEq, Nat.reduceEqDiff, Nat.reduceBEq, Nat.reduceAdd, Nat.reduceLeDiff, Nat.reduceMul, Nat.reduceLT, Int.reduceEq, Int.reduceLT, Int.reduceLE]
  refine (c_twoPrograms _ br 0 K1 hK1 (f4 _) (by omega)).mono ?_
  rintro _ _ ⟨t, cl, p, q, c1, c2, K2, rfl, rfl, hK2, ht8, hs, hp, hq⟩
  simp +contextual -dsimp -implicitDefEqProofs (maxSteps := 5000000) only [go_sem, reduceIte, reduceCtorEq, Nat.reduceEqDiff, Nat.reduceBEq, Nat.reduceAdd, Nat.reduceLeDiff, Nat.reduceMul, Nat.reduceLT, Int.reduceEq, Int.reduceLT, Int.reduceLE, u1, u2]
  refine retR_less (l := [aTree t cl, aProg p c1, aProg q c2]) (H' := F) ?_ (le_s1 (le_s1 (AHeap.le_refl _) h2) hr) ⟨t, cl, p, q, c1, c2, rfl, rfl, hs, ht8, hp, hq⟩
  simp only [resA, go_sem, reduceIte, reduceCtorEq, Nat.reduceEqDiff, Nat.reduceBEq, Nat.reduceAdd, Nat.reduceLeDiff, Nat.reduceMul, Nat.reduceLT, Int.reduceEq, Int.reduceLT, Int.reduceLE, u1, u2]
end
section
open Go Go.Sim
set_option maxRecDepth 100000
set_option maxHeartbeats 4000000

theorem res_len3 {t : List Class} {p : List Line} (h : ValidP t p) : (resOf (runP t p)).log.length ≤ 34992 := by
  have := (runP_goes h).len
  rw [res_log]
  have : (rs0 : RS).log.length = 0 := rfl
  omega
theorem mk_true {t : List Class} {b : Bool} {l : List Line} (h : mkB b t l = true) : b = true ∧ ValidP t l ∧ validB t l = true ∧ mkR b t l = l := by
  unfold mkB at h
  rw [Bool.and_eq_true] at h
  refine ⟨h.1, validB_true.1 h.2, h.2, ?_⟩
  unfold mkR madeF
  rw [if_pos h.1, if_pos h.2]
theorem c_mRun (t : List Class) (cl : Bool) (p : List Line) (c1 : Bool) (H : AHeap) (hn : namesOk t) (hp : p.length ≤ 1000) (hv : validB t p = true) : ACalls Tryz.prog 12 [aTree t cl, aProg p c1] H fun r H' => (∃ c2 c3, r = aRes (resOf (runP t p)) c2 c3) ∧ H' = H := by
  have k := own_frz (c_mRunProgram t cl p c1 H hn (by omega))
  rw [if_pos hv] at k
  exact k
end
section
open Go Go.Sim
set_option maxRecDepth 100000
set_option maxHeartbeats 4000000
theorem c_LawWithFinally (bs : List UInt8) (cb : Bool) (H : AHeap) : ACalls Tryz.prog 8 [.vsl (bs.map rU) cb] H fun r H' => r = B true ∧ H' = H := by
  have eqv : ∀ l : List Line, decide (l = l) = true := fun l => by simp
  have ers : ∀ R : Res, resEq R R = true := fun R => by simp [resEq]
  refine acalls_of1 Tryz.func8 rfl (by kernel_rfl) rfl rfl (awp_sound (fz := fun r => if r = 3 then [3] else if r = 8 then [10] else if r = 9 then [11] else if r = 10 then [12] else []) (im := fun _ => false) mixed _ _ _ _ (by kernel_rfl) ?_)
  simp +contextual -dsimp -implicitDefEqProofs (maxSteps := 5000000) only [go_sem, reduceIte, reduceCtorEq, Nat.reduceEqDiff, Nat.reduceBEq, Nat.reduceAdd, Nat.reduceLeDiff, Nat.reduceMul, Nat.reduceLT, Int.reduceEq, Int.reduceLT, Int.reduceLE]
  refine ⟨fun hbig => ?_, fun hsmall => ?_⟩
  · refine retR_less (l := [B true]) (H' := H) ?_ (AHeap.le_refl _) ⟨rfl, rfl⟩
    simp only [resA, go_sem, reduceIte, reduceCtorEq, Nat.reduceEqDiff, Nat.reduceBEq, Nat.reduceAdd, Nat.reduceLeDiff, Nat.reduceMul, Nat.reduceLT, Int.reduceEq, Int.reduceLT, Int.reduceLE]
  refine (c_DrawWithFinally H bs cb).mono ?_
  rintro _ H1 ⟨t, cl, p, q, c1, c2, rfl, hH, hs, ht8, hp, hq⟩
  rw [hH]
  have hn := short_ok hs
  have hip := innP_len p
  have hiq := innP_len q
  simp +contextual -dsimp -implicitDefEqProofs (maxSteps := 5000000) only [go_sem, reduceIte, reduceCtorEq, Nat.reduceEqDiff, Nat.reduceBEq, Nat.reduceAdd, Nat.reduceLeDiff, Nat.reduceMul, Nat.reduceLT, Int.reduceEq, Int.reduceLT, Int.reduceLE]
  intro b3 hb3
  refine (c_mWithFinally t cl p q c1 c2 _ hn (by omega) (by omega)).mono ?_
  rintro _ H ⟨⟨d1, rfl⟩, rfl⟩
  simp +contextual -dsimp -implicitDefEqProofs (maxSteps := 5000000) only [go_sem, reduceIte, reduceCtorEq, Nat.reduceEqDiff, Nat.reduceBEq, Nat.reduceAdd, Nat.reduceLeDiff, Nat.reduceMul, Nat.reduceLT, Int.reduceEq, Int.reduceLT, Int.reduceLE]
  refine (c_sWithFinally t cl p q c1 c2 _ hn (by omega) (by omega)).mono ?_
  rintro _ H ⟨⟨d2, rfl⟩, rfl⟩
  simp +contextual -dsimp -implicitDefEqProofs (maxSteps := 5000000) only [go_sem, reduceIte, reduceCtorEq, Nat.reduceEqDiff, Nat.reduceBEq, Nat.reduceAdd, Nat.reduceLeDiff, Nat.reduceMul, Nat.reduceLT, Int.reduceEq, Int.reduceLT, Int.reduceLE]
  refine (c_equalLines _ _ _ _ _).det ?_
  rw [eqv]
  cases hb : mkB (validB t p && validB t q) t (finP p q)
  · simp +contextual -dsimp -implicitDefEqProofs (maxSteps := 5000000) only [go_sem, reduceIte, reduceCtorEq, Nat.reduceEqDiff, Nat.reduceBEq, Nat.reduceAdd, Nat.reduceLeDiff, Nat.reduceMul, Nat.reduceLT, Int.reduceEq, Int.reduceLT, Int.reduceLE]
    refine (c_equalLines _ _ _ _ _).det ?_
    rw [eqv]
    simp +contextual -dsimp -implicitDefEqProofs (maxSteps := 5000000) only [go_sem, reduceIte, reduceCtorEq, Nat.reduceEqDiff, Nat.reduceBEq, Nat.reduceAdd, Nat.reduceLeDiff, Nat.reduceMul, Nat.reduceLT, Int.reduceEq, Int.reduceLT, Int.reduceLE]
    refine retR_less (l := [B true]) (H' := H) ?_ (AHeap.le_refl _) ⟨rfl, rfl⟩
    simp only [resA, go_sem, reduceIte, reduceCtorEq, Nat.reduceEqDiff, Nat.reduceBEq, Nat.reduceAdd, Nat.reduceLeDiff, Nat.reduceMul, Nat.reduceLT, Int.reduceEq, Int.reduceLT, Int.reduceLE]
  obtain ⟨hvb, hv3, hvb3, emk⟩ := mk_true hb
  rw [Bool.and_eq_true] at hvb
  have hv1 := validB_true.1 hvb.1
  have hv2 := validB_true.1 hvb.2
  rw [emk]
  have k1 := fun H => c_mRun t cl p c1 H hn (by omega) hvb.1
  have k2 := fun H => c_mRun t cl q c2 H hn (by omega) hvb.2
  have k3 := fun H => c_mRun t cl (finP p q) d1 H hn (by simp [finP]; omega) hvb3
  have hl1 := res_len3 hv1
  have hl2 := res_len3 hv2
  have hl3 := res_len3 hv3
  obtain ⟨g1, g2⟩ := fin_law hv1 hv2 hv3
  generalize resOf (runP t p) = R1 at hl1 k1 g1 g2
  generalize resOf (runP t q) = R2 at hl2 k2 g1 g2
  generalize resOf (runP t (finP p q)) = R3 at hl3 k3 g1 g2
  simp +contextual -dsimp -implicitDefEqProofs (maxSteps := 5000000) only [go_sem, reduceIte, reduceCtorEq, Nat.reduceEqDiff, Nat.reduceBEq, Nat.reduceAdd, Nat.reduceLeDiff, Nat.reduceMul, Nat.reduceLT, Int.reduceEq, Int.reduceLT, Int.reduceLE]
  refine (k1 _).mono ?_
  rintro _ H ⟨⟨c3, c4, rfl⟩, rfl⟩
  simp +contextual -dsimp -implicitDefEqProofs (maxSteps := 5000000) only [go_sem, reduceIte, reduceCtorEq, Nat.reduceEqDiff, Nat.reduceBEq, Nat.reduceAdd, Nat.reduceLeDiff, Nat.reduceMul, Nat.reduceLT, Int.reduceEq, Int.reduceLT, Int.reduceLE]
  intro b9 hb9
  refine (k2 _).mono ?_
  rintro _ H ⟨⟨c5, c6, rfl⟩, rfl⟩
  simp +contextual -dsimp -implicitDefEqProofs (maxSteps := 5000000) only [go_sem, reduceIte, reduceCtorEq, Nat.reduceEqDiff, Nat.reduceBEq, Nat.reduceAdd, Nat.reduceLeDiff, Nat.reduceMul, Nat.reduceLT, Int.reduceEq, Int.reduceLT, Int.reduceLE]
  rintro b10 hb10
  refine (k3 _).mono ?_
  rintro _ H ⟨⟨c7, c8, rfl⟩, rfl⟩
  simp +contextual -dsimp -implicitDefEqProofs (maxSteps := 5000000) only [go_sem, reduceIte, reduceCtorEq, Nat.reduceEqDiff, Nat.reduceBEq, Nat.reduceAdd, Nat.reduceLeDiff, Nat.reduceMul, Nat.reduceLT, Int.reduceEq, Int.reduceLT, Int.reduceLE]
  intro b11 hb11
  obtain ⟨m, g1⟩ := g1
  refine draw_intro [0, 0, 0, 0, 0, 0, 0, 0, 0, 0, 0, 0, 0, 0, 0, 0, 2, 0, 0] AHeap.none (by kernel_rfl) none_le ?_
  have hl13 : ¬ R3.log.length < R1.log.length := by rw [g1]; simp
  simp +contextual -dsimp -implicitDefEqProofs (maxSteps := 5000000) only [go_sem, reduceIte, reduceCtorEq, Nat.reduceEqDiff, Nat.reduceBEq, Nat.reduceAdd, Nat.reduceLeDiff, Nat.reduceMul, Nat.reduceLT, Int.reduceEq, Int.reduceLT, Int.reduceLE, hl13]
  refine ⟨by omega, ?_⟩
  have htk : R3.log.take R1.log.length = R1.log := by rw [g1, List.take_left]
  have hld : R3.log.drop R1.log.length = m := by rw [g1, List.drop_left]
  rw [htk]
  refine (c_equalInts _ _ _ _ _).det ?_
  rw [decide_eq_true (rfl : R1.log = R1.log)]
  simp +contextual -dsimp -implicitDefEqProofs (maxSteps := 5000000) only [go_sem, reduceIte, reduceCtorEq, Nat.reduceEqDiff, Nat.reduceBEq, Nat.reduceAdd, Nat.reduceLeDiff, Nat.reduceMul, Nat.reduceLT, Int.reduceEq, Int.reduceLT, Int.reduceLE, hl13]
  refine aloop mixed (fz := fun r => if r = 3 then [3] else if r = 8 then [10] else if r = 9 then [11] else if r = 10 then [12] else []) (im := fun _ => false) (by kernel_rfl) (fun x tm H' => ∃ k : Nat, x = q.length - k ∧ k ≤ q.length ∧ H' = H ∧ (∀ i, i < k → (q.getD i default).kind ≠ 3) ∧ tm 5 = aProg q c2 ∧ tm 10 = .vptr [[.vsl (R1.log.map rI) c3, I R1.ed, I R1.val, .vsl (R1.heap.map rFault) c4]] 0 0 ∧ tm 11 = .vptr [[.vsl (R2.log.map rI) c5, I R2.ed, I R2.val, .vsl (R2.heap.map rFault) c6]] 0 0 ∧ tm 12 = .vptr [[.vsl (R3.log.map rI) c7, I R3.ed, I R3.val, .vsl (R3.heap.map rFault) c8]] 0 0 ∧ tm 13 = I k) q.length ⟨0, by omega, by omega, rfl, fun i hi => by omega, ?_⟩ ?_
  · simp +contextual -dsimp -implicitDefEqProofs (maxSteps := 5000000) only [go_sem, reduceIte, reduceCtorEq, Nat.reduceEqDiff, Nat.reduceBEq, Nat.reduceAdd, Nat.reduceLeDiff, Nat.reduceMul, Nat.reduceLT, Int.reduceEq, Int.reduceLT, Int.reduceLE]
  · rintro x tm H ⟨k, rfl, hk, rfl, hno, t5, t10, t11, t12, t13⟩
    by_cases hlt : k < q.length
    · simp +contextual -dsimp -implicitDefEqProofs (maxSteps := 5000000) only [go_sem, reduceIte, reduceCtorEq, Nat.reduceEqDiff, Nat.reduceBEq, Nat.reduceAdd, Nat.reduceLeDiff, Nat.reduceMul, Nat.reduceLT, Int.reduceEq, Int.reduceLT, Int.reduceLE, t5, t10, t11, t12, t13, hlt]
      refine ⟨fun h3 => ?_, fun h3 => ?_⟩
      · refine retR_less (l := [B true]) (H' := H) ?_ (AHeap.le_refl _) ⟨rfl, rfl⟩
        simp only [resA, go_sem, reduceIte, reduceCtorEq, Nat.reduceEqDiff, Nat.reduceBEq, Nat.reduceAdd, Nat.reduceLeDiff, Nat.reduceMul, Nat.reduceLT, Int.reduceEq, Int.reduceLT, Int.reduceLE]
      · refine ⟨_, by omega, k + 1, rfl, hlt, fun i hi => ?_, I_wrap (by omega) (by omega) (by omega)⟩
        rcases Nat.lt_or_ge i k with h | h
        · exact hno i h
        · rw [show i = k by omega]; exact h3
    · have hall : ∀ y ∈ q, y.kind ≠ 3 := by
        intro y hy
        obtain ⟨i, hi, rfl⟩ := List.mem_iff_getElem.1 hy
        have := hno i (by omega)
        rwa [List.getD_eq_getElem?_getD, List.getElem?_eq_getElem hi] at this
      obtain ⟨f1, f2, f3⟩ := g2 hall
      have hm : m = R2.log := by rw [g1] at f1; exact List.append_cancel_left f1
      subst hm
      simp +contextual -dsimp -implicitDefEqProofs (maxSteps := 5000000) only [go_sem, reduceIte, reduceCtorEq, Nat.reduceEqDiff, Nat.reduceBEq, Nat.reduceAdd, Nat.reduceLeDiff, Nat.reduceMul, Nat.reduceLT, Int.reduceEq, Int.reduceLT, Int.reduceLE, t5, t10, t11, t12, t13, hlt]
      refine draw_intro [0, 0, 0, 0, 0, 0, 0, 0, 2, 0] AHeap.none (by kernel_rfl) none_le ?_
      simp +contextual -dsimp -implicitDefEqProofs (maxSteps := 5000000) only [go_sem, reduceIte, reduceCtorEq, Nat.reduceEqDiff, Nat.reduceBEq, Nat.reduceAdd, Nat.reduceLeDiff, Nat.reduceMul, Nat.reduceLT, Int.reduceEq, Int.reduceLT, Int.reduceLE, t5, t10, t11, t12, t13, hlt]
      refine ⟨by omega, ?_⟩
      rw [hld]
      refine (c_equalInts _ _ _ _ _).det ?_
      rw [decide_eq_true (rfl : R2.log = R2.log)]
      simp +contextual -dsimp -implicitDefEqProofs (maxSteps := 5000000) only [go_sem, reduceIte, reduceCtorEq, Nat.reduceEqDiff, Nat.reduceBEq, Nat.reduceAdd, Nat.reduceLeDiff, Nat.reduceMul, Nat.reduceLT, Int.reduceEq, Int.reduceLT, Int.reduceLE, t5, t10, t11, t12, t13, hlt]
      refine ⟨fun he => ?_, fun he => ?_⟩
      · obtain ⟨w1, w2, w3⟩ := f2 he
        simp +contextual -dsimp -implicitDefEqProofs (maxSteps := 5000000) only [go_sem, reduceIte, reduceCtorEq, Nat.reduceEqDiff, Nat.reduceBEq, Nat.reduceAdd, Nat.reduceLeDiff, Nat.reduceMul, Nat.reduceLT, Int.reduceEq, Int.reduceLT, Int.reduceLE, t5, t10, t11, t12, t13, hlt, w1, w2]
        refine (c_equalHeap _ _ _ _ _).det ?_
        rw [w3, decide_eq_true (rfl : R1.heap = R1.heap)]
        simp +contextual -dsimp -implicitDefEqProofs (maxSteps := 5000000) only [go_sem, reduceIte, reduceCtorEq, Nat.reduceEqDiff, Nat.reduceBEq, Nat.reduceAdd, Nat.reduceLeDiff, Nat.reduceMul, Nat.reduceLT, Int.reduceEq, Int.reduceLT, Int.reduceLE, t5, t10, t11, t12, t13, hlt, w1, w2]
        refine retR_less (l := [B true]) (H' := H) ?_ (AHeap.le_refl _) ⟨rfl, rfl⟩
        simp only [resA, go_sem, reduceIte, reduceCtorEq, Nat.reduceEqDiff, Nat.reduceBEq, Nat.reduceAdd, Nat.reduceLeDiff, Nat.reduceMul, Nat.reduceLT, Int.reduceEq, Int.reduceLT, Int.reduceLE, w1, w2]
      · obtain ⟨w1, w2⟩ := f3 he
        rcases w2 with w2 | w2
        · simp +contextual -dsimp -implicitDefEqProofs (maxSteps := 5000000) only [go_sem, reduceIte, reduceCtorEq, Nat.reduceEqDiff, Nat.reduceBEq, Nat.reduceAdd, Nat.reduceLeDiff, Nat.reduceMul, Nat.reduceLT, Int.reduceEq, Int.reduceLT, Int.reduceLE, t5, t10, t11, t12, t13, hlt, w1, w2]
          refine retR_less (l := [B true]) (H' := H) ?_ (AHeap.le_refl _) ⟨rfl, rfl⟩
          simp only [resA, go_sem, reduceIte, reduceCtorEq, Nat.reduceEqDiff, Nat.reduceBEq, Nat.reduceAdd, Nat.reduceLeDiff, Nat.reduceMul, Nat.reduceLT, Int.reduceEq, Int.reduceLT, Int.reduceLE]
        · by_cases w4 : R2.ed = 2
          · simp +contextual -dsimp -implicitDefEqProofs (maxSteps := 5000000) only [go_sem, reduceIte, reduceCtorEq, Nat.reduceEqDiff, Nat.reduceBEq, Nat.reduceAdd, Nat.reduceLeDiff, Nat.reduceMul, Nat.reduceLT, Int.reduceEq, Int.reduceLT, Int.reduceLE, t5, t10, t11, t12, t13, hlt, w1, w4]
            refine retR_less (l := [B true]) (H' := H) ?_ (AHeap.le_refl _) ⟨rfl, rfl⟩
            simp only [resA, go_sem, reduceIte, reduceCtorEq, Nat.reduceEqDiff, Nat.reduceBEq, Nat.reduceAdd, Nat.reduceLeDiff, Nat.reduceMul, Nat.reduceLT, Int.reduceEq, Int.reduceLT, Int.reduceLE]
          · simp +contextual -dsimp -implicitDefEqProofs (maxSteps := 5000000) only [go_sem, reduceIte, reduceCtorEq, Nat.reduceEqDiff, Nat.reduceBEq, Nat.reduceAdd, Nat.reduceLeDiff, Nat.reduceMul, Nat.reduceLT, Int.reduceEq, Int.reduceLT, Int.reduceLE, t5, t10, t11, t12, t13, hlt, w1, w2, w4]
            refine retR_less (l := [B true]) (H' := H) ?_ (AHeap.le_refl _) ⟨rfl, rfl⟩
            simp only [resA, go_sem, reduceIte, reduceCtorEq, Nat.reduceEqDiff, Nat.reduceBEq, Nat.reduceAdd, Nat.reduceLeDiff, Nat.reduceMul, Nat.reduceLT, Int.reduceEq, Int.reduceLT, Int.reduceLE]
end
end
end Go.Proofs.YtbjgilehnlpmaaaGreat
