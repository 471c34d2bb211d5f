/- Walks and plain laws that the claims of this seat lean on. No condition. -/
import Derived.Test.YtckipeopgimenaaGreatJ4
import Derived.Test.YtckipeopgimenaaGreatSimZ
import Derived.Test.YtckipeopgimenaaGreatGrow
import Derived.Test.YtckipeopgimenaaGreatJ2
import Derived.Test.YtckipeopgimenaaGreatSimY
import Derived.Lib.ItoaNum
set_option linter.unusedVariables false
set_option linter.unusedSimpArgs false
namespace Go.Proofs.YtckipeopgimenaaGreat
open Go Go.Sim
section
open Go Go.Sim
set_option maxRecDepth 100000
/-- A fault isolated: its number, and the faults. -/
def isoR (fs : List Fault) (v : Int) : Int × List Fault := (idxF (fun x => decide (v = x)) (sortI (bfsF fs v)), isoL fs (sortI (bfsF fs v)))
theorem sort_dch {h : List Fault} (ho : heapOk h) {f : Int} (h0 : 0 ≤ f) (h1 : f < h.length) : sortI (bfsF h f) = (dchF h f).reverse := by
  rw [bfsF_dch ho h0 h1]
  exact sortI_dec (dchG_dec ho (f + 1).toNat f h1).1
section
variable {F h : List Fault}
theorem dch_pre {X : List Fault} (ho : heapOk F) : ∀ (m : Nat) (v : Int), v < F.length → dchG (F ++ X) m v = dchG F m v
  | 0, v, _ => rfl
  | m + 1, v, hv => by
    simp only [dchG]
    split
    · rename_i h0
      obtain ⟨o1, o2, o3⟩ := ho v.toNat (by omega)
      have e : ctxOf (F ++ X) v = ctxOf F v := by
        unfold ctxOf
        simp only [List.getD_eq_getElem?_getD]
        rw [List.getElem?_append_left (by omega)]
      have e3 : ctxOf F v < F.length := by
        have : ctxOf F v < v.toNat := o3
        omega
      rw [e, dch_pre ho m _ e3]
    · rfl
end
theorem runP_def (t : List Class) (p : List Line) : runP t p = runF t (forestP p) 0 none (-1) rs0 := rfl
theorem res_two {r : En × RS} (h : r.1.ed = 2) : resOf r = ⟨r.2.log, 2, (isoR r.2.fs r.1.val).1, (isoR r.2.fs r.1.val).2⟩ := by unfold resOf isoR; rw [if_pos h]
theorem res_else {r : En × RS} (h : r.1.ed ≠ 2) : resOf r = ⟨r.2.log, r.1.ed, r.1.val, []⟩ := by unfold resOf; rw [if_neg h]
theorem res_log (r : En × RS) : (resOf r).log = r.2.log := by unfold resOf; split <;> rfl
theorem res_ed (r : En × RS) : (resOf r).ed = r.1.ed := by
  unfold resOf
  split
  · rename_i h; rw [h]
  · rfl
end
section
open Go Go.Sim
set_option maxRecDepth 100000

theorem sr_start (s : RS) (wk : Bool) : SR (behind s.log s.fs wk) rs0 s := ⟨by show _ = _ ++ []; rw [List.append_nil], [], by show _ = _ ++ []; rw [List.append_nil], fun _ => rfl, fun _ => rfl⟩
/-- The program of a loop's block, from where it is. -/
def bodyP (t : List Class) (f : Fo) (s : RS) : En × RS := runF t f 1 none (-1) s
theorem en_same {e : En} {s : RS} (h : e.ed = 0 → e.val = 0) : (if e.ed = 0 then (En.next, s) else (e, s)) = (e, s) := by
  split
  · rename_i c
    obtain ⟨a, b⟩ := e
    simp only at c h
    rw [c, h c]; rfl
  · rfl
theorem body_eq {t : List Class} {p : List Line} : REq (runP t p) (bodyP t (forestP p) rs0) := run_eq t (forestP p) 0 1 (-1) rs0 rs0 rfl rfl
def excP (p : List Line) (a : Int) (q : List Line) : List Line := (⟨0, 7, 0, 0⟩ :: innP p) ++ (⟨0, 8, a, 0⟩ :: innP q)
theorem forest_two {t : List Class} {p q : List Line} (hp : ValidP t p) (hq : ValidP t q) (k a : Int) : forestP ((⟨0, 7, 0, 0⟩ :: innP p) ++ (⟨0, k, a, 0⟩ :: innP q)) = .node 7 0 0 (innF (forestP p)) (.node k a 0 (innF (forestP q)) .nil) := by
  obtain ⟨_, e1, _⟩ := validP_forest hp
  obtain ⟨_, e2, _⟩ := validP_forest hq
  have : (⟨0, 7, 0, 0⟩ :: innP p) ++ (⟨0, k, a, 0⟩ :: innP q) = (Fo.node 7 0 0 (innF (forestP p)) (.node k a 0 (innF (forestP q)) .nil)).flat 0 := by
    simp only [Fo.flat, List.append_nil]
    rw [show (0 : Int) + 1 = 1 from rfl, innF_flat, innF_flat, ← e1, ← e2]; rfl
  rw [this, forestP_flat]
/-- The second program, from where the first one ended. -/
noncomputable def nextP (t : List Class) (p q : List Line) (h : Int) : En × RS := runF t (forestP q) (0 + 1 + (innF (forestP p)).size + 1) none h (bodyP t (forestP p) rs0).2
theorem noAg_flat : ∀ (f : Fo) (d : Int), noAg f = true ↔ ∀ x ∈ f.flat d, x.kind ≠ 3
  | .nil, d => by simp [noAg, Fo.flat]
  | .node k a b kids rest, d => by
    simp only [noAg, Fo.flat, Bool.and_eq_true, Bool.not_eq_true', decide_eq_false_iff_not, noAg_flat kids (d + 1), noAg_flat rest d, List.mem_cons, List.mem_append]
    constructor
    · rintro ⟨h1, h2, h3⟩ x (rfl | h | h)
      · exact h1
      · exact h2 x h
      · exact h3 x h
    · exact fun h => ⟨h _ (.inl rfl), fun x hx => h x (.inr (.inl hx)), fun x hx => h x (.inr (.inr hx))⟩
theorem next_on {t : List Class} {p q : List Line} (hq : ValidP t q) (hn : ∀ x ∈ q, x.kind ≠ 3) (h : Int) : RR (behind (runP t p).2.log (runP t p).2.fs true) (runP t q) (nextP t p q h) := by
  have hb := body_eq (t := t) (p := p)
  obtain ⟨_, e2, _⟩ := validP_forest hq
  have hs := sr_start (bodyP t (forestP p) rs0).2 true
  rw [hb.2.1, hb.2.2] at hs
  exact sim_behind (runP t p).2.log (runP t p).2.fs true t (forestP q) 0 _ (-1) h rs0 _ (fun _ => (noAg_flat _ 0).2 (by rw [← e2]; exact hn)) (.inr ⟨by decide, .inl rfl⟩) hs
theorem next_goes {t : List Class} {p q : List Line} (hp : ValidP t p) (hq : ValidP t q) {h : Int} (hh : h < (runP t p).2.fs.length) : Goes t (cost (forestP q)) (bodyP t (forestP p) rs0).2 (nextP t p q h).1 (nextP t p q h).2 := by
  obtain ⟨h1, h2, h3, h4, h5, h6⟩ := validP_forest hq
  have hb := body_eq (t := t) (p := p)
  exact goes_run h1 (forestP q) _ none 0 h _ h3 (by rw [hb.2.2]; exact (runP_goes hp).ok) (by rw [hb.2.2]; exact hh) trivial
/-- The class of the fault that comes out. -/
def outCls (r : En × RS) : Int := clsOf r.2 r.1.val
theorem exc_run {t : List Class} {p q : List Line} (hp : ValidP t p) (hq : ValidP t q) (a : Int) :
    REq (if (runP t p).1.ed = 2 ∧ isF t (outCls (runP t p)) a = true then nextP t p q (runP t p).1.val else runP t p) (runP t (excP p a q)) := by
  have hb := body_eq (t := t) (p := p)
  have e0 : runF t (innF (forestP p)) (0 + 1) none (-1) rs0 = bodyP t (forestP p) rs0 := run_inn t (forestP p) _ _ _
  have ec : clsOf (bodyP t (forestP p) rs0).2 (bodyP t (forestP p) rs0).1.val = outCls (runP t p) := by
    unfold outCls clsOf; rw [hb.1, hb.2.2]
  rw [runP_def t (excP p a q), excP, forest_two hp hq, runF_try, e0]
  simp only [runF, show followsK 8 = true from rfl, if_true]
  rw [ec, hb.1]
  by_cases c : (runP t p).1.ed = 2 ∧ isF t (outCls (runP t p)) a = true
  · rw [if_pos c, if_pos c, run_inn]
    have en : runF t (forestP q) (0 + 1 + (innF (forestP p)).size + 1) none (runP t p).1.val (bodyP t (forestP p) rs0).2 = nextP t p q (runP t p).1.val := rfl
    rw [en]
    have he : EdOk false (nextP t p q (runP t p).1.val).1 := ed_run t (forestP q) false _ none _ _ (validP_forest hq).2.2.2.1 (fun q hq => by cases hq)
    generalize nextP t p q (runP t p).1.val = n at he ⊢
    have := en_same (s := n.2) he.1
    show REq n (if n.1.ed = 0 then (En.next, n.2) else (n.1, n.2))
    rw [this]
    exact REq.refl n
  · rw [if_neg c, if_neg c]
    have := en_same (s := (bodyP t (forestP p) rs0).2) (ed_top hp).1
    show REq (runP t p) (if (runP t p).1.ed = 0 then (En.next, (bodyP t (forestP p) rs0).2) else ((runP t p).1, (bodyP t (forestP p) rs0).2))
    rw [this]
    exact ⟨rfl, hb.2.1, hb.2.2⟩
/-- Faults are handled. -/
theorem exc_law {t : List Class} {p q : List Line} (hp : ValidP t p) (hq : ValidP t q) (a : Int) :
    (¬ ((runP t p).1.ed = 2 ∧ isF t (outCls (runP t p)) a = true) → resOf (runP t (excP p a q)) = resOf (runP t p)) ∧
    ((runP t p).1.ed = 2 ∧ isF t (outCls (runP t p)) a = true → (∃ m, (resOf (runP t (excP p a q))).log = (resOf (runP t p)).log ++ m) ∧
      ((∀ x ∈ q, x.kind ≠ 3) → (resOf (runP t (excP p a q))).log = (resOf (runP t p)).log ++ (resOf (runP t q)).log ∧ (resOf (runP t (excP p a q))).ed = (resOf (runP t q)).ed ∧ ((resOf (runP t q)).ed = 2 ∨ (resOf (runP t (excP p a q))).val = (resOf (runP t q)).val))) := by
  have hx := exc_run hp hq a
  have hb := body_eq (t := t) (p := p)
  refine ⟨fun c => ?_, fun c => ?_⟩
  · rw [if_neg c] at hx
    exact hx.res
  · rw [if_pos c] at hx
    rw [hx.res]
    have hgp := runP_goes hp
    have hg := next_goes hp hq (h := (runP t p).1.val) (hgp.val c.1).2
    have hon := fun hn => next_on (p := p) hq hn (runP t p).1.val
    generalize nextP t p q (runP t p).1.val = n at hg hon ⊢
    simp only [res_log, res_ed]
    obtain ⟨m, e1, _⟩ := hg.log
    rw [hb.2.1] at e1
    refine ⟨⟨m, e1⟩, fun hn => ?_⟩
    obtain ⟨⟨a1, a2, a3⟩, b1, _⟩ := hon hn
    refine ⟨b1, a1, ?_⟩
    by_cases c : (runP t q).1.ed = 2
    · exact .inl c
    · right
      rw [res_else (r := n) (by rw [a1]; exact c), res_else c]
      exact a3 c
end
section
set_option maxRecDepth 100000
attribute [local go_sem ↓] aw_skip aw_ret aw_exit aw_region aw_draw aw_seq aw_block aw_loop aw_cond frz_nil frz_cons sq_normal sq_ret sq_exit exB_normal exB_ret exB_same exB_other retQ_ret retQ_normal ret0_ret ret0_normal ao_nil go1 g_move g_assign g_pick g_build g_load g_binOp g_unOp g_convert g_fieldAddr g_field g_indexAddr g_index g_extract g_lookup g_slice g_nilCheck g_len g_makeFunc h_call h_append h_alloc h_box h_buildSlice h_makeSlice h_store gV i_box i_buildSlice i_move i_assign i_build i_load i_binOp i_unOp i_convert i_fieldAddr i_field i_indexAddr i_index i_extract i_lookup i_makeMap i_mapUpdate i_slice i_nilCheck i_makeFunc i_len i_max i_min i_alloc i_makeSlice i_store i_append i_call i_pick boxI boxA buildSliceI buildSliceA makeSliceA makeMapA allocA storeA p_move p_assign p_pick p_build p_load p_binOp p_unOp p_convert p_fieldAddr p_field p_indexAddr p_index p_extract p_lookup p_makeMap p_mapUpdate p_slice p_nilCheck p_makeFunc p_len p_max p_min p_alloc p_box p_buildSlice p_makeSlice p_store p_append p_call x_nil x_go1 x_g0 x_g1 x_g2 x_g3 x_s0 x_s1 x_s2 x_s3 u_move u_assign u_pick u_build u_load u_binOp u_unOp u_convert u_fieldAddr u_field u_indexAddr u_index u_extract u_lookup u_slice u_nilCheck u_makeFunc u_len u_buildSlice x_s4 x_g4 rq_normal rq_ret rq_exit aw_range
attribute [local go_sem] frzV_sl frzK_some set_none set_other AHeap.set_self set_del set_set cnd_t cnd_f cnd_b retA_one retA_two retA_three retA_four retA_nil gIf_b mrgV_b mrgV_wh mrgV_U gIf_U gIf_wh mrgB_f mrgB_some mrgB_if wh_true wh_false keepA_some keepA_if gD_zero gD_succ gT_some bxA_t bxA_f callA_fn ev_tmp ev_const ev_global ev_func oc_bool oc_int oc_string oc_nil oc_nilptr oc_nilfunc cl_bool cl_int cl_string cl_nil updO_some updO_none upd_same upd_other init_at pickA_b pickA_wh selA_t selA_f selA_and selA_or selA_orn selA_orm selA_bb selA_ii beqt b_add b_sub b_mul b_and b_or b_xor b_eql b_neq b_lss b_leq b_gtr b_geq b_quo b_rem b_shr b_seql b_sneq b_sadd b_beql b_bneq b_aeql b_aneq u_not u_neg isConstOp eqA eqCellV List.getD_cons_zero List.getD_cons_succ List.map_cons List.map_nil List.nil_append List.cons_append List.append_nil if_true if_false Option.map_some Option.map_none ne_eq not_false_eq_true oneA ldv ld1v ld1s wr1s ldRow stRow row_lit row_agg row_vsl row_sl row_ptr row_fn one_I one_B one_S one_vsl one_sl one_ptr one_fn extractA okA rI rS rU rClass rFault rExit rStart rLine Int.toNat_natCast List.length_cons List.length_nil List.length_map List.all_cons List.all_nil Bool.and_true Nat.zero_add List.getElem?_cons_zero List.getElem?_cons_succ List.take_succ_cons List.take_zero List.drop_succ_cons List.drop_zero and_self true_and and_true implies_true decide_eq_true_eq decide_eq_false_iff_not Bool.or_eq_true Bool.or_eq_false_iff Bool.and_eq_true Bool.not_eq_true' Bool.not_eq_false' beq_false decide_true decide_false Int.ofNat_lt Int.ofNat_le Int.natCast_nonneg Bool.or_true Bool.or_false Bool.true_or Bool.false_or beq_self_eq_true List.drop_one Bool.not_true Bool.not_false Bool.not_not Bool.false_eq_true Bool.true_eq_false false_implies true_implies Bool.true_and Bool.false_and Bool.and_false not_true_eq_false Int.natCast_eq_zero Int.natCast_pos Int.natCast_zero false_and and_false or_false false_or or_true true_or Bool.or_self none_le_iff List.replicate_zero Int.toNat_zero List.replicate_succ buildRows List.set_cons_zero List.set_cons_succ List.set_nil List.mapM_nil maxLen_eq Nat.zero_le Nat.mul_one Nat.one_mul bldA fillA spliceA List.take_nil List.drop_nil List.getElem?_nil ld1o wr1o bldSliceA le_same cv_i cvI_t quietT_fn qvd_some ld_o ldO_1 ldO_l wr_o wrO_1 set_2 set_3 set_4 putL_nil putL_cons List.zip_cons_cons List.zip_nil_left List.zip_nil_right List.toList_toArray frzV_set ti1 ti2 tk2 ti3 te3 ts3 tk3 tz3 ti4 tb4 ti5 tk5 tz5 ti9 te9 ts9 tk9 tz9 ti12 tk12 ti13 tp13 tf13_0 tf13_1 ti20 ti21 tk21 tz21 ti22 te22 tz22 ti23 te23 ti24 tp24 tf24_0 ti25 tp25 tf25_0 ti26 te26 ti28 ti29 te29 ti30 te30 ti31 tp31 tf31_0 ti32 tp32 tf32_0 ti33 tp33 tf33_0 tf33_1 tf33_2 tf33_3 ti34 tp34 tf34_0 tf34_1 tf34_2 tf34_3 ti35 ti36 ti37 ti38 ti40 ti42 ti43 ti44 tq44 tp44 tf44_0 tf44_1 tf44_2 ti45 tq45 tp45 tf45_0 tf45_1 tf45_2 ti47 ti48 ti49 tq49 tp49 tf49_0 tf49_1 tf49_2 tf49_3 ti50 tq50 tp50 tf50_0 tf50_1 tf50_2 tf50_3 ti51 ti52 ti54 ti55 ti56 ti57 te57 ti59 ti60 ti61 ti62 ti63 ti64 ti65 ti66 ti67 ti68 tq68 tp68 tf68_0 tf68_1 ti69 tq69 tp69 tf69_0 tf69_1 ti70 ti71 ti72 ti73 ti74 ti75 ti77 ti78 ti79 ti80 ti81 ti82 ti83 ti84 ti85 tq85 tp85 tf85_0 tf85_1 tf85_2 tf85_3 tf85_4 ti86 tq86 tp86 tf86_0 tf86_1 tf86_2 tf86_3 tf86_4 ti87 ti88 ti89 ti90 ti91 ti93 ti94 ti95 ti96 ti97 tq97 tp97 tf97_0 tf97_1 tf97_2 ti98 tq98 tp98 tf98_0 tf98_1 tf98_2 ti99 ti100 ti101 ti102 ti103 ti104 ti105 ti106 ti107 tp107 tf107_0 tf107_1 ti108 tp108 tf108_0 tf108_1 ti109 tp109 tf109_0 tf109_1 tf109_2 tf109_3 tf109_4 ti110 tp110 tf110_0 tf110_1 tf110_2 tf110_3 tf110_4 ti111 ti113 ti114 ti115 ti116 ti117 ti118 ti119 ti120 tp120 tf120_0 tf120_1 tf120_2 tf120_3 ti121 tp121 tf121_0 tf121_1 tf121_2 tf121_3 ti122 tq122 tp122 tf122_0 tf122_1 ti123 tq123 tp123 tf123_0 tf123_1 ti124 ti125 ti126 tq126 tp126 tf126_0 tf126_1 ti127 tq127 tp127 tf127_0 tf127_1 ti128 ti129 ti130 ti131 ti132 ti133 te133 ti134 ti135 ti136 ti137 ti138 ti139 ti140 ti141 ti142 ti143 ti144 tp144 tf144_0 tf144_1 tf144_2 ti145 tp145 tf145_0 tf145_1 tf145_2 ti146 ti147 ti148 ti149 ti150 te150 ti151 ti152 ti153 ti154 ti155 ti156 ti157 ti158 ti159 ti160 ti161 ti162 ti163 ti164 ti165 ti166 ti167 ti168 ti169 ti170 ti171 ti172 ti173 ti174 ti175 tk175 tz175 ti176 ti177 ti178 ti179 ti180 tk180 ti182 ti183 ti184 ti186 ti187 ti188 tk188 tz188 ti189 ti190 tk190 tz190 ti191 tk191 ti192 ti193 ti194 ti195 ti196 ti197 ti199 ti200 ti206 ti210 ti215 fp13_0 fv13_0 fp13_1 fv13_1 fp24_0 fv24_0 fp25_0 fv25_0 fp31_0 fv31_0 fp32_0 fv32_0 fp33_0 fv33_0 fp33_1 fv33_1 fp33_2 fv33_2 fp33_3 fv33_3 fp34_0 fv34_0 fp34_1 fv34_1 fp34_2 fv34_2 fp34_3 fv34_3 fp44_0 fv44_0 fp44_1 fv44_1 fp44_2 fv44_2 fp45_0 fv45_0 fp45_1 fv45_1 fp45_2 fv45_2 fp49_0 fv49_0 fp49_1 fv49_1 fp49_2 fv49_2 fp49_3 fv49_3 fp50_0 fv50_0 fp50_1 fv50_1 fp50_2 fv50_2 fp50_3 fv50_3 fp68_0 fv68_0 fp68_1 fv68_1 fp69_0 fv69_0 fp69_1 fv69_1 fp85_0 fv85_0 fp85_1 fv85_1 fp85_2 fv85_2 fp85_3 fv85_3 fp85_4 fv85_4 fp86_0 fv86_0 fp86_1 fv86_1 fp86_2 fv86_2 fp86_3 fv86_3 fp86_4 fv86_4 fp97_0 fv97_0 fp97_1 fv97_1 fp97_2 fv97_2 fp98_0 fv98_0 fp98_1 fv98_1 fp98_2 fv98_2 fp107_0 fv107_0 fp107_1 fv107_1 fp108_0 fv108_0 fp108_1 fv108_1 fp109_0 fv109_0 fp109_1 fv109_1 fp109_2 fv109_2 fp109_3 fv109_3 fp109_4 fv109_4 fp110_0 fv110_0 fp110_1 fv110_1 fp110_2 fv110_2 fp110_3 fv110_3 fp110_4 fv110_4 fp120_0 fv120_0 fp120_1 fv120_1 fp120_2 fv120_2 fp120_3 fv120_3 fp121_0 fv121_0 fp121_1 fv121_1 fp121_2 fv121_2 fp121_3 fv121_3 fp122_0 fv122_0 fp122_1 fv122_1 fp123_0 fv123_0 fp123_1 fv123_1 fp126_0 fv126_0 fp126_1 fv126_1 fp127_0 fv127_0 fp127_1 fv127_1 fp144_0 fv144_0 fp144_1 fv144_1 fp144_2 fv144_2 fp145_0 fv145_0 fp145_1 fv145_1 fp145_2 fv145_2 lv22 ll22 is22 ix22 sh22 so22 sb22 sm22 sp22 lv23 ll23 is23 ix23 sh23 so23 sb23 sm23 sp23 lv26 ll26 is26 ix26 sh26 so26 sb26 sm26 sp26 lv29 ll29 is29 ix29 sh29 so29 sb29 sm29 sp29 lv30 ll30 is30 ix30 sh30 so30 sb30 sm30 sp30 lv57 ll57 is57 ix57 sh57 so57 sb57 sm57 sp57 lv133 ll133 is133 sp133 lv150 ll150 is150 ix150 sh150 so150 sb150 sm150 sp150 xs9 ls9 sx9 sy9 sz9
section
open Go Go.Sim
set_option maxRecDepth 100000
set_option maxHeartbeats 4000000

theorem c_GrowL (n : Nat) (H : AHeap) (hn : n ≤ 1000000) : ACalls Tryz.prog 92 [.vsl [] true, I n] H fun r H' => Grow rLine 4 50 H H' r [] := by
  rcases Nat.eq_zero_or_pos n with h0 | h0
  · subst h0
    refine (acalls_grow0 (by kernel_rfl) fun base w => ?_).mono ?_
    · exact Tryz.growRoomLine base 0 0 0 w (by omega) (by omega) (by omega) (by omega)
    · rintro _ _ ⟨rfl, rfl⟩
      exact grow_nil
  · obtain ⟨i, d, z, hi, hd, hz, hsz, hby, hag, hzl, hzs, hz1⟩ := tinfo_spec ti50
    have hzz : z.cells.size = 4 := by rw [hzs]
    refine acalls_growN (bytes := i.bytes) (by kernel_rfl) (by decide) (fun base m w hm hb h63 => ?_) h0 (by rw [hby]; show n * 32 ≤ _; omega) (by omega)
    refine (Any8.slices_Grow_grow Tryz.laysGrowLine i z hi hz (by rw [hsz]; decide) base 0 0 m [] w (by omega) (by omega) (by simpa using hb) (by simpa using h63) (by simp) (fun _ => rfl) (fun a _ j v hj => by simp at hj)).mono ?_
    rintro e w' ⟨rfl, rfl⟩
    refine ⟨by rw [Nat.zero_add]; rfl, _, rfl, ?_⟩
    have hge := grownCap_ge w (0 + m) 0 (Tryz.laysGrowLine_ren.t 25)
    simp only [Array.size_append, size_zeroCells, hzz, List.size_toArray, List.length_nil, Nat.zero_add, ← Nat.add_mul] at hge ⊢
    refine Nat.mul_le_mul_right _ ?_
    show grownCap w m 0 (Tryz.laysGrowLine_ren.t 25) ≤ _
    omega
def rSeg (q : List Line × Bool) : List AV := [.vsl (q.1.map rLine) q.2]
theorem rSeg_len (q : List Line × Bool) : (rSeg q).length = 1 := rfl
def segs (ps : List (List Line × Bool)) : List Line := (ps.map (·.1)).flatten
theorem segs_next {ps : List (List Line × Bool)} {k : Nat} (h : k < ps.length) : segs (ps.take (k + 1)) = segs (ps.take k) ++ (ps.getD k default).1 := by
  unfold segs
  rw [List.take_succ_eq_append_getElem h, List.map_append, List.flatten_append, List.getD_eq_getElem?_getD, List.getElem?_eq_getElem h]
  simp
theorem segs_le (ps : List (List Line × Bool)) (k : Nat) : (segs (ps.take k)).length ≤ (segs ps).length := by
  have : segs ps = segs (ps.take k) ++ segs (ps.drop k) := by
    unfold segs
    rw [← List.flatten_append, ← List.map_append, List.take_append_drop]
  rw [this, List.length_append]; omega
theorem c_ConcatL (ps : List (List Line × Bool)) (cl : Bool) (H : AHeap) (hb : (segs ps).length ≤ 1000000) : ACalls Tryz.prog 49 [.vsl (ps.map rSeg) cl] H fun r H' => Grow rLine 4 50 H H' r (segs ps) := by
  refine acalls_len (by kernel_rfl) (List.mem_cons_self ..) fun hl => ?_
  rw [List.length_map] at hl
  refine acalls_of0 Tryz.func49 rfl (by kernel_rfl) rfl rfl (awp_sound (fz := fun _ => []) (im := fun _ => false) mixed _ _ _ _ (by kernel_rfl) ?_)
  simp +contextual -dsimp -implicitDefEqProofs (maxSteps := 5000000) only [go_sem, reduceIte, reduceCtorEq, Nat.reduceEqDiff, Nat.reduceBEq, Nat.reduceAdd, Nat.reduceLeDiff, Nat.reduceMul, Nat.reduceLT, Int.reduceEq, Int.reduceLT, Int.reduceLE]
  refine aloop mixed (fz := fun _ => []) (im := fun _ => false) (by kernel_rfl) (fun m tm H' => ∃ k : Nat, m = ps.length - k ∧ k ≤ ps.length ∧ H' = H ∧ tm 0 = .vsl (ps.map rSeg) cl ∧ tm 3 = I (segs (ps.take k)).length ∧ tm 9 = .vsl (ps.map rSeg) cl ∧ tm 10 = I ps.length ∧ tm 11 = I k) ps.length ⟨0, by omega, by omega, rfl, ?_⟩ ?_
  · simp +contextual -dsimp -implicitDefEqProofs (maxSteps := 5000000) only [go_sem, reduceIte, reduceCtorEq, Nat.reduceEqDiff, Nat.reduceBEq, Nat.reduceAdd, Nat.reduceLeDiff, Nat.reduceMul, Nat.reduceLT, Int.reduceEq, Int.reduceLT, Int.reduceLE]
    rfl
  · rintro m tm H ⟨k, rfl, hk, rfl, t0, t3, t9, t10, t11⟩
    by_cases hlt : k < ps.length
    · have h1 := segs_next hlt
      have h2 := segs_le ps (k + 1)
      rw [h1, List.length_append] at h2
      have hw : IntKind.i64.wrap (((segs (ps.take k)).length : Int) + ((ps.getD k default).1.length : Int)) = (((segs (ps.take (k + 1))).length : Nat) : Int) := by rw [h1, List.length_append, w64 (by omega) (by omega)]; omega
      have hnn : ¬ ((segs (ps.take (k + 1))).length : Int) < 0 := by omega
      simp +contextual -dsimp -implicitDefEqProofs (maxSteps := 5000000) only [go_sem, reduceIte, reduceCtorEq, Nat.reduceEqDiff, Nat.reduceBEq, Nat.reduceAdd, Nat.reduceLeDiff, Nat.reduceMul, Nat.reduceLT, Int.reduceEq, Int.reduceLT, Int.reduceLE, ixv te133 ti26 rSeg_len (show 0 < 1 by decide), rSeg, Nat.lt_irrefl, t0, t3, t9, t10, t11, hlt, hw, hnn]
      exact ⟨_, by omega, k + 1, rfl, hlt, rfl, I_wrap (by omega) (by omega) (by omega)⟩
    · have hke : k = ps.length := by omega
      subst hke
      rw [List.take_length] at t3
      simp +contextual -dsimp -implicitDefEqProofs (maxSteps := 5000000) only [go_sem, reduceIte, reduceCtorEq, Nat.reduceEqDiff, Nat.reduceBEq, Nat.reduceAdd, Nat.reduceLeDiff, Nat.reduceMul, Nat.reduceLT, Int.reduceEq, Int.reduceLT, Int.reduceLE, ixv te133 ti26 rSeg_len (show 0 < 1 by decide), rSeg, Nat.lt_irrefl, t0, t3, t9, t10, t11]
      refine (c_GrowL _ _ hb).mono ?_
      intro x H1 hg
      simp +contextual -dsimp -implicitDefEqProofs (maxSteps := 5000000) only [go_sem, reduceIte, reduceCtorEq, Nat.reduceEqDiff, Nat.reduceBEq, Nat.reduceAdd, Nat.reduceLeDiff, Nat.reduceMul, Nat.reduceLT, Int.reduceEq, Int.reduceLT, Int.reduceLE, ixv te133 ti26 rSeg_len (show 0 < 1 by decide), rSeg, Nat.lt_irrefl, t0, t3, t9, t10, t11]
      refine aloop mixed (fz := fun _ => []) (im := fun _ => false) (by kernel_rfl) (fun m tm H' => ∃ (k : Nat) (x : AV), m = ps.length - k ∧ k ≤ ps.length ∧ Grow rLine 4 50 H H' x (segs (ps.take k)) ∧ tm 6 = x ∧ tm 25 = .vsl (ps.map rSeg) cl ∧ tm 26 = I ps.length ∧ tm 27 = I k) ps.length ⟨0, x, by omega, by omega, by simpa [segs] using hg, ?_⟩ ?_
      · simp +contextual -dsimp -implicitDefEqProofs (maxSteps := 5000000) only [go_sem, reduceIte, reduceCtorEq, Nat.reduceEqDiff, Nat.reduceBEq, Nat.reduceAdd, Nat.reduceLeDiff, Nat.reduceMul, Nat.reduceLT, Int.reduceEq, Int.reduceLT, Int.reduceLE, ixv te133 ti26 rSeg_len (show 0 < 1 by decide), rSeg, Nat.lt_irrefl, t0]
      · rintro m tm H' ⟨k, x, rfl, hk, hg, t6, t25, t26, t27⟩
        by_cases hlt : k < ps.length
        · have h1 := segs_next hlt
          have h2 := segs_le ps (k + 1)
          rw [h1, List.length_append] at h2
          simp +contextual -dsimp -implicitDefEqProofs (maxSteps := 5000000) only [go_sem, reduceIte, reduceCtorEq, Nat.reduceEqDiff, Nat.reduceBEq, Nat.reduceAdd, Nat.reduceLeDiff, Nat.reduceMul, Nat.reduceLT, Int.reduceEq, Int.reduceLT, Int.reduceLE, ixv te133 ti26 rSeg_len (show 0 < 1 by decide), rSeg, Nat.lt_irrefl, t6, t25, t26, t27, hlt]
          refine app_lines (m := (ps.getD k default).1) hg (by omega) rfl fun x' H'' hg' => ?_
          simp +contextual -dsimp -implicitDefEqProofs (maxSteps := 5000000) only [go_sem, reduceIte, reduceCtorEq, Nat.reduceEqDiff, Nat.reduceBEq, Nat.reduceAdd, Nat.reduceLeDiff, Nat.reduceMul, Nat.reduceLT, Int.reduceEq, Int.reduceLT, Int.reduceLE, ixv te133 ti26 rSeg_len (show 0 < 1 by decide), rSeg, Nat.lt_irrefl, t6, t25, t26, t27, hlt]
          exact ⟨_, by omega, k + 1, x', rfl, hlt, by rw [h1]; exact hg', rfl, I_wrap (by omega) (by omega) (by omega)⟩
        · simp +contextual -dsimp -implicitDefEqProofs (maxSteps := 5000000) only [go_sem, reduceIte, reduceCtorEq, Nat.reduceEqDiff, Nat.reduceBEq, Nat.reduceAdd, Nat.reduceLeDiff, Nat.reduceMul, Nat.reduceLT, Int.reduceEq, Int.reduceLT, Int.reduceLE, ixv te133 ti26 rSeg_len (show 0 < 1 by decide), rSeg, Nat.lt_irrefl, t6, t25, t26, t27, hlt]
          rw [show k = ps.length by omega, List.take_length] at hg
          exact hg
end
section
open Go Go.Sim
set_option maxRecDepth 100000
set_option maxHeartbeats 4000000

theorem valid_depth {t : List Class} {p : List Line} (h : ValidP t p) : ∀ x ∈ p, 0 ≤ x.depth ∧ x.depth ≤ 5 := by
  obtain ⟨_, e, h3, _⟩ := validP_forest h
  have key : ∀ (f : Fo) (d : Int), numsF t f d = true → ∀ x ∈ f.flat d, 0 ≤ x.depth ∧ x.depth ≤ 5 := by
    intro f
    induction f with
    | nil => intro d _ x hx; cases hx
    | node k a b kids rest ihk ihr =>
      intro d hn x hx
      obtain ⟨n1, n2, n3, n4, n5⟩ := numsF_node hn
      simp only [Fo.flat, List.mem_cons, List.mem_append] at hx
      rcases hx with rfl | hx | hx
      · simp only [inR, Bool.and_eq_true, decide_eq_true_eq] at n2; exact n2
      · exact ihk _ n4 x hx
      · exact ihr _ n5 x hx
  rw [e]; exact key _ 0 h3
theorem getD_mem {l : List Line} {k : Nat} (h : k < l.length) : l.getD k default ∈ l := by
  rw [List.getD_eq_getElem?_getD, List.getElem?_eq_getElem h]; exact List.getElem_mem h
theorem take_nextL {l : List Line} {k : Nat} (h : k < l.length) : l.take (k + 1) = l.take k ++ [l.getD k default] := by
  rw [List.take_succ_eq_append_getElem h, List.getD_eq_getElem?_getD, List.getElem?_eq_getElem h]; rfl
theorem c_innerD (p : List Line) (cl : Bool) (H : AHeap) (hp : p.length ≤ 1000) (hd : ∀ x ∈ p, 0 ≤ x.depth ∧ x.depth ≤ 100) : ACalls Tryz.prog 50 [aProg p cl] H fun r H' => (∃ c, r = aProg (innP p) c) ∧ H' = H := by
  refine acalls_of1 Tryz.func50 rfl (by kernel_rfl) rfl rfl (awp_sound (fz := fun r => if r = 7 then [5] else []) (im := fun s => s == 10 || s == 26) mixed _ _ _ _ (by kernel_rfl) ?_)
  simp +contextual -dsimp -implicitDefEqProofs (maxSteps := 5000000) only [go_sem, reduceIte, reduceCtorEq, Nat.reduceEqDiff, Nat.reduceBEq, Nat.reduceAdd, Nat.reduceLeDiff, Nat.reduceMul, Nat.reduceLT, Int.reduceEq, Int.reduceLT, Int.reduceLE]
  refine ⟨fun h0 => ?_, fun h0 => ?_⟩
  · have hp0 : p = [] := List.eq_nil_of_length_eq_zero (by omega)
    subst hp0
    refine retR_less (l := [aProg (innP []) true]) (H' := H) ?_ (AHeap.le_refl _) ⟨⟨true, rfl⟩, rfl⟩
    simp only [resA, go_sem, reduceIte, reduceCtorEq, Nat.reduceEqDiff, Nat.reduceBEq, Nat.reduceAdd, Nat.reduceLeDiff, Nat.reduceMul, Nat.reduceLT, Int.reduceEq, Int.reduceLT, Int.reduceLE]
    try rfl
  · have hip : innP p = p.map deepL := by unfold innP; rw [if_neg (fun e => h0 (by rw [e]; rfl))]
    rw [hip]
    refine ⟨by omega, by omega, fun b3 hb3 => ?_⟩
    refine aloop mixed (fz := fun r => if r = 7 then [5] else []) (im := fun s => s == 10 || s == 26) (by kernel_rfl) (fun m tm H' => ∃ (k : Nat) (x : AV), m = p.length - k ∧ k ≤ p.length ∧ Grow rLine 4 50 H H' x ((p.take k).map deepL) ∧ tm 3 = x ∧ tm 14 = aProg p cl ∧ tm 15 = I p.length ∧ tm 16 = I k) p.length ⟨0, .sl b3 4 0 0 false, by omega, by omega, grow_new hb3, ?_⟩ ?_
    · simp +contextual -dsimp -implicitDefEqProofs (maxSteps := 5000000) only [go_sem, reduceIte, reduceCtorEq, Nat.reduceEqDiff, Nat.reduceBEq, Nat.reduceAdd, Nat.reduceLeDiff, Nat.reduceMul, Nat.reduceLT, Int.reduceEq, Int.reduceLT, Int.reduceLE]
    · rintro m tm H' ⟨k, x, rfl, hk, hg, t3, t14, t15, t16⟩
      by_cases hlt : k < p.length
      · have hdk := hd _ (getD_mem hlt)
        have hw : IntKind.i64.wrap ((p.getD k default).depth + 1) = (p.getD k default).depth + 1 := w64 (by omega) (by omega)
        simp +contextual -dsimp -implicitDefEqProofs (maxSteps := 5000000) only [go_sem, reduceIte, reduceCtorEq, Nat.reduceEqDiff, Nat.reduceBEq, Nat.reduceAdd, Nat.reduceLeDiff, Nat.reduceMul, Nat.reduceLT, Int.reduceEq, Int.reduceLT, Int.reduceLE, t3, t14, t15, t16, hlt]
        intro b5 hb5
        rw [hw]
        refine app_lines (m := [deepL (p.getD k default)]) hg (by simp; omega) rfl fun x' H'' hg' => ?_
        simp +contextual -dsimp -implicitDefEqProofs (maxSteps := 5000000) only [go_sem, reduceIte, reduceCtorEq, Nat.reduceEqDiff, Nat.reduceBEq, Nat.reduceAdd, Nat.reduceLeDiff, Nat.reduceMul, Nat.reduceLT, Int.reduceEq, Int.reduceLT, Int.reduceLE, t3, t14, t15, t16, hlt]
        exact ⟨_, by omega, k + 1, x', rfl, hlt, by rw [take_nextL hlt, List.map_append]; exact hg', rfl, I_wrap (by omega) (by omega) (by omega)⟩
      · rw [show k = p.length by omega, List.take_length] at hg
        simp +contextual -dsimp -implicitDefEqProofs (maxSteps := 5000000) only [go_sem, reduceIte, reduceCtorEq, Nat.reduceEqDiff, Nat.reduceBEq, Nat.reduceAdd, Nat.reduceLeDiff, Nat.reduceMul, Nat.reduceLT, Int.reduceEq, Int.reduceLT, Int.reduceLE, t3, t14, t15, t16, hlt]
        refine grow_frz (t := 2) (by simpa only [upd_same] using hg) fun c => ?_
        refine retR_less (l := [aProg (p.map deepL) c]) (H' := H) ?_ (AHeap.le_refl _) ⟨⟨c, rfl⟩, rfl⟩
        simp only [resA, go_sem, reduceIte, reduceCtorEq, Nat.reduceEqDiff, Nat.reduceBEq, Nat.reduceAdd, Nat.reduceLeDiff, Nat.reduceMul, Nat.reduceLT, Int.reduceEq, Int.reduceLT, Int.reduceLE]
theorem c_inner (p : List Line) (cl : Bool) (H : AHeap) (hp : p.length ≤ 1000) (hd : ∀ x ∈ p, 0 ≤ x.depth ∧ x.depth ≤ 5) : ACalls Tryz.prog 50 [aProg p cl] H fun r H' => (∃ c, r = aProg (innP p) c) ∧ H' = H :=
  c_innerD p cl H hp fun x hx => ⟨(hd x hx).1, by have := (hd x hx).2; omega⟩
/-- Lines that are half made deeper. -/
def halfL (p : List Line) (k : Nat) : List Line := (p.take k).map deepL ++ p.drop k
theorem halfL_len {p : List Line} {k : Nat} (h : k ≤ p.length) : (halfL p k).length = p.length := by simp [halfL]; omega
theorem halfL_at {p : List Line} {k : Nat} (h : k < p.length) : (halfL p k).getD k default = p.getD k default := by
  unfold halfL
  simp only [List.getD_eq_getElem?_getD]
  rw [List.getElem?_append_right (by simp; omega)]
  simp [Nat.min_eq_left (Nat.le_of_lt h)]
theorem halfL_set {p : List Line} {k : Nat} (h : k < p.length) : (halfL p k).set k (deepL (p.getD k default)) = halfL p (k + 1) := by
  unfold halfL
  rw [List.set_append_right _ _ (by simp; omega), take_nextL h, List.map_append, List.append_assoc]
  congr 1
  have e : k - ((p.take k).map deepL).length = 0 := by simp; omega
  rw [e]
  have e2 : p.getD k default = p[k] := by simp [List.getD_eq_getElem?_getD, h]
  rw [e2, List.drop_eq_getElem_cons h]; rfl
theorem c_indent (p : List Line) (cl : Bool) (H : AHeap) (hp : p.length ≤ 1000) (h0 : p ≠ []) (hd : ∀ x ∈ p, 0 ≤ x.depth ∧ x.depth ≤ 100) : ACalls Tryz.prog 93 [aProg p cl] H fun r H' => Grow rLine 4 50 H H' r (p.map deepL) := by
  refine acalls_of0 Tryz.func93 rfl (by kernel_rfl) rfl rfl (awp_sound (fz := fun _ => []) (im := fun s => s == 5) mixed _ _ _ _ (by kernel_rfl) ?_)
  simp +contextual -dsimp -implicitDefEqProofs (maxSteps := 5000000) only [go_sem, reduceIte, reduceCtorEq, Nat.reduceEqDiff, Nat.reduceBEq, Nat.reduceAdd, Nat.reduceLeDiff, Nat.reduceMul, Nat.reduceLT, Int.reduceEq, Int.reduceLT, Int.reduceLE]
  refine app_lines (m := p) grow_nil (by simp; omega) rfl fun x' H' hg => ?_
  rcases hg with ⟨e, _, _⟩ | ⟨bx, c, hbx, rfl, rfl⟩
  · exact absurd (by simpa using e) h0
  simp +contextual -dsimp -implicitDefEqProofs (maxSteps := 5000000) only [go_sem, reduceIte, reduceCtorEq, Nat.reduceEqDiff, Nat.reduceBEq, Nat.reduceAdd, Nat.reduceLeDiff, Nat.reduceMul, Nat.reduceLT, Int.reduceEq, Int.reduceLT, Int.reduceLE]
  refine aloop mixed (fz := fun _ => []) (im := fun s => s == 5) (by kernel_rfl) (fun m tm H' => ∃ (k : Nat), m = p.length - k ∧ k ≤ p.length ∧ H' = H.set bx ⟨4, 50, (halfL p k).map rLine⟩ ∧ tm 3 = .sl bx 4 0 p.length c ∧ tm 4 = I k) p.length ⟨0, by omega, by omega, by simp [halfL], ?_⟩ ?_
  · simp +contextual -dsimp -implicitDefEqProofs (maxSteps := 5000000) only [go_sem, reduceIte, reduceCtorEq, Nat.reduceEqDiff, Nat.reduceBEq, Nat.reduceAdd, Nat.reduceLeDiff, Nat.reduceMul, Nat.reduceLT, Int.reduceEq, Int.reduceLT, Int.reduceLE]
  · rintro m tm H' ⟨k, rfl, hk, rfl, t3, t4⟩
    by_cases hlt : k < p.length
    · have hdk := hd _ (getD_mem hlt)
      have hw : IntKind.i64.wrap ((p.getD k default).depth + 1) = (p.getD k default).depth + 1 := w64 (by omega) (by omega)
      have hl2 : k < (halfL p k).length := by rw [halfL_len hk]; exact hlt
      simp +contextual -dsimp -implicitDefEqProofs (maxSteps := 5000000) only [go_sem, reduceIte, reduceCtorEq, Nat.reduceEqDiff, Nat.reduceBEq, Nat.reduceAdd, Nat.reduceLeDiff, Nat.reduceMul, Nat.reduceLT, Int.reduceEq, Int.reduceLT, Int.reduceLE, t3, t4, hlt, hl2, halfL_at hlt, hw]
      rw [wrO_y (y := deepL (p.getD k default)) hl2 (by rw [halfL_at hlt]; rfl), halfL_set hlt]
      simp +contextual -dsimp -implicitDefEqProofs (maxSteps := 5000000) only [go_sem, reduceIte, reduceCtorEq, Nat.reduceEqDiff, Nat.reduceBEq, Nat.reduceAdd, Nat.reduceLeDiff, Nat.reduceMul, Nat.reduceLT, Int.reduceEq, Int.reduceLT, Int.reduceLE, t3, t4, hlt]
      exact ⟨_, by omega, k + 1, rfl, hlt, rfl, I_wrap (by omega) (by omega) (by omega)⟩
    · simp +contextual -dsimp -implicitDefEqProofs (maxSteps := 5000000) only [go_sem, reduceIte, reduceCtorEq, Nat.reduceEqDiff, Nat.reduceBEq, Nat.reduceAdd, Nat.reduceLeDiff, Nat.reduceMul, Nat.reduceLT, Int.reduceEq, Int.reduceLT, Int.reduceLE, t3, t4, hlt]
      have hke : k = p.length := by omega
      subst hke
      refine .inr ⟨bx, c, hbx, by simp, ?_⟩
      simp [halfL]
end
section
open Go Go.Sim
set_option maxRecDepth 100000
set_option maxHeartbeats 4000000

theorem c_underD (y : Line) (p : List Line) (cl : Bool) (H : AHeap) (hp : p.length ≤ 1000) (hd : ∀ x ∈ p, 0 ≤ x.depth ∧ x.depth ≤ 100) : ACalls Tryz.prog 53 [.agg (rLine y), aProg p cl] H fun r H' => Grow rLine 4 50 H H' r (y :: innP p) := by
  refine acalls_of1 Tryz.func53 rfl (by kernel_rfl) rfl rfl (awp_sound (fz := fun _ => []) (im := fun s => s == 2 || s == 9) mixed _ _ _ _ (by kernel_rfl) ?_)
  simp +contextual -dsimp -implicitDefEqProofs (maxSteps := 5000000) only [go_sem, reduceIte, reduceCtorEq, Nat.reduceEqDiff, Nat.reduceBEq, Nat.reduceAdd, Nat.reduceLeDiff, Nat.reduceMul, Nat.reduceLT, Int.reduceEq, Int.reduceLT, Int.reduceLE]
  refine ⟨fun h0 => ?_, fun h0 => ?_⟩
  · have hp0 : p = [] := List.eq_nil_of_length_eq_zero h0
    subst hp0
    refine draw_intro [1, 0, 0, 3, 2, 0] AHeap.none (by kernel_rfl) none_le ?_
    simp +contextual -dsimp -implicitDefEqProofs (maxSteps := 5000000) only [go_sem, reduceIte, reduceCtorEq, Nat.reduceEqDiff, Nat.reduceBEq, Nat.reduceAdd, Nat.reduceLeDiff, Nat.reduceMul, Nat.reduceLT, Int.reduceEq, Int.reduceLT, Int.reduceLE]
    refine acalls_frz (c_indent [⟨0, 0, 0, 0⟩] true _ (by simp) (by simp) (by simp)) fun c => ?_
    simp +contextual -dsimp -implicitDefEqProofs (maxSteps := 5000000) only [go_sem, reduceIte, reduceCtorEq, Nat.reduceEqDiff, Nat.reduceBEq, Nat.reduceAdd, Nat.reduceLeDiff, Nat.reduceMul, Nat.reduceLT, Int.reduceEq, Int.reduceLT, Int.reduceLE]
    refine app_lit (y := y) (l := [deepL ⟨0, 0, 0, 0⟩]) rfl (by simp) (by simp) fun x' H' hg => ?_
    simp +contextual -dsimp -implicitDefEqProofs (maxSteps := 5000000) only [go_sem, reduceIte, reduceCtorEq, Nat.reduceEqDiff, Nat.reduceBEq, Nat.reduceAdd, Nat.reduceLeDiff, Nat.reduceMul, Nat.reduceLT, Int.reduceEq, Int.reduceLT, Int.reduceLE]
    refine retR_less (l := [x']) (H' := H') ?_ (AHeap.le_refl _) hg
    simp only [resA, go_sem, reduceIte, reduceCtorEq, Nat.reduceEqDiff, Nat.reduceBEq, Nat.reduceAdd, Nat.reduceLeDiff, Nat.reduceMul, Nat.reduceLT, Int.reduceEq, Int.reduceLT, Int.reduceLE]
  · have hp0 : p ≠ [] := fun e => h0 (by rw [e]; rfl)
    have hip : innP p = p.map deepL := by unfold innP; rw [if_neg hp0]
    rw [hip]
    refine draw_intro [1, 0, 0, 3, 2, 0] AHeap.none (by kernel_rfl) none_le ?_
    simp +contextual -dsimp -implicitDefEqProofs (maxSteps := 5000000) only [go_sem, reduceIte, reduceCtorEq, Nat.reduceEqDiff, Nat.reduceBEq, Nat.reduceAdd, Nat.reduceLeDiff, Nat.reduceMul, Nat.reduceLT, Int.reduceEq, Int.reduceLT, Int.reduceLE]
    refine acalls_frz (c_indent p cl _ hp hp0 hd) fun c => ?_
    simp +contextual -dsimp -implicitDefEqProofs (maxSteps := 5000000) only [go_sem, reduceIte, reduceCtorEq, Nat.reduceEqDiff, Nat.reduceBEq, Nat.reduceAdd, Nat.reduceLeDiff, Nat.reduceMul, Nat.reduceLT, Int.reduceEq, Int.reduceLT, Int.reduceLE]
    refine app_lit (y := y) (l := p.map deepL) rfl (by simp; omega) (by simp; omega) fun x' H' hg => ?_
    simp +contextual -dsimp -implicitDefEqProofs (maxSteps := 5000000) only [go_sem, reduceIte, reduceCtorEq, Nat.reduceEqDiff, Nat.reduceBEq, Nat.reduceAdd, Nat.reduceLeDiff, Nat.reduceMul, Nat.reduceLT, Int.reduceEq, Int.reduceLT, Int.reduceLE]
    refine retR_less (l := [x']) (H' := H') ?_ (AHeap.le_refl _) hg
    simp only [resA, go_sem, reduceIte, reduceCtorEq, Nat.reduceEqDiff, Nat.reduceBEq, Nat.reduceAdd, Nat.reduceLeDiff, Nat.reduceMul, Nat.reduceLT, Int.reduceEq, Int.reduceLT, Int.reduceLE]
theorem c_under (y : Line) (p : List Line) (cl : Bool) (H : AHeap) (hp : p.length ≤ 1000) (hd : ∀ x ∈ p, 0 ≤ x.depth ∧ x.depth ≤ 5) : ACalls Tryz.prog 53 [.agg (rLine y), aProg p cl] H fun r H' => Grow rLine 4 50 H H' r (y :: innP p) :=
  c_underD y p cl H hp fun x hx => ⟨(hd x hx).1, by have := (hd x hx).2; omega⟩
theorem c_bothValid (t : List Class) (cl : Bool) (p q : List Line) (c1 c2 : Bool) (H : AHeap) (hn : namesOk t) (hp : p.length ≤ 4398046511104) (hq : q.length ≤ 4398046511104) : ACalls Tryz.prog 47 [aTree t cl, aProg p c1, aProg q c2] H fun r H' => r = B (validB t p && validB t q) ∧ H' = H := by
  refine acalls_of0 Tryz.func47 rfl (by kernel_rfl) rfl rfl (awp_sound (fz := fun _ => []) (im := fun s => s == 3) mixed _ _ _ _ (by kernel_rfl) ?_)
  simp +contextual -dsimp -implicitDefEqProofs (maxSteps := 5000000) only [go_sem, reduceIte, reduceCtorEq, Nat.reduceEqDiff, Nat.reduceBEq, Nat.reduceAdd, Nat.reduceLeDiff, Nat.reduceMul, Nat.reduceLT, Int.reduceEq, Int.reduceLT, Int.reduceLE]
  refine (c_ValidProgram t cl p c1 _ hn hp).det ?_
  cases hv : validB t p
  · simp +contextual -dsimp -implicitDefEqProofs (maxSteps := 5000000) only [go_sem, reduceIte, reduceCtorEq, Nat.reduceEqDiff, Nat.reduceBEq, Nat.reduceAdd, Nat.reduceLeDiff, Nat.reduceMul, Nat.reduceLT, Int.reduceEq, Int.reduceLT, Int.reduceLE]
  · simp +contextual -dsimp -implicitDefEqProofs (maxSteps := 5000000) only [go_sem, reduceIte, reduceCtorEq, Nat.reduceEqDiff, Nat.reduceBEq, Nat.reduceAdd, Nat.reduceLeDiff, Nat.reduceMul, Nat.reduceLT, Int.reduceEq, Int.reduceLT, Int.reduceLE]
    refine (c_ValidProgram t cl q c2 _ hn hq).det ?_
    simp +contextual -dsimp -implicitDefEqProofs (maxSteps := 5000000) only [go_sem, reduceIte, reduceCtorEq, Nat.reduceEqDiff, Nat.reduceBEq, Nat.reduceAdd, Nat.reduceLeDiff, Nat.reduceMul, Nat.reduceLT, Int.reduceEq, Int.reduceLT, Int.reduceLE]
theorem c_both (t : List Class) (cl : Bool) (p q : List Line) (c1 c2 : Bool) (H : AHeap) (hn : namesOk t) (hp : p.length ≤ 4398046511104) (hq : q.length ≤ 4398046511104) : ACalls Tryz.prog 51 [aTree t cl, aProg p c1, aProg q c2] H fun r H' => r = B (validB t p && validB t q) ∧ H' = H := by
  refine acalls_of0 Tryz.func51 rfl (by kernel_rfl) rfl rfl (awp_sound (fz := fun _ => []) (im := fun s => s == 3) mixed _ _ _ _ (by kernel_rfl) ?_)
  simp +contextual -dsimp -implicitDefEqProofs (maxSteps := 5000000) only [go_sem, reduceIte, reduceCtorEq, Nat.reduceEqDiff, Nat.reduceBEq, Nat.reduceAdd, Nat.reduceLeDiff, Nat.reduceMul, Nat.reduceLT, Int.reduceEq, Int.reduceLT, Int.reduceLE]
  refine (c_svalidProgram t cl p c1 _ hn hp).det ?_
  cases hv : validB t p
  · simp +contextual -dsimp -implicitDefEqProofs (maxSteps := 5000000) only [go_sem, reduceIte, reduceCtorEq, Nat.reduceEqDiff, Nat.reduceBEq, Nat.reduceAdd, Nat.reduceLeDiff, Nat.reduceMul, Nat.reduceLT, Int.reduceEq, Int.reduceLT, Int.reduceLE]
  · simp +contextual -dsimp -implicitDefEqProofs (maxSteps := 5000000) only [go_sem, reduceIte, reduceCtorEq, Nat.reduceEqDiff, Nat.reduceBEq, Nat.reduceAdd, Nat.reduceLeDiff, Nat.reduceMul, Nat.reduceLT, Int.reduceEq, Int.reduceLT, Int.reduceLE]
    refine (c_svalidProgram t cl q c2 _ hn hq).det ?_
    simp +contextual -dsimp -implicitDefEqProofs (maxSteps := 5000000) only [go_sem, reduceIte, reduceCtorEq, Nat.reduceEqDiff, Nat.reduceBEq, Nat.reduceAdd, Nat.reduceLeDiff, Nat.reduceMul, Nat.reduceLT, Int.reduceEq, Int.reduceLT, Int.reduceLE]
/-- What is made, if it may be and is valid. -/
noncomputable def mkR (b : Bool) (t : List Class) (l : List Line) : List Line := if b = true then madeF t l else []
noncomputable def mkB (b : Bool) (t : List Class) (l : List Line) : Bool := b && validB t l
theorem innP_len (p : List Line) : (innP p).length ≤ p.length + 1 := by
  unfold innP; split <;> simp
theorem c_mWithExcept (t : List Class) (cl : Bool) (p q : List Line) (c1 c2 : Bool) (a : Int) (H : AHeap) (hn : namesOk t) (hp : p.length ≤ 1000) (hq : q.length ≤ 1000) : ACalls Tryz.prog 15 [aTree t cl, aProg p c1, I a, aProg q c2] H fun r H' => (∃ c, r = .tup [aProg (mkR (validB t p && validB t q) t (excP p a q)) c, B (mkB (validB t p && validB t q) t (excP p a q))]) ∧ H' = H := by
  have hil := innP_len p
  have hiq := innP_len q
  refine acalls_of0 Tryz.func15 rfl (by kernel_rfl) rfl rfl (awp_sound (fz := fun _ => []) (im := fun s => s == 4) mixed _ _ _ _ (by kernel_rfl) ?_)
  simp +contextual -dsimp -implicitDefEqProofs (maxSteps := 5000000) only [go_sem, reduceIte, reduceCtorEq, Nat.reduceEqDiff, Nat.reduceBEq, Nat.reduceAdd, Nat.reduceLeDiff, Nat.reduceMul, Nat.reduceLT, Int.reduceEq, Int.reduceLT, Int.reduceLE]
  refine (c_bothValid t cl p q c1 c2 _ hn (by omega) (by omega)).det ?_
  unfold mkR mkB
  cases hv : (validB t p && validB t q)
  · simp +contextual -dsimp -implicitDefEqProofs (maxSteps := 5000000) only [go_sem, reduceIte, reduceCtorEq, Nat.reduceEqDiff, Nat.reduceBEq, Nat.reduceAdd, Nat.reduceLeDiff, Nat.reduceMul, Nat.reduceLT, Int.reduceEq, Int.reduceLT, Int.reduceLE]
    exact ⟨true, rfl⟩
  · rw [Bool.and_eq_true] at hv
    simp +contextual -dsimp -implicitDefEqProofs (maxSteps := 5000000) only [go_sem, reduceIte, reduceCtorEq, Nat.reduceEqDiff, Nat.reduceBEq, Nat.reduceAdd, Nat.reduceLeDiff, Nat.reduceMul, Nat.reduceLT, Int.reduceEq, Int.reduceLT, Int.reduceLE]
    refine draw_intro [1, 0, 0, 0, 3, 0, 0, 0, 0, 3, 0, 3, 2, 0, 0, 0, 0] AHeap.none (by kernel_rfl) none_le ?_
    simp +contextual -dsimp -implicitDefEqProofs (maxSteps := 5000000) only [go_sem, reduceIte, reduceCtorEq, Nat.reduceEqDiff, Nat.reduceBEq, Nat.reduceAdd, Nat.reduceLeDiff, Nat.reduceMul, Nat.reduceLT, Int.reduceEq, Int.reduceLT, Int.reduceLE]
    refine (c_inner p c1 _ hp (valid_depth (validB_true.1 hv.1))).mono ?_
    rintro _ H ⟨⟨c3, rfl⟩, rfl⟩
    simp +contextual -dsimp -implicitDefEqProofs (maxSteps := 5000000) only [go_sem, reduceIte, reduceCtorEq, Nat.reduceEqDiff, Nat.reduceBEq, Nat.reduceAdd, Nat.reduceLeDiff, Nat.reduceMul, Nat.reduceLT, Int.reduceEq, Int.reduceLT, Int.reduceLE]
    refine (c_inner q c2 _ hq (valid_depth (validB_true.1 hv.2))).mono ?_
    rintro _ H ⟨⟨c4, rfl⟩, rfl⟩
    simp +contextual -dsimp -implicitDefEqProofs (maxSteps := 5000000) only [go_sem, reduceIte, reduceCtorEq, Nat.reduceEqDiff, Nat.reduceBEq, Nat.reduceAdd, Nat.reduceLeDiff, Nat.reduceMul, Nat.reduceLT, Int.reduceEq, Int.reduceLT, Int.reduceLE]
    refine acalls_frz (c_ConcatL [([⟨0, 7, 0, 0⟩], true), (innP p, c3), ([⟨0, 8, a, 0⟩], true), (innP q, c4)] true _ (by simp [segs]; omega)) fun c5 => ?_
    have e : segs [([⟨0, 7, 0, 0⟩], true), (innP p, c3), ([⟨0, 8, a, 0⟩], true), (innP q, c4)] = (excP p a q) := by simp [segs, excP]
    have hll : ((excP p a q)).length ≤ 4398046511104 := by simp [excP]; omega
    rw [e]
    simp +contextual -dsimp -implicitDefEqProofs (maxSteps := 5000000) only [go_sem, reduceIte, reduceCtorEq, Nat.reduceEqDiff, Nat.reduceBEq, Nat.reduceAdd, Nat.reduceLeDiff, Nat.reduceMul, Nat.reduceLT, Int.reduceEq, Int.reduceLT, Int.reduceLE]
    refine (c_programMade t cl (excP p a q) c5 _ hn hll).mono ?_
    rintro _ _ ⟨⟨c, rfl⟩, rfl⟩
    simp +contextual -dsimp -implicitDefEqProofs (maxSteps := 5000000) only [go_sem, reduceIte, reduceCtorEq, Nat.reduceEqDiff, Nat.reduceBEq, Nat.reduceAdd, Nat.reduceLeDiff, Nat.reduceMul, Nat.reduceLT, Int.reduceEq, Int.reduceLT, Int.reduceLE]
    exact ⟨c, rfl⟩
theorem c_sWithExcept (t : List Class) (cl : Bool) (p q : List Line) (c1 c2 : Bool) (a : Int) (H : AHeap) (hn : namesOk t) (hp : p.length ≤ 1000) (hq : q.length ≤ 1000) : ACalls Tryz.prog 16 [aTree t cl, aProg p c1, I a, aProg q c2] H fun r H' => (∃ c, r = .tup [aProg (mkR (validB t p && validB t q) t (excP p a q)) c, B (mkB (validB t p && validB t q) t (excP p a q))]) ∧ H' = H := by
  have hil := innP_len p
  have hiq := innP_len q
  refine acalls_of1 Tryz.func16 rfl (by kernel_rfl) rfl rfl (awp_sound (fz := fun _ => []) (im := fun s => s == 4) mixed _ _ _ _ (by kernel_rfl) ?_)
  simp +contextual -dsimp -implicitDefEqProofs (maxSteps := 5000000) only [go_sem, reduceIte, reduceCtorEq, Nat.reduceEqDiff, Nat.reduceBEq, Nat.reduceAdd, Nat.reduceLeDiff, Nat.reduceMul, Nat.reduceLT, Int.reduceEq, Int.reduceLT, Int.reduceLE]
  refine (c_both t cl p q c1 c2 _ hn (by omega) (by omega)).det ?_
  unfold mkR mkB
  cases hv : (validB t p && validB t q)
  · simp +contextual -dsimp -implicitDefEqProofs (maxSteps := 5000000) only [go_sem, reduceIte, reduceCtorEq, Nat.reduceEqDiff, Nat.reduceBEq, Nat.reduceAdd, Nat.reduceLeDiff, Nat.reduceMul, Nat.reduceLT, Int.reduceEq, Int.reduceLT, Int.reduceLE]
    refine retR_less (l := [aProg [] true, B false]) (H' := H) ?_ (AHeap.le_refl _) ⟨⟨true, rfl⟩, rfl⟩
    simp only [resA, go_sem, reduceIte, reduceCtorEq, Nat.reduceEqDiff, Nat.reduceBEq, Nat.reduceAdd, Nat.reduceLeDiff, Nat.reduceMul, Nat.reduceLT, Int.reduceEq, Int.reduceLT, Int.reduceLE]
    try rfl
  · rw [Bool.and_eq_true] at hv
    have hll : ((excP p a q)).length ≤ 4398046511104 := by simp [excP]; omega
    simp +contextual -dsimp -implicitDefEqProofs (maxSteps := 5000000) only [go_sem, reduceIte, reduceCtorEq, Nat.reduceEqDiff, Nat.reduceBEq, Nat.reduceAdd, Nat.reduceLeDiff, Nat.reduceMul, Nat.reduceLT, Int.reduceEq, Int.reduceLT, Int.reduceLE]
    refine draw_intro [1, 0, 0, 3, 0, 0, 0, 3, 3, 2, 0, 0, 0, 0] AHeap.none (by kernel_rfl) none_le ?_
    simp +contextual -dsimp -implicitDefEqProofs (maxSteps := 5000000) only [go_sem, reduceIte, reduceCtorEq, Nat.reduceEqDiff, Nat.reduceBEq, Nat.reduceAdd, Nat.reduceLeDiff, Nat.reduceMul, Nat.reduceLT, Int.reduceEq, Int.reduceLT, Int.reduceLE]
    refine (c_under ⟨0, 7, 0, 0⟩ p c1 _ hp (valid_depth (validB_true.1 hv.1))).mono ?_
    rintro x1 H1 hg1
    simp +contextual -dsimp -implicitDefEqProofs (maxSteps := 5000000) only [go_sem, reduceIte, reduceCtorEq, Nat.reduceEqDiff, Nat.reduceBEq, Nat.reduceAdd, Nat.reduceLeDiff, Nat.reduceMul, Nat.reduceLT, Int.reduceEq, Int.reduceLT, Int.reduceLE]
    refine acalls_frz (c_under ⟨0, 8, a, 0⟩ q c2 _ hq (valid_depth (validB_true.1 hv.2))) fun c4 => ?_
    simp +contextual -dsimp -implicitDefEqProofs (maxSteps := 5000000) only [go_sem, reduceIte, reduceCtorEq, Nat.reduceEqDiff, Nat.reduceBEq, Nat.reduceAdd, Nat.reduceLeDiff, Nat.reduceMul, Nat.reduceLT, Int.reduceEq, Int.reduceLT, Int.reduceLE]
    refine app_lines (m := ⟨0, 8, a, 0⟩ :: innP q) hg1 (by simp; omega) rfl fun x2 H2 hg2 => ?_
    have e : (⟨0, 7, 0, 0⟩ :: innP p) ++ (⟨0, 8, a, 0⟩ :: innP q) = (excP p a q) := rfl
    rw [e] at hg2
    obtain ⟨c3, hz⟩ := grow_fz hg2
    simp +contextual -dsimp -implicitDefEqProofs (maxSteps := 5000000) only [go_sem, reduceIte, reduceCtorEq, Nat.reduceEqDiff, Nat.reduceBEq, Nat.reduceAdd, Nat.reduceLeDiff, Nat.reduceMul, Nat.reduceLT, Int.reduceEq, Int.reduceLT, Int.reduceLE]
    refine acalls_drop [aTree t cl, aProg (excP p a q) c3] (grow_le hg2) (.cons (.same _) (.cons hz .nil)) ?_
    refine (c_checkedProgram t cl (excP p a q) c3 _ hn hll).mono ?_
    rintro _ H ⟨⟨c, rfl⟩, rfl⟩
    simp +contextual -dsimp -implicitDefEqProofs (maxSteps := 5000000) only [go_sem, reduceIte, reduceCtorEq, Nat.reduceEqDiff, Nat.reduceBEq, Nat.reduceAdd, Nat.reduceLeDiff, Nat.reduceMul, Nat.reduceLT, Int.reduceEq, Int.reduceLT, Int.reduceLE]
    refine retR_less (l := [aProg (madeF t (excP p a q)) c, B (validB t (excP p a q))]) (H' := H) ?_ (AHeap.le_refl _) ⟨⟨c, rfl⟩, rfl⟩
    simp only [resA, go_sem, reduceIte, reduceCtorEq, Nat.reduceEqDiff, Nat.reduceBEq, Nat.reduceAdd, Nat.reduceLeDiff, Nat.reduceMul, Nat.reduceLT, Int.reduceEq, Int.reduceLT, Int.reduceLE]
end
section
open Go Go.Sim
set_option maxRecDepth 100000
set_option maxHeartbeats 4000000

theorem c_shortProgram (F : AHeap) (br n : Nat) (K : ABlk) (t : List Class) (cl : Bool) (hK : RdK n K) (hF : F br = none) (hn : n < 400000000) : ACalls Tryz.prog 90 [.ptr br 2 0 0, aTree t cl] (F.set br K) fun r H' =>
    ∃ (l : List Line) (cl' : Bool) (K' : ABlk), r = aProg l cl' ∧ H' = F.set br K' ∧ RdK (n + 80000) K' ∧ l.length ≤ 8 := by
  refine acalls_of1 Tryz.func90 rfl (by kernel_rfl) rfl rfl (awp_sound (fz := fun _ => []) (im := fun s => s == 3 || s == 15 || s == 28) mixed _ _ _ _ (by kernel_rfl) ?_)
  by_cases ht : t.length = 0
  · simp +contextual -dsimp -implicitDefEqProofs (maxSteps := 5000000) only [go_sem, reduceIte, reduceCtorEq, Nat.reduceEqDiff, Nat.reduceBEq, Nat.reduceAdd, Nat.reduceLeDiff, Nat.reduceMul, Nat.reduceLT, Int.reduceEq, Int.reduceLT, Int.reduceLE, ht]
    refine retR_less (l := [aProg [] true]) (H' := F.set br K) ?_ (AHeap.le_refl _) ⟨[], true, K, rfl, rfl, rdk_mono hK (by omega), by simp⟩
    simp only [resA, go_sem, reduceIte, reduceCtorEq, Nat.reduceEqDiff, Nat.reduceBEq, Nat.reduceAdd, Nat.reduceLeDiff, Nat.reduceMul, Nat.reduceLT, Int.reduceEq, Int.reduceLT, Int.reduceLE]
    try rfl
  · simp +contextual -dsimp -implicitDefEqProofs (maxSteps := 5000000) only [go_sem, reduceIte, reduceCtorEq, Nat.reduceEqDiff, Nat.reduceBEq, Nat.reduceAdd, Nat.reduceLeDiff, Nat.reduceMul, Nat.reduceLT, Int.reduceEq, Int.reduceLT, Int.reduceLE, ht]
    refine k_pick 8 hK hF (by omega) rfl fun v K1 _ _ _ hK1 => ?_
    simp +contextual -dsimp -implicitDefEqProofs (maxSteps := 5000000) only [go_sem, reduceIte, reduceCtorEq, Nat.reduceEqDiff, Nat.reduceBEq, Nat.reduceAdd, Nat.reduceLeDiff, Nat.reduceMul, Nat.reduceLT, Int.reduceEq, Int.reduceLT, Int.reduceLE, ht]
    refine ⟨fun _ => ?_, fun _ => ?_⟩
    · refine retR_less (l := [aProg [] true]) (H' := F.set br K1) ?_ (AHeap.le_refl _) ⟨[], true, K1, rfl, rfl, rdk_mono hK1 (by omega), by simp⟩
      simp only [resA, go_sem, reduceIte, reduceCtorEq, Nat.reduceEqDiff, Nat.reduceBEq, Nat.reduceAdd, Nat.reduceLeDiff, Nat.reduceMul, Nat.reduceLT, Int.reduceEq, Int.reduceLT, Int.reduceLE]
      try rfl
    · refine (blk0.frz F br _ K1 t cl false hK1 hF (by omega)).mono ?_
      rintro _ _ ⟨l, cl', K2, rfl, rfl, hK2, h1, h2⟩
      simp +contextual -dsimp -implicitDefEqProofs (maxSteps := 5000000) only [go_sem, reduceIte, reduceCtorEq, Nat.reduceEqDiff, Nat.reduceBEq, Nat.reduceAdd, Nat.reduceLeDiff, Nat.reduceMul, Nat.reduceLT, Int.reduceEq, Int.reduceLT, Int.reduceLE, ht]
      refine ⟨fun h8 => ?_, fun h8 => ?_⟩
      · refine k_pick t.length hK2 hF (by omega) rfl fun v K3 _ _ _ hK3 => ?_
        simp +contextual -dsimp -implicitDefEqProofs (maxSteps := 5000000) only [go_sem, reduceIte, reduceCtorEq, Nat.reduceEqDiff, Nat.reduceBEq, Nat.reduceAdd, Nat.reduceLeDiff, Nat.reduceMul, Nat.reduceLT, Int.reduceEq, Int.reduceLT, Int.reduceLE, ht]
        refine retR_less (l := [aProg [⟨0, 2, v, 4⟩] true]) (H' := F.set br K3) ?_ (AHeap.le_refl _) ⟨[⟨0, 2, v, 4⟩], true, K3, rfl, rfl, rdk_mono hK3 (by omega), by simp⟩
        simp only [resA, go_sem, reduceIte, reduceCtorEq, Nat.reduceEqDiff, Nat.reduceBEq, Nat.reduceAdd, Nat.reduceLeDiff, Nat.reduceMul, Nat.reduceLT, Int.reduceEq, Int.reduceLT, Int.reduceLE]
        try rfl
      · refine retR_less (l := [aProg l cl']) (H' := F.set br K2) ?_ (AHeap.le_refl _) ⟨l, cl', K2, rfl, rfl, rdk_mono hK2 (by omega), by omega⟩
        simp only [resA, go_sem, reduceIte, reduceCtorEq, Nat.reduceEqDiff, Nat.reduceBEq, Nat.reduceAdd, Nat.reduceLeDiff, Nat.reduceMul, Nat.reduceLT, Int.reduceEq, Int.reduceLT, Int.reduceLE]
theorem c_twoPrograms (F : AHeap) (br n : Nat) (K : ABlk) (h : RdK n K) (hF : F br = none) (hn : n < 300000000) : ACalls Tryz.prog 45 [.ptr br 2 0 0] (F.set br K) fun r H' =>
    ∃ t cl, ∃ (p q : List Line) (c1 c2 : Bool) (K' : ABlk), r = .tup [aTree t cl, aProg p c1, aProg q c2] ∧ H' = F.set br K' ∧ RdK (n + 2000000) K' ∧ t.length ≤ 8 ∧ shortNames t ∧ p.length ≤ 24 ∧ q.length ≤ 24 := by
  refine acalls_of1 Tryz.func45 rfl (by kernel_rfl) rfl rfl (awp_sound (fz := fun _ => []) (im := fun _ => false) mixed _ _ _ _ (by kernel_rfl) ?_)
  simp +contextual -dsimp -implicitDefEqProofs (maxSteps := 5000000) only [go_sem, reduceIte, reduceCtorEq, Nat.reduceEqDiff, Nat.reduceBEq, Nat.reduceAdd, Nat.reduceLeDiff, Nat.reduceMul, Nat.reduceLT, Int.reduceEq, Int.reduceLT, Int.reduceLE]
  rintro b2 ⟨p1, p2, hb2⟩
  rw [br_out p1]
  have n2 : ∀ K4, (F.set b2 K4) br = none := fun K4 => by rw [set_other p2]; exact hF
  refine (c_someProgram _ br n K h (n2 _) (by omega)).mono ?_
  rintro _ _ ⟨t, cl, p, c1, K1, rfl, rfl, hK1, ht8, hs, hp⟩
  simp +contextual -dsimp -implicitDefEqProofs (maxSteps := 5000000) only [go_sem, reduceIte, reduceCtorEq, Nat.reduceEqDiff, Nat.reduceBEq, Nat.reduceAdd, Nat.reduceLeDiff, Nat.reduceMul, Nat.reduceLT, Int.reduceEq, Int.reduceLT, Int.reduceLE, p1, p2]
  rintro b4 ⟨q1, q2, q3, q4, hb4⟩
  simp only [br_out q1]
  have n4 : ∀ K4 K5, ((F.set b2 K4).set b4 K5) br = none := fun K4 K5 => by rw [set_other q2]; exact n2 _
  refine k_pick 2 hK1 (n4 _ _) (by omega) rfl fun v K2 _ _ _ hK2 => ?_
  simp +contextual -dsimp -implicitDefEqProofs (maxSteps := 5000000) only [go_sem, reduceIte, reduceCtorEq, Nat.reduceEqDiff, Nat.reduceBEq, Nat.reduceAdd, Nat.reduceLeDiff, Nat.reduceMul, Nat.reduceLT, Int.reduceEq, Int.reduceLT, Int.reduceLE, p1, p2, q1, q2, q3, q4]
  refine ⟨fun _ => ?_, fun _ => ?_⟩
  · refine (c_shortProgram _ br _ K2 t cl hK2 (n4 _ _) (by omega)).mono ?_
    rintro _ _ ⟨p', c1', K3, rfl, rfl, hK3, hp'⟩
    simp +contextual -dsimp -implicitDefEqProofs (maxSteps := 5000000) only [go_sem, reduceIte, reduceCtorEq, Nat.reduceEqDiff, Nat.reduceBEq, Nat.reduceAdd, Nat.reduceLeDiff, Nat.reduceMul, Nat.reduceLT, Int.reduceEq, Int.reduceLT, Int.reduceLE, p1, p2, q1, q2, q3, q4]
    · refine draw_intro [1, 0, 0, 0, 3, 2, 0, 0] _ (by kernel_rfl) (le_set (n4 _ _)) ?_
      simp +contextual -dsimp -implicitDefEqProofs (maxSteps := 5000000) only [go_sem, reduceIte, reduceCtorEq, Nat.reduceEqDiff, Nat.reduceBEq, Nat.reduceAdd, Nat.reduceLeDiff, Nat.reduceMul, Nat.reduceLT, Int.reduceEq, Int.reduceLT, Int.reduceLE, p1, p2, q1, q2, q3, q4]
      refine (c_shortProgram _ br _ K3 t cl hK3 (n4 _ _) (by omega)).mono ?_
      rintro _ _ ⟨q, c2, K5, rfl, rfl, hK5, hq⟩
      refine ⟨le_set (n4 _ _), ?_⟩
      simp +contextual -dsimp -implicitDefEqProofs (maxSteps := 5000000) only [go_sem, reduceIte, reduceCtorEq, Nat.reduceEqDiff, Nat.reduceBEq, Nat.reduceAdd, Nat.reduceLeDiff, Nat.reduceMul, Nat.reduceLT, Int.reduceEq, Int.reduceLT, Int.reduceLE, p1, p2, q1, q2, q3, q4]
      refine retR_less (l := [aTree t cl, aProg p' c1', aProg q c2]) (H' := F.set br K5) ?_ (le_ch (le_s1 (le_s1 (AHeap.le_refl _) hb2) hb4)) ⟨t, cl, p', q, c1', c2, K5, rfl, rfl, rdk_mono hK5 (by omega), ht8, hs, by omega, by omega⟩
      simp only [resA, go_sem, reduceIte, reduceCtorEq, Nat.reduceEqDiff, Nat.reduceBEq, Nat.reduceAdd, Nat.reduceLeDiff, Nat.reduceMul, Nat.reduceLT, Int.reduceEq, Int.reduceLT, Int.reduceLE, p1, p2, q1, q2, q3, q4]
  · refine draw_intro [1, 0, 0, 0, 3, 2, 0, 0] _ (by kernel_rfl) (le_set (n4 _ _)) ?_
    simp +contextual -dsimp -implicitDefEqProofs (maxSteps := 5000000) only [go_sem, reduceIte, reduceCtorEq, Nat.reduceEqDiff, Nat.reduceBEq, Nat.reduceAdd, Nat.reduceLeDiff, Nat.reduceMul, Nat.reduceLT, Int.reduceEq, Int.reduceLT, Int.reduceLE, p1, p2, q1, q2, q3, q4]
    refine (c_shortProgram _ br _ K2 t cl hK2 (n4 _ _) (by omega)).mono ?_
    rintro _ _ ⟨q, c2, K5, rfl, rfl, hK5, hq⟩
    refine ⟨le_set (n4 _ _), ?_⟩
    simp +contextual -dsimp -implicitDefEqProofs (maxSteps := 5000000) only [go_sem, reduceIte, reduceCtorEq, Nat.reduceEqDiff, Nat.reduceBEq, Nat.reduceAdd, Nat.reduceLeDiff, Nat.reduceMul, Nat.reduceLT, Int.reduceEq, Int.reduceLT, Int.reduceLE, p1, p2, q1, q2, q3, q4]
    refine retR_less (l := [aTree t cl, aProg p c1, aProg q c2]) (H' := F.set br K5) ?_ (le_ch (le_s1 (le_s1 (AHeap.le_refl _) hb2) hb4)) ⟨t, cl, p, q, c1, c2, K5, rfl, rfl, rdk_mono hK5 (by omega), ht8, hs, by omega, by omega⟩
    simp only [resA, go_sem, reduceIte, reduceCtorEq, Nat.reduceEqDiff, Nat.reduceBEq, Nat.reduceAdd, Nat.reduceLeDiff, Nat.reduceMul, Nat.reduceLT, Int.reduceEq, Int.reduceLT, Int.reduceLE, p1, p2, q1, q2, q3, q4]
end
section
open Go Go.Sim
set_option maxRecDepth 100000
set_option maxHeartbeats 4000000

theorem res_len3 {t : List Class} {p : List Line} (h : ValidP t p) : (resOf (runP t p)).log.length ≤ 34992 := by
  have := (runP_goes h).len
  rw [res_log]
  have : (rs0 : RS).log.length = 0 := rfl
  omega
theorem mk_true {t : List Class} {b : Bool} {l : List Line} (h : mkB b t l = true) : b = true ∧ ValidP t l ∧ validB t l = true ∧ mkR b t l = l := by
  unfold mkB at h
  rw [Bool.and_eq_true] at h
  refine ⟨h.1, validB_true.1 h.2, h.2, ?_⟩
  unfold mkR madeF
  rw [if_pos h.1, if_pos h.2]
theorem c_mRun (t : List Class) (cl : Bool) (p : List Line) (c1 : Bool) (H : AHeap) (hn : namesOk t) (hp : p.length ≤ 1000) (hv : validB t p = true) : ACalls Tryz.prog 10 [aTree t cl, aProg p c1] H fun r H' => (∃ c2 c3, r = aRes (resOf (runP t p)) c2 c3) ∧ H' = H := by
  have k := own_frz (c_mRunProgram t cl p c1 H hn (by omega))
  rw [if_pos hv] at k
  exact k
end
section
open Go Go.Sim
set_option maxRecDepth 100000

/-- How many faults a fault has behind it, itself counted. -/
def dep (fs : List Fault) (v : Int) : Nat := (dchF fs v).length
theorem dep_neg {fs : List Fault} {v : Int} (h : v < 0) : dep fs v = 0 := by unfold dep; rw [dchF_neg h]; rfl
theorem dep_pre {F X : List Fault} (ho : heapOk F) {v : Int} (h : v < F.length) : dep (F ++ X) v = dep F v := by
  unfold dep dchF
  rw [dch_pre ho _ v h]
theorem dep_new {fs : List Fault} (ho : heapOk fs) {c d g : Int} (hg : g < fs.length) : dep (raiseF fs c d g) fs.length = dep fs g + 1 := by
  have ho' := raiseF_ok (cls := c) (code := d) ho hg
  have hl : (raiseF fs c d g).length = fs.length + 1 := raiseF_len
  have e : ctxOf (raiseF fs c d g) fs.length = if 0 ≤ g then g else -1 := by
    unfold ctxOf raiseF
    simp [List.getD_eq_getElem?_getD]
  unfold dep
  rw [dchF_step ho' (by omega) (by omega), e, List.length_cons]
  by_cases q : 0 ≤ g
  · rw [if_pos q]
    have := dep_pre (X := [⟨c, d, -1, if 0 ≤ g then g else -1, false⟩]) ho hg
    unfold dep at this
    show (dchF (fs ++ _) g).length + 1 = _
    rw [this]
  · rw [if_neg q, dchF_neg (by omega), dchF_neg (by omega)]
def DepOk (fs : List Fault) (N : Nat) (e : En) : Prop := e.ed = 2 → dep fs e.val ≤ N
theorem DepOk.up {fs : List Fault} {N M : Nat} {e : En} (h : DepOk fs N e) (hm : N ≤ M) : DepOk fs M e := fun q => Nat.le_trans (h q) hm
theorem Goes.dep {t : List Class} {n : Nat} {s : RS} {e : En} {s' : RS} (h : Goes t n s e s') (ho : heapOk s.fs) {v : Int} (hv : v < s.fs.length) : dep s'.fs v = dep s.fs v := by
  obtain ⟨l, e1, _⟩ := h.fs
  rw [e1]; exact dep_pre ho hv
theorem dep_lineS {s : RS} (ho : heapOk s.fs) {k a b h : Int} {N : Nat} (hh : h < s.fs.length) (hN : dep s.fs h ≤ N) : DepOk (lineS k a b h s).2.fs (N + 1) (lineS k a b h s).1 := by
  unfold lineS
  split
  · exact fun q => by cases q
  · split
    · intro _
      show dep (raiseF s.fs a b h) s.fs.length ≤ N + 1
      rw [dep_new ho hh]; omega
    · split
      · split
        · intro _
          show dep (raiseF s.fs 0 0 (-1)) s.fs.length ≤ N + 1
          rw [dep_new ho (by omega), dep_neg (by omega)]; omega
        · intro _
          show dep s.fs h ≤ N + 1
          omega
      · split
        · exact fun q => by cases q
        · split
          · exact fun q => by cases q
          · split
            · exact fun q => by cases q
            · exact fun q => by cases q
theorem dep_run {t : List Class} (ht : validT t = true) : ∀ (f : Fo) (i : Nat) (pd : Option (En × En)) (d h : Int) (s : RS) (N : Nat), numsF t f d = true → FsOk t s.fs → h < s.fs.length → PdOk s pd → dep s.fs h ≤ N → (∀ q, pd = some q → DepOk s.fs N q.1 ∧ DepOk s.fs N q.2) → DepOk (runF t f i pd h s).2.fs (N + f.size) (runF t f i pd h s).1 := by
  intro f
  induction f with
  | nil =>
    intro i pd d h s N _ hs _ _ _ hq
    cases pd with
    | none => exact fun q => by cases q
    | some q =>
      simp only [runF]
      split
      · exact fun q => by cases q
      · exact ((hq q rfl).2).up (by omega)
  | node k a b kids rest ihk ihr =>
    intro i pd d h s N hn hs hh hp hN hq
    obtain ⟨n1, n2, n3, n4, n5⟩ := numsF_node hn
    have esz : (Fo.node k a b kids rest).size = 1 + kids.size + rest.size := rfl
    have hline : k ≠ 7 → DepOk ((fun r : En × RS => if r.1.ed = 0 then runF t rest (i + 1 + kids.size) none h r.2 else r) (lineR k a b i h (fun s => runF t kids (i + 1) none h s) s)).2.fs (N + (Fo.node k a b kids rest).size) ((fun r : En × RS => if r.1.ed = 0 then runF t rest (i + 1 + kids.size) none h r.2 else r) (lineR k a b i h (fun s => runF t kids (i + 1) none h s) s)).1 := by
      intro _
      have hg := goes_lineR (i := i) (body := fun s => runF t kids (i + 1) none h s) (n := cost kids) ht hs n1 hh (fun s' hs' hl => goes_run ht kids (i + 1) none (d + 1) h s' n4 hs' (by omega) trivial)
      have h1 : DepOk (lineR k a b i h (fun s => runF t kids (i + 1) none h s) s).2.fs (N + 1 + kids.size) (lineR k a b i h (fun s => runF t kids (i + 1) none h s) s).1 := by
        unfold lineR
        by_cases k11 : k = 11
        · rw [if_pos k11]
          have h2 := ihk (i + 1) none (d + 1) h (s.tell (100 + a)) N n4 hs hh trivial hN (fun q hq => by cases hq)
          unfold withS
          intro q
          by_cases c : (runF t kids (i + 1) none h (s.tell (100 + a))).1.ed = 2 ∧ b = 1
          · simp only [c, and_self, if_true] at q; cases q
          · simp only [c, if_false] at q ⊢
            have := h2 q
            show dep (runF t kids (i + 1) none h (s.tell (100 + a))).2.fs _ ≤ _
            omega
        · rw [if_neg k11]
          by_cases k12 : k = 12
          · rw [if_pos k12]
            have key : ∀ (m : Nat) (s' : RS), FsOk t s'.fs → h < s'.fs.length → dep s'.fs h ≤ N → DepOk (loopS (fun s => runF t kids (i + 1) none h s) m s').2.fs (N + 1 + kids.size) (loopS (fun s => runF t kids (i + 1) none h s) m s').1 := by
              intro m
              induction m with
              | zero => intro s' _ _ _; exact fun q => by cases q
              | succ m ih =>
                intro s' hs' hh' hN'
                have g1 := goes_run ht kids (i + 1) none (d + 1) h s' n4 hs' hh' trivial
                have h2 := ihk (i + 1) none (d + 1) h s' N n4 hs' hh' trivial hN' (fun q hq => by cases hq)
                have gl := g1.len
                simp only [loopS]
                split
                · exact h2.up (by omega)
                · split
                  · exact fun q => by cases q
                  · exact ih _ g1.ok (by omega) (by rw [g1.dep hs'.ho hh']; exact hN')
            exact key _ s hs hh hN
          · rw [if_neg k12]
            have e : (s.jump k i).fs = s.fs := by unfold RS.jump; split <;> rfl
            exact (dep_lineS (by rw [e]; exact hs.ho) (by rw [e]; exact hh) (by rw [e]; exact hN)).up (by omega)
      generalize lineR k a b i h (fun s => runF t kids (i + 1) none h s) s = r at h1 hg ⊢
      have gl := hg.len
      show DepOk (if r.1.ed = 0 then _ else r).2.fs _ (if r.1.ed = 0 then _ else r).1
      split
      · exact (ihr _ none d h r.2 N n5 hg.ok (by omega) trivial (by rw [hg.dep hs.ho hh]; exact hN) (fun q hq => by cases hq)).up (by omega)
      · exact h1.up (by omega)
    have htry : DepOk ((fun r : En × RS => runF t rest (i + 1 + kids.size) (some (r.1, r.1)) h r.2) (runF t kids (i + 1) none h s)).2.fs (N + (Fo.node k a b kids rest).size) ((fun r : En × RS => runF t rest (i + 1 + kids.size) (some (r.1, r.1)) h r.2) (runF t kids (i + 1) none h s)).1 := by
      have hg := goes_run ht kids (i + 1) none (d + 1) h s n4 hs hh trivial
      have h1 := ihk (i + 1) none (d + 1) h s N n4 hs hh trivial hN (fun q hq => by cases hq)
      generalize runF t kids (i + 1) none h s = r at h1 hg ⊢
      have gl := hg.len
      exact (ihr _ (some (r.1, r.1)) d h r.2 (N + kids.size) n5 hg.ok (by omega) ⟨hg.val, hg.val⟩ (by rw [hg.dep hs.ho hh]; omega) (fun q hq => by cases hq; exact ⟨h1, h1⟩)).up (by omega)
    cases pd with
    | none =>
      simp only [runF]
      split
      · exact htry
      · exact hline ‹_›
    | some q =>
      obtain ⟨q1, q2⟩ := hq q rfl
      simp only [runF]
      by_cases hk : followsK k = true
      · simp only [hk, if_true]
        have pass : DepOk (runF t rest (i + 1 + kids.size) (some q) h s).2.fs (N + (Fo.node k a b kids rest).size) (runF t rest (i + 1 + kids.size) (some q) h s).1 :=
          (ihr _ (some q) d h s N n5 hs hh hp hN (fun q' hq' => by cases hq'; exact ⟨q1, q2⟩)).up (by omega)
        have go : ∀ (g : Int) (st : En) (e : En → En), g < s.fs.length → dep s.fs g ≤ N → (st.ed = 2 → 0 ≤ st.val ∧ st.val < s.fs.length) → DepOk s.fs N st → (∀ x : En, e x = x ∨ e x = q.2) →
            DepOk ((fun r : En × RS => runF t rest (i + 1 + kids.size) (some (st, e r.1)) h r.2) (runF t kids (i + 1) none g s)).2.fs (N + (Fo.node k a b kids rest).size) ((fun r : En × RS => runF t rest (i + 1 + kids.size) (some (st, e r.1)) h r.2) (runF t kids (i + 1) none g s)).1 := by
          intro g st e hg0 hgd hst hsd he
          have hg := goes_run ht kids (i + 1) none (d + 1) g s n4 hs hg0 trivial
          have h1 := ihk (i + 1) none (d + 1) g s N n4 hs hg0 trivial hgd (fun q hq => by cases hq)
          generalize runF t kids (i + 1) none g s = r at h1 hg ⊢
          have gl := hg.len
          have hst2 : DepOk r.2.fs (N + kids.size) st := fun z => by
            have := hst z
            rw [hg.dep hs.ho this.2]; have := hsd z; omega
          have he2 : DepOk r.2.fs (N + kids.size) (e r.1) ∧ ((e r.1).ed = 2 → 0 ≤ (e r.1).val ∧ (e r.1).val < r.2.fs.length) := by
            rcases he r.1 with z | z
            · rw [z]; exact ⟨h1, hg.val⟩
            · rw [z]
              refine ⟨fun y => ?_, fun y => ?_⟩
              · rw [hg.dep hs.ho (hp.2 y).2]; have := q2 y; omega
              · have := hp.2 y; omega
          exact (ihr _ (some (st, e r.1)) d h r.2 (N + kids.size) n5 hg.ok (by omega) ⟨fun z => by have := hst z; show 0 ≤ st.val ∧ st.val < (r.2.fs.length : Int); omega, he2.2⟩ (by rw [hg.dep hs.ho hh]; omega) (fun q hq => by cases hq; exact ⟨hst2, he2.1⟩)).up (by omega)
        split
        · split
          · rename_i hc
            exact go q.1.val ⟨-1, 0⟩ (fun r => r) (hp.1 hc.1).2 (q1 hc.1) (fun z => by cases z) (fun z => by cases z) (fun x => .inl rfl)
          · exact pass
        · split
          · split
            · exact go h q.1 (fun r => r) hh hN hp.1 q1 (fun x => .inl rfl)
            · exact pass
          · refine go _ q.1 (fun r => if r.ed = 0 then q.2 else r) ?_ ?_ hp.1 q1 (fun x => ?_)
            · split
              · exact (hp.2 ‹_›).2
              · exact hh
            · split
              · exact q2 ‹_›
              · exact hN
            · show (if _ then _ else _) = x ∨ (if _ then _ else _) = q.2
              split
              · exact .inr rfl
              · exact .inl rfl
      · rw [if_neg hk]
        split
        · split
          · exact htry
          · exact hline ‹_›
        · exact q2.up (by omega)
theorem dep_top {t : List Class} {p : List Line} (h : ValidP t p) (h2 : (runP t p).1.ed = 2) : dep (runP t p).2.fs (runP t p).1.val ≤ 24 := by
  obtain ⟨h1, _, h3, h4, h5, h6⟩ := validP_forest h
  have := dep_run h1 (forestP p) 0 none 0 (-1) rs0 0 h3 (fsOk_nil t) (by show (-1 : Int) < 0; omega) trivial (by rw [dep_neg (by omega)]; omega) (fun q hq => by cases hq) h2
  rw [Nat.zero_add] at this
  exact Nat.le_trans this h6
end
section
open Go Go.Sim
set_option maxRecDepth 100000

theorem c_heapHas (h : List Fault) (cl : Bool) (a : Int) (H : AHeap) : ACalls Tryz.prog 97 [aHeap h cl, I a] H fun r H' => r = B (inR a 0 (h.length - 1)) ∧ H' = H := by
  refine acalls_len1 (by kernel_rfl) (List.mem_cons_self ..) fun hl => ?_
  rw [List.length_map] at hl
  refine acalls_of0 Tryz.func97 rfl (by kernel_rfl) rfl rfl (awp_sound (fz := fun _ => []) (im := fun s => s == 2) mixed _ _ _ _ (by kernel_rfl) ?_)
  simp +contextual -dsimp -implicitDefEqProofs (maxSteps := 5000000) only [go_sem, reduceIte, reduceCtorEq, Nat.reduceEqDiff, Nat.reduceBEq, Nat.reduceAdd, Nat.reduceLeDiff, Nat.reduceMul, Nat.reduceLT, Int.reduceEq, Int.reduceLT, Int.reduceLE]
  rw [w64 (by omega) (by omega)]
  exact (c_within _ _ _ _).det (by simp +contextual -dsimp -implicitDefEqProofs (maxSteps := 5000000) only [go_sem, reduceIte, reduceCtorEq, Nat.reduceEqDiff, Nat.reduceBEq, Nat.reduceAdd, Nat.reduceLeDiff, Nat.reduceMul, Nat.reduceLT, Int.reduceEq, Int.reduceLT, Int.reduceLE])
def linkF (n : Nat) (f to : Int) : Bool := decide (to = -1) || (inR to 0 (n - 1) && !decide (to = f))
theorem c_link (h : List Fault) (cl : Bool) (f a : Int) (H : AHeap) : ACalls Tryz.prog 136 [I f, I a, .vptr [[.vsl (h.map rFault) cl]] 0 0] H fun r H' => r = B (linkF h.length f a) ∧ H' = H := by
  refine acalls_of0 Tryz.func136 rfl (by kernel_rfl) rfl rfl (awp_sound (fz := fun _ => []) (im := fun _ => false) mixed _ _ _ _ (by kernel_rfl) ?_)
  by_cases h1 : a = -1
  · simp +contextual -dsimp -implicitDefEqProofs (maxSteps := 5000000) only [go_sem, reduceIte, reduceCtorEq, Nat.reduceEqDiff, Nat.reduceBEq, Nat.reduceAdd, Nat.reduceLeDiff, Nat.reduceMul, Nat.reduceLT, Int.reduceEq, Int.reduceLT, Int.reduceLE, h1, linkF]
  · simp +contextual -dsimp -implicitDefEqProofs (maxSteps := 5000000) only [go_sem, reduceIte, reduceCtorEq, Nat.reduceEqDiff, Nat.reduceBEq, Nat.reduceAdd, Nat.reduceLeDiff, Nat.reduceMul, Nat.reduceLT, Int.reduceEq, Int.reduceLT, Int.reduceLE, h1]
    refine (c_heapHas h cl a H).det ?_
    cases hI : inR a 0 (h.length - 1)
    · simp +contextual -dsimp -implicitDefEqProofs (maxSteps := 5000000) only [go_sem, reduceIte, reduceCtorEq, Nat.reduceEqDiff, Nat.reduceBEq, Nat.reduceAdd, Nat.reduceLeDiff, Nat.reduceMul, Nat.reduceLT, Int.reduceEq, Int.reduceLT, Int.reduceLE, h1, linkF, hI]
    · simp +contextual -dsimp -implicitDefEqProofs (maxSteps := 5000000) only [go_sem, reduceIte, reduceCtorEq, Nat.reduceEqDiff, Nat.reduceBEq, Nat.reduceAdd, Nat.reduceLeDiff, Nat.reduceMul, Nat.reduceLT, Int.reduceEq, Int.reduceLT, Int.reduceLE, h1, linkF, hI]
theorem c_faultsIn1 (h : List Fault) (cl : Bool) (a : Int) (H : AHeap) : ACalls Tryz.prog 96 [I a, .vptr [[.vsl (h.map rFault) cl]] 0 0] H fun r H' => r = B (!inR a 0 (h.length - 1)) ∧ H' = H := by
  refine acalls_of0 Tryz.func96 rfl (by kernel_rfl) rfl rfl (awp_sound (fz := fun _ => []) (im := fun _ => false) mixed _ _ _ _ (by kernel_rfl) ?_)
  simp +contextual -dsimp -implicitDefEqProofs (maxSteps := 5000000) only [go_sem, reduceIte, reduceCtorEq, Nat.reduceEqDiff, Nat.reduceBEq, Nat.reduceAdd, Nat.reduceLeDiff, Nat.reduceMul, Nat.reduceLT, Int.reduceEq, Int.reduceLT, Int.reduceLE]
  refine (c_heapHas h cl a H).det ?_
  simp +contextual -dsimp -implicitDefEqProofs (maxSteps := 5000000) only [go_sem, reduceIte, reduceCtorEq, Nat.reduceEqDiff, Nat.reduceBEq, Nat.reduceAdd, Nat.reduceLeDiff, Nat.reduceMul, Nat.reduceLT, Int.reduceEq, Int.reduceLT, Int.reduceLE]
theorem c_IndexFuncInt (l : List Int) (cl : Bool) (g : FuncId) (caps : List AV) (p : Int → Bool) (H : AHeap)
    (hp : ∀ c, ACalls Tryz.prog g (I c :: caps) H fun r H' => r = B (p c) ∧ H' = H) :
    ACalls Tryz.prog 138 [.vsl (l.map rI) cl, .fn g [] caps] H fun r H' => r = I (idxF p l) ∧ H' = H := by
  refine acalls_len (by kernel_rfl) (List.mem_cons_self ..) fun hl => ?_
  rw [List.length_map] at hl
  refine acalls_of0 Tryz.func138 rfl (by kernel_rfl) rfl rfl (awp_sound (fz := fun _ => []) (im := fun _ => false) mixed _ _ _ _ (by kernel_rfl) ?_)
  simp +contextual -dsimp -implicitDefEqProofs (maxSteps := 5000000) only [go_sem, reduceIte, reduceCtorEq, Nat.reduceEqDiff, Nat.reduceBEq, Nat.reduceAdd, Nat.reduceLeDiff, Nat.reduceMul, Nat.reduceLT, Int.reduceEq, Int.reduceLT, Int.reduceLE]
  refine aloop mixed (fz := fun _ => []) (im := fun _ => false) (by kernel_rfl) (fun m tm H' => ∃ k : Nat, m = l.length - k ∧ k ≤ l.length ∧ H' = H ∧ tm 0 = .vsl (l.map rI) cl ∧ tm 1 = .fn g [] caps ∧ tm 7 = I l.length ∧ tm 8 = I k ∧ (l.take k).any p = false) l.length ⟨0, ?_⟩ ?_
  · simp +contextual -dsimp -implicitDefEqProofs (maxSteps := 5000000) only [go_sem, reduceIte, reduceCtorEq, Nat.reduceEqDiff, Nat.reduceBEq, Nat.reduceAdd, Nat.reduceLeDiff, Nat.reduceMul, Nat.reduceLT, Int.reduceEq, Int.reduceLT, Int.reduceLE]
    simp
  · rintro m tm _ ⟨k, rfl, hk, rfl, h0, h1, h7, h8, hn⟩
    simp +contextual -dsimp -implicitDefEqProofs (maxSteps := 5000000) only [go_sem, reduceIte, reduceCtorEq, Nat.reduceEqDiff, Nat.reduceBEq, Nat.reduceAdd, Nat.reduceLeDiff, Nat.reduceMul, Nat.reduceLT, Int.reduceEq, Int.reduceLT, Int.reduceLE, h0, h1, h7, h8]
    refine ⟨fun h => (hp _).det ?_, fun h => ?_⟩
    · simp +contextual -dsimp -implicitDefEqProofs (maxSteps := 5000000) only [go_sem, reduceIte, reduceCtorEq, Nat.reduceEqDiff, Nat.reduceBEq, Nat.reduceAdd, Nat.reduceLeDiff, Nat.reduceMul, Nat.reduceLT, Int.reduceEq, Int.reduceLT, Int.reduceLE, h0, h1, h7, h8]
      refine ⟨fun hb => ?_, fun hb => ⟨_, ?_, k + 1, rfl, h, I_wrap (by omega) (by omega) (by omega), any_take h hn hb⟩⟩
      · rw [idxF_at h hn hb]
      · omega
    · rw [idxF_none (by omega) hn]
theorem c_ContainsFuncInt (l : List Int) (cl : Bool) (g : FuncId) (caps : List AV) (p : Int → Bool) (H : AHeap)
    (hp : ∀ c, ACalls Tryz.prog g (I c :: caps) H fun r H' => r = B (p c) ∧ H' = H) :
    ACalls Tryz.prog 95 [.vsl (l.map rI) cl, .fn g [] caps] H fun r H' => r = B (l.any p) ∧ H' = H := by
  refine acalls_of0 Tryz.func95 rfl (by kernel_rfl) rfl rfl (awp_sound (fz := fun _ => []) (im := fun _ => false) mixed _ _ _ _ (by kernel_rfl) ?_)
  simp +contextual -dsimp -implicitDefEqProofs (maxSteps := 5000000) only [go_sem, reduceIte, reduceCtorEq, Nat.reduceEqDiff, Nat.reduceBEq, Nat.reduceAdd, Nat.reduceLeDiff, Nat.reduceMul, Nat.reduceLT, Int.reduceEq, Int.reduceLT, Int.reduceLE]
  refine (c_IndexFuncInt l cl g caps p H hp).det ?_
  simp +contextual -dsimp -implicitDefEqProofs (maxSteps := 5000000) only [go_sem, reduceIte, reduceCtorEq, Nat.reduceEqDiff, Nat.reduceBEq, Nat.reduceAdd, Nat.reduceLeDiff, Nat.reduceMul, Nat.reduceLT, Int.reduceEq, Int.reduceLT, Int.reduceLE, idxF_nonneg]
theorem walkG_len (nx : Int → Int) : ∀ (n : Nat) (out : List Int) (f : Int), (walkG nx n out f).length ≤ out.length + n
  | 0, out, f => Nat.le_refl _
  | n + 1, out, f => by
    simp only [walkG]
    split
    · have := walkG_len nx n (out ++ [f]) (nx f)
      simp at this
      omega
    · omega
theorem chainF_len (h : List Fault) (f : Int) : (chainF h f).length ≤ h.length + 1 := by
  have := walkG_len (ctxOf h) (h.length + 1) [] f
  simpa [chainF, walkF] using this
theorem chainF_in {h : List Fault} (hc : ∀ k, k < h.length → (h.getD k default).ctx < h.length) {f : Int} (hf : f < h.length) {a : Int} (ha : a ∈ chainF h f) : 0 ≤ a ∧ a < h.length := by
  have := walkG_mem (nx := ctxOf h) (p := fun a => a < h.length) (fun a a0 a1 => hc a.toNat (by omega)) (h.length + 1) [] f hf a ha
  simpa using this
def lastI (l : List Int) : Int := l.getD (l.length - 1) default
theorem lastI_in {h : List Fault} (hc : ∀ k, k < h.length → (h.getD k default).ctx < h.length) {f : Int} (h0 : 0 ≤ f) (hf : f < h.length) : 0 ≤ lastI (chainF h f) ∧ lastI (chainF h f) < h.length := by
  have hne := List.length_pos_iff.2 (chainF_ne (h := h) h0)
  apply chainF_in hc hf
  have : (chainF h f).length - 1 < (chainF h f).length := by omega
  unfold lastI
  rw [List.getD_eq_getElem?_getD, List.getElem?_eq_getElem this]
  exact List.getElem_mem this
def faultOk (t : List Class) (h : List Fault) (k : Nat) : Bool := hasF t (h.getD k default).cls && inR (h.getD k default).code 0 99 && linkF h.length k (h.getD k default).cause && linkF h.length k (h.getD k default).ctx
def lastOk (h : List Fault) (k : Nat) : Bool := decide (ctxOf h (lastI (chainF h k)) = -1)
def validH (t : List Class) (h : List Fault) : Bool := (List.range h.length).all (faultOk t h) && ((List.range h.length).all (lastOk h) && (validT t && decide (h.length ≤ 24)))
theorem faultOk_links {t : List Class} {h : List Fault} (hv : (List.range h.length).all (faultOk t h) = true) : ∀ k, k < h.length → -1 ≤ (h.getD k default).ctx ∧ (h.getD k default).ctx < h.length ∧ -1 ≤ (h.getD k default).cause ∧ (h.getD k default).cause < h.length := by
  intro k hk
  rw [List.all_eq_true] at hv
  have := hv k (by simp [hk])
  simp only [faultOk, linkF, inR, Bool.and_eq_true, Bool.or_eq_true, decide_eq_true_eq, Bool.not_eq_true'] at this
  omega
theorem range_next {p : Nat → Bool} {k : Nat} (h : (List.range k).all p = true) (e : p k = true) : (List.range (k + 1)).all p = true := by
  rw [List.range_succ, List.all_append, h]; simp [e]
theorem range_bad {p : Nat → Bool} {k n : Nat} (h : k < n) (e : p k = false) : (List.range n).all p = false := by
  rw [List.all_eq_false]; exact ⟨k, by simp [h], by simp [e]⟩
theorem c_ValidHeap (t : List Class) (cl : Bool) (h : List Fault) (cl' : Bool) (H : AHeap) (hn : namesOk t) (hl : h.length ≤ 1000000) : ACalls Tryz.prog 94 [aTree t cl, aHeap h cl'] H fun r H' => r = B (validH t h) ∧ H' = H := by
  refine acalls_of0 Tryz.func94 rfl (by kernel_rfl) rfl rfl (awp_sound (fz := fun r => if r = 4 then [7] else []) (im := fun s => s == 2 || s == 3) mixed _ _ _ _ (by kernel_rfl) ?_)
  simp +contextual -dsimp -implicitDefEqProofs (maxSteps := 5000000) only [go_sem, reduceIte, reduceCtorEq, Nat.reduceEqDiff, Nat.reduceBEq, Nat.reduceAdd, Nat.reduceLeDiff, Nat.reduceMul, Nat.reduceLT, Int.reduceEq, Int.reduceLT, Int.reduceLE]
  refine aloop mixed (fz := fun r => if r = 4 then [7] else []) (im := fun s => s == 2 || s == 3) (by kernel_rfl) (fun m tm H' => ∃ k : Nat, m = h.length - k ∧ k ≤ h.length ∧ H' = H ∧ tm 2 = .vptr [[.vsl (t.map rClass) cl]] 0 0 ∧ tm 3 = .vptr [[.vsl (h.map rFault) cl']] 0 0 ∧ tm 5 = .fn 136 [] [.vptr [[.vsl (h.map rFault) cl']] 0 0] ∧ tm 12 = .vsl (h.map rFault) cl' ∧ tm 13 = I h.length ∧ tm 14 = I k ∧ (List.range k).all (faultOk t h) = true) h.length ⟨0, by omega, by omega, rfl, ?_⟩ ?_
  · simp +contextual -dsimp -implicitDefEqProofs (maxSteps := 5000000) only [go_sem, reduceIte, reduceCtorEq, Nat.reduceEqDiff, Nat.reduceBEq, Nat.reduceAdd, Nat.reduceLeDiff, Nat.reduceMul, Nat.reduceLT, Int.reduceEq, Int.reduceLT, Int.reduceLE]
    rfl
  · rintro m tm H ⟨k, rfl, hk, rfl, h2, h3, h5, h12, h13, h14, hv⟩
    by_cases hlt : k < h.length
    · have bad : faultOk t h k = false → validH t h = false := fun e => by unfold validH; rw [range_bad hlt e]; rfl
      unfold faultOk at bad
      simp +contextual -dsimp -implicitDefEqProofs (maxSteps := 5000000) only [go_sem, reduceIte, reduceCtorEq, Nat.reduceEqDiff, Nat.reduceBEq, Nat.reduceAdd, Nat.reduceLeDiff, Nat.reduceMul, Nat.reduceLT, Int.reduceEq, Int.reduceLT, Int.reduceLE, h2, h3, h5, h12, h13, h14, hlt]
      intro b hb
      refine (c_has t cl _ _).det ?_
      cases e1 : hasF t (h.getD k default).cls
      · simp +contextual -dsimp -implicitDefEqProofs (maxSteps := 5000000) only [go_sem, reduceIte, reduceCtorEq, Nat.reduceEqDiff, Nat.reduceBEq, Nat.reduceAdd, Nat.reduceLeDiff, Nat.reduceMul, Nat.reduceLT, Int.reduceEq, Int.reduceLT, Int.reduceLE, h2, h3, h5, h12, h13, h14, hlt]
        rw [bad (by simp only [e1, Bool.false_and])]
      · simp +contextual -dsimp -implicitDefEqProofs (maxSteps := 5000000) only [go_sem, reduceIte, reduceCtorEq, Nat.reduceEqDiff, Nat.reduceBEq, Nat.reduceAdd, Nat.reduceLeDiff, Nat.reduceMul, Nat.reduceLT, Int.reduceEq, Int.reduceLT, Int.reduceLE, h2, h3, h5, h12, h13, h14, hlt]
        refine (c_codeOk _ _).det ?_
        cases e2 : inR (h.getD k default).code 0 99
        · simp +contextual -dsimp -implicitDefEqProofs (maxSteps := 5000000) only [go_sem, reduceIte, reduceCtorEq, Nat.reduceEqDiff, Nat.reduceBEq, Nat.reduceAdd, Nat.reduceLeDiff, Nat.reduceMul, Nat.reduceLT, Int.reduceEq, Int.reduceLT, Int.reduceLE, h2, h3, h5, h12, h13, h14, hlt]
          rw [bad (by simp only [e1, e2, Bool.false_and, Bool.and_false])]
        · simp +contextual -dsimp -implicitDefEqProofs (maxSteps := 5000000) only [go_sem, reduceIte, reduceCtorEq, Nat.reduceEqDiff, Nat.reduceBEq, Nat.reduceAdd, Nat.reduceLeDiff, Nat.reduceMul, Nat.reduceLT, Int.reduceEq, Int.reduceLT, Int.reduceLE, h2, h3, h5, h12, h13, h14, hlt]
          refine (c_link h cl' _ _ _).det ?_
          cases e3 : linkF h.length k (h.getD k default).cause
          · simp +contextual -dsimp -implicitDefEqProofs (maxSteps := 5000000) only [go_sem, reduceIte, reduceCtorEq, Nat.reduceEqDiff, Nat.reduceBEq, Nat.reduceAdd, Nat.reduceLeDiff, Nat.reduceMul, Nat.reduceLT, Int.reduceEq, Int.reduceLT, Int.reduceLE, h2, h3, h5, h12, h13, h14, hlt]
            rw [bad (by simp only [e1, e2, e3, Bool.false_and, Bool.and_false])]
          · simp +contextual -dsimp -implicitDefEqProofs (maxSteps := 5000000) only [go_sem, reduceIte, reduceCtorEq, Nat.reduceEqDiff, Nat.reduceBEq, Nat.reduceAdd, Nat.reduceLeDiff, Nat.reduceMul, Nat.reduceLT, Int.reduceEq, Int.reduceLT, Int.reduceLE, h2, h3, h5, h12, h13, h14, hlt]
            refine (c_link h cl' _ _ _).det ?_
            cases e4 : linkF h.length k (h.getD k default).ctx
            · simp +contextual -dsimp -implicitDefEqProofs (maxSteps := 5000000) only [go_sem, reduceIte, reduceCtorEq, Nat.reduceEqDiff, Nat.reduceBEq, Nat.reduceAdd, Nat.reduceLeDiff, Nat.reduceMul, Nat.reduceLT, Int.reduceEq, Int.reduceLT, Int.reduceLE, h2, h3, h5, h12, h13, h14, hlt]
              rw [bad (by simp only [e4, Bool.and_false])]
            · simp +contextual -dsimp -implicitDefEqProofs (maxSteps := 5000000) only [go_sem, reduceIte, reduceCtorEq, Nat.reduceEqDiff, Nat.reduceBEq, Nat.reduceAdd, Nat.reduceLeDiff, Nat.reduceMul, Nat.reduceLT, Int.reduceEq, Int.reduceLT, Int.reduceLE, h2, h3, h5, h12, h13, h14, hlt]
              exact ⟨_, by omega, k + 1, rfl, hlt, I_wrap (by omega) (by omega) (by omega), range_next hv (by simp only [faultOk, e1, e2, e3, e4, Bool.and_self])⟩
    · simp +contextual -dsimp -implicitDefEqProofs (maxSteps := 5000000) only [go_sem, reduceIte, reduceCtorEq, Nat.reduceEqDiff, Nat.reduceBEq, Nat.reduceAdd, Nat.reduceLeDiff, Nat.reduceMul, Nat.reduceLT, Int.reduceEq, Int.reduceLT, Int.reduceLE, h2, h3, h5, h12, h13, h14, hlt]
      have hkl : k = h.length := by omega
      subst hkl
      have hlk := faultOk_links hv
      refine aloop mixed (fz := fun r => if r = 4 then [7] else []) (im := fun s => s == 2 || s == 3) (by kernel_rfl) (fun m tm H' => ∃ k : Nat, m = h.length - k ∧ k ≤ h.length ∧ H' = H ∧ tm 2 = .vptr [[.vsl (t.map rClass) cl]] 0 0 ∧ tm 3 = .vptr [[.vsl (h.map rFault) cl']] 0 0 ∧ tm 49 = I h.length ∧ tm 50 = I k ∧ (List.range k).all (lastOk h) = true) h.length ⟨0, by omega, by omega, rfl, ?_⟩ ?_
      · simp +contextual -dsimp -implicitDefEqProofs (maxSteps := 5000000) only [go_sem, reduceIte, reduceCtorEq, Nat.reduceEqDiff, Nat.reduceBEq, Nat.reduceAdd, Nat.reduceLeDiff, Nat.reduceMul, Nat.reduceLT, Int.reduceEq, Int.reduceLT, Int.reduceLE, h2, h3]
        rfl
      · rintro m tm H ⟨k, rfl, hk, rfl, g2, g3, g49, g50, hw⟩
        by_cases hlt : k < h.length
        · simp +contextual -dsimp -implicitDefEqProofs (maxSteps := 5000000) only [go_sem, reduceIte, reduceCtorEq, Nat.reduceEqDiff, Nat.reduceBEq, Nat.reduceAdd, Nat.reduceLeDiff, Nat.reduceMul, Nat.reduceLT, Int.reduceEq, Int.reduceLT, Int.reduceLE, g2, g3, g49, g50, hlt]
          refine acalls_frz (c_contexts h cl' k H hl (by omega) (fun k hk => (hlk k hk).2.1)) fun cl1 => ?_
          simp +contextual -dsimp -implicitDefEqProofs (maxSteps := 5000000) only [go_sem, reduceIte, reduceCtorEq, Nat.reduceEqDiff, Nat.reduceBEq, Nat.reduceAdd, Nat.reduceLeDiff, Nat.reduceMul, Nat.reduceLT, Int.reduceEq, Int.reduceLT, Int.reduceLE, g2, g3, g49, g50, hlt]
          have c1 := List.length_pos_iff.2 (chainF_ne (h := h) (g := k) (by omega))
          have c2 := chainF_len h k
          have c3 := lastI_in (fun k hk => (hlk k hk).2.1) (f := k) (by omega) (by omega)
          have hw1 : IntKind.i64.wrap (((chainF h k).length : Int) - 1) = (((chainF h k).length - 1 : Nat) : Int) := by
            have := I_wrap (a := ((chainF h k).length : Int) - 1) (b := (((chainF h k).length - 1 : Nat) : Int)) (by omega) (by omega) (by omega)
            injection this with q
            injection q
          have c4 : (chainF h k).length - 1 < (chainF h k).length := by omega
          refine draw_intro [0, 0, 0, 0, 0, 0, 0, 0, 0, 0, 0, 0] AHeap.none (by kernel_rfl) none_le ?_
          simp +contextual -dsimp -implicitDefEqProofs (maxSteps := 5000000) only [go_sem, reduceIte, reduceCtorEq, Nat.reduceEqDiff, Nat.reduceBEq, Nat.reduceAdd, Nat.reduceLeDiff, Nat.reduceMul, Nat.reduceLT, Int.reduceEq, Int.reduceLT, Int.reduceLE, g2, g3, g49, g50, hlt, hw1, c1, c4, c3]
          have bad : lastOk h k = false → validH t h = false := fun e => by simp [validH, range_bad hlt e]
          unfold lastOk ctxOf lastI at bad
          unfold lastI at c3
          exact ⟨⟨c3.1, c3.2⟩, by omega, fun hne => by rw [bad (decide_eq_false hne)], fun he => ⟨_, by omega, k + 1, rfl, hlt, I_wrap (by omega) (by omega) (by omega), range_next hw (decide_eq_true he)⟩⟩
        · simp +contextual -dsimp -implicitDefEqProofs (maxSteps := 5000000) only [go_sem, reduceIte, reduceCtorEq, Nat.reduceEqDiff, Nat.reduceBEq, Nat.reduceAdd, Nat.reduceLeDiff, Nat.reduceMul, Nat.reduceLT, Int.reduceEq, Int.reduceLT, Int.reduceLE, g2, g3, g49, g50, hlt]
          have hkl : k = h.length := by omega
          subst hkl
          refine (c_ValidTree t cl _ hn).det ?_
          cases e1 : validT t
          · simp +contextual -dsimp -implicitDefEqProofs (maxSteps := 5000000) only [go_sem, reduceIte, reduceCtorEq, Nat.reduceEqDiff, Nat.reduceBEq, Nat.reduceAdd, Nat.reduceLeDiff, Nat.reduceMul, Nat.reduceLT, Int.reduceEq, Int.reduceLT, Int.reduceLE, g2, g3]
            simp [validH, e1]
          · simp +contextual -dsimp -implicitDefEqProofs (maxSteps := 5000000) only [go_sem, reduceIte, reduceCtorEq, Nat.reduceEqDiff, Nat.reduceBEq, Nat.reduceAdd, Nat.reduceLeDiff, Nat.reduceMul, Nat.reduceLT, Int.reduceEq, Int.reduceLT, Int.reduceLE, g2, g3]
            simp only [validH, hv, hw, e1, Bool.true_and]
            exact congrArg B (decide_eq_decide.2 (by omega))
theorem c_faultsIn (t : List Class) (cl : Bool) (h : List Fault) (cl' : Bool) (l : List Int) (cl2 : Bool) (H : AHeap) (hn : namesOk t) (hl : h.length ≤ 1000000) : ACalls Tryz.prog 54 [aTree t cl, aHeap h cl', .vsl (l.map rI) cl2] H fun r H' => r = B (validH t h && l.all fun f => inR f 0 (h.length - 1)) ∧ H' = H := by
  refine acalls_of0 Tryz.func54 rfl (by kernel_rfl) rfl rfl (awp_sound (fz := fun _ => []) (im := fun s => s == 3 || s == 4) mixed _ _ _ _ (by kernel_rfl) ?_)
  simp +contextual -dsimp -implicitDefEqProofs (maxSteps := 5000000) only [go_sem, reduceIte, reduceCtorEq, Nat.reduceEqDiff, Nat.reduceBEq, Nat.reduceAdd, Nat.reduceLeDiff, Nat.reduceMul, Nat.reduceLT, Int.reduceEq, Int.reduceLT, Int.reduceLE]
  refine (c_ValidHeap t cl h cl' _ hn hl).det ?_
  cases e1 : validH t h
  · simp +contextual -dsimp -implicitDefEqProofs (maxSteps := 5000000) only [go_sem, reduceIte, reduceCtorEq, Nat.reduceEqDiff, Nat.reduceBEq, Nat.reduceAdd, Nat.reduceLeDiff, Nat.reduceMul, Nat.reduceLT, Int.reduceEq, Int.reduceLT, Int.reduceLE]
  · simp +contextual -dsimp -implicitDefEqProofs (maxSteps := 5000000) only [go_sem, reduceIte, reduceCtorEq, Nat.reduceEqDiff, Nat.reduceBEq, Nat.reduceAdd, Nat.reduceLeDiff, Nat.reduceMul, Nat.reduceLT, Int.reduceEq, Int.reduceLT, Int.reduceLE]
    refine (c_ContainsFuncInt l cl2 _ _ (fun f => !inR f 0 (h.length - 1)) _ (fun c => c_faultsIn1 h cl' c _)).det ?_
    simp +contextual -dsimp -implicitDefEqProofs (maxSteps := 5000000) only [go_sem, reduceIte, reduceCtorEq, Nat.reduceEqDiff, Nat.reduceBEq, Nat.reduceAdd, Nat.reduceLeDiff, Nat.reduceMul, Nat.reduceLT, Int.reduceEq, Int.reduceLT, Int.reduceLE]
    congr 1
    rw [Bool.eq_iff_iff]
    simp
end
section
open Go Go.Sim
set_option maxRecDepth 100000

theorem getD_app {α : Type} {a b : List α} {d : α} {i : Nat} (h : i < a.length) : (a ++ b).getD i d = a.getD i d := by
  rw [List.getD_eq_getElem?_getD, List.getD_eq_getElem?_getD, List.getElem?_append_left h]
theorem walkG_step {nx : Int → Int} : ∀ (n : Nat) (out : List Int) (f : Int), (∀ i, i + 1 < out.length → out.getD (i + 1) default = nx (out.getD i default)) → (∀ i, i + 1 = out.length → nx (out.getD i default) = f) →
    ∀ i, i + 1 < (walkG nx n out f).length → (walkG nx n out f).getD (i + 1) default = nx ((walkG nx n out f).getD i default)
  | 0, out, f, h, _, i, hi => h i hi
  | n + 1, out, f, h, h2, i, hi => by
    simp only [walkG] at hi ⊢
    by_cases c : 0 ≤ f ∧ (out.any fun x => decide (f = x)) = false
    · rw [if_pos c] at hi ⊢
      refine walkG_step n (out ++ [f]) (nx f) ?_ ?_ i hi
      · intro j hj
        rw [List.length_append, List.length_singleton] at hj
        rcases Nat.lt_or_ge (j + 1) out.length with q | q
        · rw [getD_app q, getD_app (show j < out.length by omega)]
          exact h j q
        · have e : j + 1 = out.length := by omega
          rw [getD_app (show j < out.length by omega), h2 j e, e]
          simp [List.getD_eq_getElem?_getD]
      · intro j hj
        rw [List.length_append, List.length_singleton] at hj
        have e : j = out.length := by omega
        subst e
        simp [List.getD_eq_getElem?_getD]
    · rw [if_neg c] at hi ⊢
      exact h i hi
theorem walkG_pre {nx : Int → Int} : ∀ (n : Nat) (out : List Int) (f : Int) (i : Nat), i < out.length → (walkG nx n out f).getD i default = out.getD i default
  | 0, out, f, i, hi => rfl
  | n + 1, out, f, i, hi => by
    simp only [walkG]
    split
    · rw [walkG_pre n (out ++ [f]) (nx f) i (by simp; omega), getD_app hi]
    · rfl
theorem chain_step {h : List Fault} {g : Int} {i : Nat} (hi : i + 1 < (chainF h g).length) : (chainF h g).getD (i + 1) default = ctxOf h ((chainF h g).getD i default) :=
  walkG_step (h.length + 1) [] g (fun i q => by simp at q) (fun i q => by simp at q) i hi
theorem chain_head {h : List Fault} {g : Int} (h0 : 0 ≤ g) : (chainF h g).getD 0 default = g := by
  unfold chainF walkF
  simp only [walkG]
  rw [if_pos ⟨h0, rfl⟩, walkG_pre _ _ _ 0 (by simp)]
  rfl
/-- A chain cut where it comes to a fault. -/
def cutAt (h : List Fault) (f : Int) (l : List Int) : List Fault := match l.find? (fun x => decide (ctxOf h x = f)) with
  | some x => h.set x.toNat { h.getD x.toNat default with ctx := -1 }
  | none => h
def raisedF (h : List Fault) (f g : Int) : List Fault := if f = g ∨ g < 0 then h else (cutAt h f (chainF h g)).set f.toNat { (cutAt h f (chainF h g)).getD f.toNat default with ctx := g }
theorem cutAt_len (h : List Fault) (f : Int) (l : List Int) : (cutAt h f l).length = h.length := by unfold cutAt; split <;> simp
theorem raisedF_len (h : List Fault) (f g : Int) : (raisedF h f g).length = h.length := by unfold raisedF; split <;> simp [cutAt_len]
theorem cutAt_at {h : List Fault} {f : Int} {l : List Int} {i : Nat} (hi : i < l.length) (hn : (l.take i).any (fun x => decide (ctxOf h x = f)) = false) (hc : ctxOf h (l.getD i default) = f) : cutAt h f l = h.set (l.getD i default).toNat { h.getD (l.getD i default).toNat default with ctx := -1 } := by
  have : l.find? (fun x => decide (ctxOf h x = f)) = some (l.getD i default) := by
    have e : l.getD i default = l[i] := by simp [List.getD_eq_getElem?_getD, hi]
    rw [List.find?_eq_some_iff_getElem]
    refine ⟨decide_eq_true hc, i, hi, e.symm, fun j hj => ?_⟩
    rw [List.any_eq_false] at hn
    have := hn l[j] (by rw [List.mem_take_iff_getElem]; exact ⟨j, by omega, rfl⟩)
    simpa using this
  unfold cutAt
  rw [this]
/-- Contexts of faults that come to an end. -/
structure Calm (h : List Fault) : Prop where
  ctx : ∀ k, k < h.length → -1 ≤ (h.getD k default).ctx ∧ (h.getD k default).ctx < h.length
  last : ∀ k, k < h.length → lastOk h k = true
theorem Calm.at {h : List Fault} (hc : Calm h) {g : Int} (h0 : 0 ≤ g) (hg : g < h.length) {i : Nat} (hi : i < (chainF h g).length) : (i + 1 < (chainF h g).length ∧ 0 ≤ ctxOf h ((chainF h g).getD i default)) ∨ (i + 1 = (chainF h g).length ∧ ctxOf h ((chainF h g).getD i default) = -1) := by
  rcases Nat.lt_or_ge (i + 1) (chainF h g).length with q | q
  · left
    refine ⟨q, ?_⟩
    rw [← chain_step q, List.getD_eq_getElem?_getD, List.getElem?_eq_getElem q]
    exact (chainF_in (fun k hk => (hc.ctx k hk).2) hg (List.getElem_mem q)).1
  · right
    have e : i + 1 = (chainF h g).length := by omega
    refine ⟨e, ?_⟩
    have := hc.last g.toNat (by omega)
    rw [lastOk, decide_eq_true_eq, lastI, Int.toNat_of_nonneg h0, ← e] at this
    simpa using this
end
section
open Go Go.Sim
set_option maxRecDepth 100000

/-- In so many steps there is nothing more. -/
def EndsAt (nx : Int → Int) : Nat → Int → Prop
  | 0, a => a < 0
  | m + 1, a => 0 ≤ a ∧ EndsAt nx m (nx a)
theorem EndsAt.uniq {nx : Int → Int} : ∀ {m m' : Nat} {a : Int}, EndsAt nx m a → EndsAt nx m' a → m = m'
  | 0, 0, _, _, _ => rfl
  | 0, m' + 1, a, h, h' => by have := h'.1; simp only [EndsAt] at h; omega
  | m + 1, 0, a, h, h' => by have := h.1; simp only [EndsAt] at h'; omega
  | m + 1, m' + 1, a, h, h' => by rw [EndsAt.uniq h.2 h'.2]
def Ends (nx : Int → Int) (a : Int) : Prop := ∃ m, EndsAt nx m a
theorem Ends.neg {nx : Int → Int} {a : Int} (h : a < 0) : Ends nx a := ⟨0, h⟩
theorem Ends.step {nx : Int → Int} {a : Int} (h : Ends nx (nx a)) : Ends nx a := by
  obtain ⟨m, hm⟩ := h
  by_cases c : a < 0
  · exact .neg c
  · exact ⟨m + 1, by omega, hm⟩
theorem Ends.ind {nx : Int → Int} {p : Int → Prop} (h0 : ∀ a, a < 0 → p a) (h1 : ∀ a, 0 ≤ a → p (nx a) → p a) {a : Int} (h : Ends nx a) : p a := by
  obtain ⟨m, hm⟩ := h
  induction m generalizing a with
  | zero => exact h0 a hm
  | succ m ih => exact h1 a hm.1 (ih hm.2)
theorem walkG_end {nx : Int → Int} {n : Nat} (hnx : ∀ a : Int, 0 ≤ a → a < n → nx a < n) : ∀ (m fuel : Nat) (out : List Int) (f : Int), EndsAt nx m f → f < n → (∀ a ∈ out, ∃ m', m < m' ∧ EndsAt nx m' a) → freeN n out < fuel → (out ≠ [] → nx (lastI out) = f) → walkG nx fuel out f ≠ [] → nx (lastI (walkG nx fuel out f)) < 0
  | m, 0, out, f, _, _, _, hfr, _, _ => by omega
  | 0, fuel + 1, out, f, he, hf, ho, hfr, hl, hne => by
    have hf0 : f < 0 := he
    simp only [walkG] at hne ⊢
    rw [if_neg (by omega)] at hne ⊢
    rw [hl hne]; exact hf0
  | m + 1, fuel + 1, out, f, he, hf, ho, hfr, hl, hne => by
    have hany : (out.any fun x => decide (f = x)) = false := by
      rw [List.any_eq_false]
      intro a ha
      obtain ⟨m', h1, h2⟩ := ho a ha
      have : ¬ f = a := by
        rintro rfl
        have := he.uniq h2
        omega
      simpa using this
    simp only [walkG] at hne ⊢
    rw [if_pos ⟨he.1, hany⟩] at hne ⊢
    have := freeN_lt he.1 hf hany
    refine walkG_end hnx m fuel (out ++ [f]) (nx f) he.2 (hnx f he.1 hf) ?_ (by omega) ?_ hne
    · intro a ha
      rcases List.mem_append.1 ha with q | q
      · obtain ⟨m', h1, h2⟩ := ho a q
        exact ⟨m', by omega, h2⟩
      · simp at q; subst q
        exact ⟨m + 1, by omega, he⟩
    · intro _
      congr 1
      simp [lastI, List.getD_eq_getElem?_getD]
theorem Calm.of_ends {h : List Fault} (hc : ∀ k, k < h.length → -1 ≤ (h.getD k default).ctx ∧ (h.getD k default).ctx < h.length) (he : ∀ k : Nat, k < h.length → Ends (ctxOf h) k) : Calm h := by
  refine ⟨hc, fun k hk => ?_⟩
  obtain ⟨m, hm⟩ := he k hk
  have hne := chainF_ne (h := h) (g := k) (by omega)
  have hnx : ∀ a : Int, 0 ≤ a → a < h.length → ctxOf h a < h.length := fun a a0 a1 => (hc a.toNat (by omega)).2
  have := walkG_end hnx m (h.length + 1) [] k hm (by omega) (fun a ha => by cases ha) (by have := freeN_nil h.length; omega) (fun q => absurd rfl q) hne
  have hin := lastI_in (fun k hk => (hc k hk).2) (f := k) (by omega) (by omega)
  have h1 := hc (lastI (chainF h k)).toNat (by omega)
  rw [lastOk, decide_eq_true_eq]
  unfold ctxOf at this ⊢
  unfold chainF walkF at h1 ⊢
  unfold ctxOf at h1 ⊢
  omega
theorem Calm.ends {h : List Fault} (hc : Calm h) {k : Int} (h0 : 0 ≤ k) (hk : k < h.length) : Ends (ctxOf h) k := by
  have hne := List.length_pos_iff.2 (chainF_ne (h := h) h0)
  have key : ∀ j, j < (chainF h k).length → Ends (ctxOf h) ((chainF h k).getD ((chainF h k).length - 1 - j) default) := by
    intro j
    induction j with
    | zero =>
      intro hj
      rcases hc.at h0 hk (i := (chainF h k).length - 1 - 0) (by omega) with ⟨q, _⟩ | ⟨_, q⟩
      · omega
      · exact .step (.neg (by omega))
    | succ j ih =>
      intro hj
      have e : (chainF h k).length - 1 - j = ((chainF h k).length - 1 - (j + 1)) + 1 := by omega
      have := ih (by omega)
      rw [e, chain_step (by omega)] at this
      exact .step this
  have := key ((chainF h k).length - 1) (by omega)
  rw [Nat.sub_self, chain_head h0] at this
  exact this
end
section
open Go Go.Sim
set_option maxRecDepth 100000

theorem getD_set {α : Type} {l : List α} {i j : Nat} {x d : α} (h : i < l.length) : (l.set i x).getD j d = if i = j then x else l.getD j d := by
  rw [List.getD_eq_getElem?_getD, List.getD_eq_getElem?_getD, List.getElem?_set]
  split
  · rename_i e; subst e; simp [h]
  · rfl
theorem ctx_set {h : List Fault} {i : Nat} {x : Fault} {a : Int} (hi : i < h.length) : ctxOf (h.set i x) a = if i = a.toNat then x.ctx else ctxOf h a := by
  unfold ctxOf
  rw [getD_set hi]
  split <;> rfl
theorem cut_ctx {h : List Fault} {f : Int} {l : List Int} (hl : ∀ x ∈ l, 0 ≤ x ∧ x < h.length) {a : Int} (a0 : 0 ≤ a) : ctxOf (cutAt h f l) a = ctxOf h a ∨ (ctxOf (cutAt h f l) a = -1 ∧ ctxOf h a = f) := by
  unfold cutAt
  split
  · rename_i x hx
    have hm := hl x (List.mem_of_find?_eq_some hx)
    have hp := List.find?_some hx
    rw [ctx_set (by omega)]
    by_cases e : x.toNat = a.toNat
    · rw [if_pos e]
      right
      have : x = a := by omega
      subst this
      exact ⟨rfl, by simpa using hp⟩
    · rw [if_neg e]; exact .inl rfl
  · exact .inl rfl
theorem Calm.raised {h : List Fault} (hc : Calm h) {f g : Int} (f0 : 0 ≤ f) (hf : f < h.length) (hg : g < h.length) : Calm (raisedF h f g) := by
  by_cases hb : f = g ∨ g < 0
  · rw [raisedF, if_pos hb]; exact hc
  have g0 : 0 ≤ g := by omega
  have hfg : ¬ f = g := by omega
  have hlin : ∀ x ∈ chainF h g, 0 ≤ x ∧ x < h.length := fun x hx => chainF_in (fun k hk => (hc.ctx k hk).2) hg hx
  have e2 : ∀ a : Int, 0 ≤ a → ctxOf (raisedF h f g) a = if f = a then g else ctxOf (cutAt h f (chainF h g)) a := by
    intro a a0
    rw [raisedF, if_neg hb, ctx_set (by rw [cutAt_len]; omega)]
    by_cases e : f = a
    · subst e; rw [if_pos rfl, if_pos rfl]
    · rw [if_neg e, if_neg (by omega)]
  have ec : ∀ a : Int, 0 ≤ a → ¬ f = a → ctxOf (raisedF h f g) a = ctxOf h a ∨ (ctxOf (raisedF h f g) a = -1 ∧ ctxOf h a = f) := by
    intro a a0 e
    rw [e2 a a0, if_neg e]
    exact cut_ctx hlin a0
  have hEg : ∀ (j i : Nat), (chainF h g).length - i ≤ j → i < (chainF h g).length → ((chainF h g).take i).any (fun x => decide (ctxOf h x = f)) = false → Ends (ctxOf (raisedF h f g)) ((chainF h g).getD i default) := by
    intro j
    induction j with
    | zero => intro i h1 h2; omega
    | succ j ih =>
      intro i h1 h2 h3
      have hm : (chainF h g).getD i default ∈ chainF h g := by
        rw [List.getD_eq_getElem?_getD, List.getElem?_eq_getElem h2]; exact List.getElem_mem h2
      have hin := hlin _ hm
      have hne : ¬ f = (chainF h g).getD i default := by
        cases i with
        | zero => rw [chain_head g0]; exact hfg
        | succ i =>
          rw [chain_step h2]
          rw [List.any_eq_false] at h3
          have hi : i < (chainF h g).length := by omega
          have := h3 ((chainF h g).getD i default) (by rw [List.getD_eq_getElem?_getD, List.getElem?_eq_getElem hi, List.mem_take_iff_getElem]; exact ⟨i, by omega, rfl⟩)
          intro q
          exact this (decide_eq_true q.symm)
      refine .step ?_
      by_cases hx : ctxOf h ((chainF h g).getD i default) = f
      · have : ctxOf (raisedF h f g) ((chainF h g).getD i default) = -1 := by
          rw [e2 _ hin.1, if_neg hne, cutAt_at h2 h3 hx, ctx_set (by omega), if_pos rfl]
        rw [this]; exact .neg (by omega)
      · rcases ec _ hin.1 hne with q | ⟨_, q⟩
        · rw [q]
          rcases hc.at g0 hg h2 with ⟨q1, q2⟩ | ⟨q1, q2⟩
          · rw [← chain_step q1]
            exact ih (i + 1) (by omega) q1 (any_take h2 h3 (d := default) (decide_eq_false hx))
          · rw [q2]; exact .neg (by omega)
        · exact absurd q hx
  have hne := List.length_pos_iff.2 (chainF_ne (h := h) g0)
  have hg' : Ends (ctxOf (raisedF h f g)) g := by
    have := hEg (chainF h g).length 0 (by omega) hne rfl
    rwa [chain_head g0] at this
  have hall : ∀ a : Int, Ends (ctxOf h) a → Ends (ctxOf (raisedF h f g)) a := by
    intro a ha
    refine Ends.ind (p := fun a => Ends (ctxOf (raisedF h f g)) a) (fun a q => .neg q) (fun a a0 q => ?_) ha
    refine .step ?_
    by_cases e : f = a
    · rw [e2 a a0, if_pos e]; exact hg'
    · rcases ec a a0 e with q1 | ⟨q1, _⟩
      · rw [q1]; exact q
      · rw [q1]; exact .neg (by omega)
  refine .of_ends (fun k hk => ?_) (fun k hk => ?_)
  · rw [raisedF_len] at hk ⊢
    have hk2 := hc.ctx k hk
    show -1 ≤ ctxOf (raisedF h f g) (k : Int) ∧ ctxOf (raisedF h f g) (k : Int) < h.length
    by_cases e : f = k
    · rw [e2 k (by omega), if_pos e]; omega
    · rcases ec k (by omega) e with q1 | ⟨q1, _⟩
      · rw [q1]; exact hk2
      · rw [q1]; omega
  · rw [raisedF_len] at hk
    exact hall k (hc.ends (by omega) (by omega))
theorem Calm.nil : Calm [] := ⟨fun k hk => by simp at hk, fun k hk => by simp at hk⟩
theorem Calm.same {h h' : List Fault} (hc : Calm h) (hl : h'.length = h.length) (hx : ∀ k, k < h.length → (h'.getD k default).ctx = (h.getD k default).ctx) : Calm h' := by
  have e : ∀ a : Int, 0 ≤ a → a < h.length → ctxOf h' a = ctxOf h a := fun a a0 a1 => hx a.toNat (by omega)
  refine .of_ends (fun k hk => ?_) (fun k hk => ?_)
  · rw [hl] at hk ⊢; rw [hx k hk]; exact hc.ctx k hk
  · rw [hl] at hk
    have := hc.ends (k := k) (by omega) (by omega)
    refine Ends.ind (p := fun a => a < h.length → Ends (ctxOf h') a) (fun a q _ => .neg q) (fun a a0 q q1 => .step ?_) this (by omega)
    rw [e a a0 q1]
    exact q (hc.ctx a.toNat (by omega)).2
theorem Calm.add {h : List Fault} (hc : Calm h) {x : Fault} (hx : x.ctx = -1) : Calm (h ++ [x]) := by
  have e1 : ∀ a : Int, 0 ≤ a → a < h.length → ctxOf (h ++ [x]) a = ctxOf h a := fun a a0 a1 => by unfold ctxOf; rw [getD_app (by omega)]
  have e2 : ctxOf (h ++ [x]) h.length = -1 := by unfold ctxOf; simp [List.getD_eq_getElem?_getD, hx]
  refine .of_ends (fun k hk => ?_) (fun k hk => ?_)
  · rw [List.length_append, List.length_singleton] at hk ⊢
    show -1 ≤ ctxOf (h ++ [x]) (k : Int) ∧ ctxOf (h ++ [x]) (k : Int) < ((h.length + 1 : Nat) : Int)
    rcases Nat.lt_or_ge k h.length with q | q
    · rw [e1 k (by omega) (by omega)]
      have := hc.ctx k q
      unfold ctxOf
      simp only [Int.toNat_natCast]
      omega
    · have : k = h.length := by omega
      subst this
      rw [e2]; omega
  · rw [List.length_append, List.length_singleton] at hk
    rcases Nat.lt_or_ge k h.length with q | q
    · have := hc.ends (k := k) (by omega) (by omega)
      refine Ends.ind (p := fun a => a < h.length → Ends (ctxOf (h ++ [x])) a) (fun a q _ => .neg q) (fun a a0 q q1 => .step ?_) this (by omega)
      rw [e1 a a0 q1]
      exact q (hc.ctx a.toNat (by omega)).2
    · have : k = h.length := by omega
      subst this
      exact .step (by rw [e2]; exact .neg (by omega))
end
section
open Go Go.Sim
set_option maxRecDepth 100000

def Links (h : List Fault) : Prop := ∀ k, k < h.length → (h.getD k default).cause < h.length ∧ (h.getD k default).ctx < h.length
theorem Nums.app {n : Nat} {out : List Int} (h : Nums n out) {g : Int} (h0 : 0 ≤ g) (hg : g < n) (ha : (out.any fun x => decide (g = x)) = false) : Nums n (out ++ [g]) := by
  have := h.add hg
  unfold addF at this
  rwa [if_pos ⟨h0, ha⟩] at this
end
end
section
set_option maxRecDepth 100000
attribute [local go_sem ↓] aw_skip aw_ret aw_exit aw_region aw_draw aw_seq aw_block aw_loop aw_cond frz_nil frz_cons sq_normal sq_ret sq_exit exB_normal exB_ret exB_same exB_other retQ_ret retQ_normal ret0_ret ret0_normal ao_nil go1 g_move g_assign g_pick g_build g_load g_binOp g_unOp g_convert g_fieldAddr g_field g_indexAddr g_index g_extract g_lookup g_slice g_nilCheck g_len g_makeFunc h_call h_append h_alloc h_box h_buildSlice h_makeSlice h_store gV i_box i_buildSlice i_move i_assign i_build i_load i_binOp i_unOp i_convert i_fieldAddr i_field i_indexAddr i_index i_extract i_lookup i_makeMap i_mapUpdate i_slice i_nilCheck i_makeFunc i_len i_max i_min i_alloc i_makeSlice i_store i_append i_call i_pick boxI boxA buildSliceI buildSliceA makeSliceA makeMapA allocA storeA p_move p_assign p_pick p_build p_load p_binOp p_unOp p_convert p_fieldAddr p_field p_indexAddr p_index p_extract p_lookup p_makeMap p_mapUpdate p_slice p_nilCheck p_makeFunc p_len p_max p_min p_alloc p_box p_buildSlice p_makeSlice p_store p_append p_call x_nil x_go1 x_g0 x_g1 x_g2 x_g3 x_s0 x_s1 x_s2 x_s3 u_move u_assign u_pick u_build u_load u_binOp u_unOp u_convert u_fieldAddr u_field u_indexAddr u_index u_extract u_lookup u_slice u_nilCheck u_makeFunc u_len u_buildSlice
attribute [local go_sem] frzV_ptr frzV_sl frzK_some set_none set_other AHeap.set_self set_del set_set cnd_t cnd_f cnd_b retA_one retA_two retA_three retA_four retA_nil gIf_b mrgV_b mrgV_wh mrgV_U gIf_U gIf_wh mrgB_f mrgB_some mrgB_if wh_true wh_false keepA_some keepA_if gD_zero gD_succ gT_some bxA_t bxA_f callA_fn ev_tmp ev_const ev_global ev_func oc_bool oc_int oc_string oc_nil oc_nilptr oc_nilfunc cl_bool cl_int cl_string cl_nil updO_some updO_none upd_same upd_other init_at pickA_b pickA_wh selA_t selA_f selA_and selA_or selA_orn selA_orm selA_bb selA_ii beqt b_add b_sub b_mul b_and b_or b_xor b_eql b_neq b_lss b_leq b_gtr b_geq b_quo b_rem b_shr b_seql b_sneq b_sadd b_beql b_bneq b_aeql b_aneq u_not u_neg isConstOp eqA eqCellV List.getD_cons_zero List.getD_cons_succ List.map_cons List.map_nil List.nil_append List.cons_append List.append_nil if_true if_false Option.map_some Option.map_none ne_eq not_false_eq_true oneA ldv ld1v ld1s wr1s ldRow stRow row_lit row_agg row_vsl row_sl row_ptr row_fn one_I one_B one_S one_vsl one_sl one_ptr one_fn extractA okA rI rS rU rClass rFault rExit rStart rLine Int.toNat_natCast List.length_cons List.length_nil List.length_map List.all_cons List.all_nil Bool.and_true Nat.zero_add List.getElem?_cons_zero List.getElem?_cons_succ List.take_succ_cons List.take_zero List.drop_succ_cons List.drop_zero and_self true_and and_true implies_true decide_eq_true_eq decide_eq_false_iff_not Bool.or_eq_true Bool.or_eq_false_iff Bool.and_eq_true Bool.not_eq_true' Bool.not_eq_false' beq_false decide_true decide_false Int.ofNat_lt Int.ofNat_le Int.natCast_nonneg Bool.or_true Bool.or_false Bool.true_or Bool.false_or beq_self_eq_true List.drop_one Bool.not_true Bool.not_false Bool.not_not Bool.false_eq_true Bool.true_eq_false false_implies true_implies Bool.true_and Bool.false_and Bool.and_false not_true_eq_false Int.natCast_eq_zero Int.natCast_pos Int.natCast_zero false_and and_false or_false false_or or_true true_or Bool.or_self none_le_iff List.replicate_zero Int.toNat_zero List.replicate_succ buildRows List.set_cons_zero List.set_cons_succ List.set_nil List.mapM_nil maxLen_eq Nat.zero_le Nat.mul_one Nat.one_mul bldA fillA spliceA List.take_nil List.drop_nil List.getElem?_nil ld1o wr1o bldSliceA le_same ti1 ti2 tk2 ti3 te3 ts3 tk3 tz3 ti4 tb4 ti5 tk5 tz5 ti9 te9 ts9 tk9 tz9 ti12 tk12 ti13 tp13 tf13_0 tf13_1 ti20 ti21 tk21 tz21 ti22 te22 tz22 ti23 te23 ti24 tp24 tf24_0 ti25 tp25 tf25_0 ti26 te26 ti28 ti29 te29 ti30 te30 ti31 tp31 tf31_0 ti32 tp32 tf32_0 ti33 tp33 tf33_0 tf33_1 tf33_2 tf33_3 ti34 tp34 tf34_0 tf34_1 tf34_2 tf34_3 ti35 ti36 ti37 ti38 ti40 ti42 ti43 ti44 tq44 tp44 tf44_0 tf44_1 tf44_2 ti45 tq45 tp45 tf45_0 tf45_1 tf45_2 ti47 ti48 ti49 tq49 tp49 tf49_0 tf49_1 tf49_2 tf49_3 ti50 tq50 tp50 tf50_0 tf50_1 tf50_2 tf50_3 ti51 ti52 ti54 ti55 ti56 ti57 te57 ti59 ti60 ti61 ti62 ti63 ti64 ti65 ti66 ti67 ti68 tq68 tp68 tf68_0 tf68_1 ti69 tq69 tp69 tf69_0 tf69_1 ti70 ti71 ti72 ti73 ti74 ti75 ti77 ti78 ti79 ti80 ti81 ti82 ti83 ti84 ti85 tq85 tp85 tf85_0 tf85_1 tf85_2 tf85_3 tf85_4 ti86 tq86 tp86 tf86_0 tf86_1 tf86_2 tf86_3 tf86_4 ti87 ti88 ti89 ti90 ti91 ti93 ti94 ti95 ti96 ti97 tq97 tp97 tf97_0 tf97_1 tf97_2 ti98 tq98 tp98 tf98_0 tf98_1 tf98_2 ti99 ti100 ti101 ti102 ti103 ti104 ti105 ti106 ti107 tp107 tf107_0 tf107_1 ti108 tp108 tf108_0 tf108_1 ti109 tp109 tf109_0 tf109_1 tf109_2 tf109_3 tf109_4 ti110 tp110 tf110_0 tf110_1 tf110_2 tf110_3 tf110_4 ti111 ti113 ti114 ti115 ti116 ti117 ti118 ti119 ti120 tp120 tf120_0 tf120_1 tf120_2 tf120_3 ti121 tp121 tf121_0 tf121_1 tf121_2 tf121_3 ti122 tq122 tp122 tf122_0 tf122_1 ti123 tq123 tp123 tf123_0 tf123_1 ti124 ti125 ti126 tq126 tp126 tf126_0 tf126_1 ti127 tq127 tp127 tf127_0 tf127_1 ti128 ti129 ti130 ti131 ti132 ti133 te133 ti134 ti135 ti136 ti137 ti138 ti139 ti140 ti141 ti142 ti143 ti144 tp144 tf144_0 tf144_1 tf144_2 ti145 tp145 tf145_0 tf145_1 tf145_2 ti146 ti147 ti148 ti149 ti150 te150 ti151 ti152 ti153 ti154 ti155 ti156 ti157 ti158 ti159 ti160 ti161 ti162 ti163 ti164 ti165 ti166 ti167 ti168 ti169 ti170 ti171 ti172 ti173 ti174 ti175 tk175 tz175 ti176 ti177 ti178 ti179 ti180 tk180 ti182 ti183 ti184 ti186 ti187 ti188 tk188 tz188 ti189 ti190 tk190 tz190 ti191 tk191 ti192 ti193 ti194 ti195 ti196 ti197 ti199 ti200 ti206 ti210 ti215 fp13_0 fv13_0 fp13_1 fv13_1 fp24_0 fv24_0 fp25_0 fv25_0 fp31_0 fv31_0 fp32_0 fv32_0 fp33_0 fv33_0 fp33_1 fv33_1 fp33_2 fv33_2 fp33_3 fv33_3 fp34_0 fv34_0 fp34_1 fv34_1 fp34_2 fv34_2 fp34_3 fv34_3 fp44_0 fv44_0 fp44_1 fv44_1 fp44_2 fv44_2 fp45_0 fv45_0 fp45_1 fv45_1 fp45_2 fv45_2 fp49_0 fv49_0 fp49_1 fv49_1 fp49_2 fv49_2 fp49_3 fv49_3 fp50_0 fv50_0 fp50_1 fv50_1 fp50_2 fv50_2 fp50_3 fv50_3 fp68_0 fv68_0 fp68_1 fv68_1 fp69_0 fv69_0 fp69_1 fv69_1 fp85_0 fv85_0 fp85_1 fv85_1 fp85_2 fv85_2 fp85_3 fv85_3 fp85_4 fv85_4 fp86_0 fv86_0 fp86_1 fv86_1 fp86_2 fv86_2 fp86_3 fv86_3 fp86_4 fv86_4 fp97_0 fv97_0 fp97_1 fv97_1 fp97_2 fv97_2 fp98_0 fv98_0 fp98_1 fv98_1 fp98_2 fv98_2 fp107_0 fv107_0 fp107_1 fv107_1 fp108_0 fv108_0 fp108_1 fv108_1 fp109_0 fv109_0 fp109_1 fv109_1 fp109_2 fv109_2 fp109_3 fv109_3 fp109_4 fv109_4 fp110_0 fv110_0 fp110_1 fv110_1 fp110_2 fv110_2 fp110_3 fv110_3 fp110_4 fv110_4 fp120_0 fv120_0 fp120_1 fv120_1 fp120_2 fv120_2 fp120_3 fv120_3 fp121_0 fv121_0 fp121_1 fv121_1 fp121_2 fv121_2 fp121_3 fv121_3 fp122_0 fv122_0 fp122_1 fv122_1 fp123_0 fv123_0 fp123_1 fv123_1 fp126_0 fv126_0 fp126_1 fv126_1 fp127_0 fv127_0 fp127_1 fv127_1 fp144_0 fv144_0 fp144_1 fv144_1 fp144_2 fv144_2 fp145_0 fv145_0 fp145_1 fv145_1 fp145_2 fv145_2 lv22 ll22 is22 ix22 sh22 so22 sb22 sm22 sp22 lv23 ll23 is23 ix23 sh23 so23 sb23 sm23 sp23 lv26 ll26 is26 ix26 sh26 so26 sb26 sm26 sp26 lv29 ll29 is29 ix29 sh29 so29 sb29 sm29 sp29 lv30 ll30 is30 ix30 sh30 so30 sb30 sm30 sp30 lv57 ll57 is57 ix57 sh57 so57 sb57 sm57 sp57 lv133 ll133 is133 sp133 lv150 ll150 is150 ix150 sh150 so150 sb150 sm150 sp150 xs9 ls9 sx9 sy9 sz9
section
open Go Go.Sim
set_option maxRecDepth 100000
theorem Nums.nil (n : Nat) : Nums n [] where
  mem a ha := absurd ha (List.not_mem_nil)
  free := by have := freeN_nil n; simpa using this
end
section
open Go Go.Sim
set_option maxRecDepth 100000

def insR : List Int → Int → List Int
  | [], v => [v]
  | b :: out, v => if b < v then b :: insR out v else if b = v then b :: out else v :: b :: out
theorem insF_eq : ∀ (out : List Int) (v : Int), insF out v = insR out v
  | [], v => by simp [insF, insR, insK]
  | b :: out, v => by
    have ih := insF_eq out v
    unfold insR
    by_cases c : b < v
    · rw [if_pos c, ← ih]
      have hk : insK (b :: out) v = insK out v + 1 := by simp [insK, List.takeWhile_cons, c]
      unfold insF
      rw [hk]
      simp only [List.length_cons, List.getD_cons_succ, List.take_succ_cons, List.drop_succ_cons, Nat.add_right_cancel_iff]
      split <;> simp
    · rw [if_neg c]
      have hk : insK (b :: out) v = 0 := by simp [insK, List.takeWhile_cons, c]
      unfold insF
      rw [hk]
      by_cases e : b = v
      · rw [if_pos e, if_neg (by simp [e])]
      · rw [if_neg e, if_pos (by right; simpa using e)]
        simp
theorem insR_mem : ∀ {out : List Int} {v a : Int}, a ∈ insR out v ↔ a = v ∨ a ∈ out
  | [], v, a => by simp [insR]
  | b :: out, v, a => by
    unfold insR
    split
    · rw [List.mem_cons, insR_mem, List.mem_cons]
      constructor
      · rintro (q | q | q) <;> simp [q]
      · rintro (q | q | q) <;> simp [q]
    · split
      · rename_i e; subst e; simp
      · simp
theorem insR_asc : ∀ {out : List Int} {v : Int}, out.Pairwise (· < ·) → (insR out v).Pairwise (· < ·)
  | [], v, _ => by simp [insR]
  | b :: out, v, h => by
    obtain ⟨h1, h2⟩ := List.pairwise_cons.1 h
    unfold insR
    split
    · rename_i c
      refine .cons (fun a ha => ?_) (insR_asc h2)
      rcases insR_mem.1 ha with q | q
      · omega
      · exact h1 a q
    · split
      · exact h
      · rename_i c e
        refine .cons (fun a ha => ?_) h
        rcases List.mem_cons.1 ha with q | q
        · omega
        · have := h1 a q; omega
theorem fold_asc : ∀ (l out : List Int), out.Pairwise (· < ·) → (l.foldl insF out).Pairwise (· < ·) ∧ ∀ a, a ∈ l.foldl insF out ↔ a ∈ out ∨ a ∈ l
  | [], out, h => ⟨h, fun a => by simp⟩
  | v :: l, out, h => by
    rw [List.foldl_cons, insF_eq]
    obtain ⟨h1, h2⟩ := fold_asc l (insR out v) (insR_asc h)
    refine ⟨h1, fun a => ?_⟩
    rw [h2, insR_mem, List.mem_cons]
    constructor
    · rintro ((q | q) | q) <;> simp [q]
    · rintro (q | q | q) <;> simp [q]
theorem sortedF_asc (l : List Int) : (sortedF l).Pairwise (· < ·) := (fold_asc l [] .nil).1
theorem sortedF_iff {l : List Int} {a : Int} : a ∈ sortedF l ↔ a ∈ l := by
  have := (fold_asc l [] .nil).2 a
  simpa [sortedF] using this
/-- Numbers sorted, each once: told by what is in them. -/
theorem sort_ext {l m : List Int} (hl : l.Nodup) (h : ∀ a, a ∈ l ↔ a ∈ m) : sortI l = sortedF m := by
  have s1 : (sortI l).Pairwise (fun a b => a ≤ b) := by
    have := List.pairwise_mergeSort (le := fun x y : Int => decide (x ≤ y)) (fun a b c h1 h2 => by simp at *; omega) (fun a b => by simp; omega) l
    exact this.imp (fun h => by simpa using h)
  have a2 := sortedF_asc m
  have s2 : (sortedF m).Pairwise (fun a b => a ≤ b) := a2.imp (fun h => by omega)
  have n2 : (sortedF m).Nodup := a2.imp (fun h => by omega)
  have n1 : (sortI l).Nodup := (List.mergeSort_perm l _).nodup_iff.2 hl
  have pm : (sortI l).Perm (sortedF m) := (List.perm_ext_iff_of_nodup n1 n2).2 fun a => by rw [sortI_mem, sortedF_iff, h]
  exact pm.eq_of_pairwise (fun a b _ _ h1 h2 => by omega) s1 s2
/-- What a fault reaches. -/
inductive Rch (h : List Fault) (f : Int) : Int → Prop where
  | refl : Rch h f f
  | cause {a : Int} : Rch h f a → 0 ≤ causeOf h a → Rch h f (causeOf h a)
  | ctx {a : Int} : Rch h f a → 0 ≤ ctxOf h a → Rch h f (ctxOf h a)
theorem addF_mem {out : List Int} {g a : Int} : a ∈ addF out g ↔ a ∈ out ∨ (a = g ∧ 0 ≤ g) := by
  unfold addF
  by_cases c : 0 ≤ g ∧ (out.any fun x => decide (g = x)) = false
  · rw [if_pos c, List.mem_append, List.mem_singleton]
    constructor
    · rintro (q | q)
      · exact .inl q
      · exact .inr ⟨q, c.1⟩
    · rintro (q | q)
      · exact .inl q
      · exact .inr q.1
  · rw [if_neg c]
    refine ⟨.inl, ?_⟩
    rintro (q | ⟨rfl, q⟩)
    · exact q
    · have : ¬ (out.any fun x => decide (a = x)) = false := fun e => c ⟨q, e⟩
      simpa using this
theorem addF_nodup {out : List Int} {g : Int} (h : out.Nodup) : (addF out g).Nodup := by
  unfold addF
  split
  · rename_i c
    rw [List.nodup_append]
    refine ⟨h, by simp, fun a ha b hb => ?_⟩
    simp at hb; subst hb
    rintro rfl
    have := c.2
    rw [List.any_eq_false] at this
    exact this a ha (by simp)
  · exact h
theorem bfsG_clos {h : List Fault} (hlk : Links h) (f : Int) : ∀ (n i : Nat) (out : List Int), Nums h.length out → out.Nodup → h.length ≤ i + n → (∀ a ∈ out, Rch h f a) →
    (∀ j, j < i → j < out.length → (0 ≤ causeOf h (out.getD j default) → causeOf h (out.getD j default) ∈ out) ∧ (0 ≤ ctxOf h (out.getD j default) → ctxOf h (out.getD j default) ∈ out)) →
    (∀ a ∈ out, a ∈ bfsG h n i out) ∧ (bfsG h n i out).Nodup ∧ (∀ a ∈ bfsG h n i out, Rch h f a) ∧ (∀ a ∈ bfsG h n i out, (0 ≤ causeOf h a → causeOf h a ∈ bfsG h n i out) ∧ (0 ≤ ctxOf h a → ctxOf h a ∈ bfsG h n i out)) := by
  have stop : ∀ (i : Nat) (out : List Int), out.length ≤ i → (∀ j, j < i → j < out.length → (0 ≤ causeOf h (out.getD j default) → causeOf h (out.getD j default) ∈ out) ∧ (0 ≤ ctxOf h (out.getD j default) → ctxOf h (out.getD j default) ∈ out)) →
      ∀ a ∈ out, (0 ≤ causeOf h a → causeOf h a ∈ out) ∧ (0 ≤ ctxOf h a → ctxOf h a ∈ out) := by
    intro i out hi hj a ha
    obtain ⟨j, hj1, rfl⟩ := List.mem_iff_getElem.1 ha
    have := hj j (by omega) hj1
    simpa [List.getD_eq_getElem?_getD, hj1] using this
  intro n
  induction n with
  | zero =>
    intro i out hn hd hl hr hj
    have := hn.free
    exact ⟨fun a ha => ha, hd, hr, stop i out (by omega) hj⟩
  | succ n ih =>
    intro i out hn hd hl hr hj
    simp only [bfsG]
    by_cases c : i < out.length
    · rw [if_pos c]
      have hm : out.getD i default ∈ out := by rw [List.getD_eq_getElem?_getD, List.getElem?_eq_getElem c]; exact List.getElem_mem c
      have hmm := hn.mem _ hm
      have hk := hlk (out.getD i default).toNat (by omega)
      have hri := hr _ hm
      generalize hg : out.getD i default = v at hm hmm hk hri
      have hN := (hn.add (g := causeOf h v) hk.1).add (g := ctxOf h v) hk.2
      have keep : ∀ a ∈ out, a ∈ addF (addF out (causeOf h v)) (ctxOf h v) := fun a ha => addF_mem.2 (.inl (addF_mem.2 (.inl ha)))
      have pre : ∀ (o : List Int) (g : Int) (j : Nat), j < o.length → (addF o g).getD j default = o.getD j default := by
        intro o g j hjo
        unfold addF
        split
        · rw [getD_app hjo]
        · rfl
      have l1 := addF_len out (causeOf h v)
      obtain ⟨b1, b2, b3, b4⟩ := ih (i + 1) (addF (addF out (causeOf h v)) (ctxOf h v)) hN (addF_nodup (addF_nodup hd)) (by omega) (fun a ha => by
        rcases addF_mem.1 ha with q | ⟨e, q⟩
        · rcases addF_mem.1 q with q1 | ⟨e1, q1⟩
          · exact hr a q1
          · rw [e1]; exact .cause hri q1
        · rw [e]; exact .ctx hri q) (fun j hj1 hj2 => by
        have hjo : j < out.length := by omega
        rw [pre _ _ j (by omega), pre _ _ j hjo]
        by_cases e : j = i
        · subst e
          rw [hg]
          exact ⟨fun q => addF_mem.2 (.inl (addF_mem.2 (.inr ⟨rfl, q⟩))), fun q => addF_mem.2 (.inr ⟨rfl, q⟩)⟩
        · have := hj j (by omega) hjo
          exact ⟨fun q => keep _ (this.1 q), fun q => keep _ (this.2 q)⟩)
      exact ⟨fun a ha => b1 a (keep a ha), b2, b3, b4⟩
    · rw [if_neg c]
      exact ⟨fun a ha => ha, hd, hr, stop i out (by omega) hj⟩
theorem bfsF_iff {h : List Fault} (hlk : Links h) {f : Int} (h0 : 0 ≤ f) (hf : f < h.length) : (bfsF h f).Nodup ∧ ∀ a, a ∈ bfsF h f ↔ Rch h f a := by
  obtain ⟨b1, b2, b3, b4⟩ := bfsG_clos hlk f (h.length + 1) 0 [f] (Nums.one h0 hf) (by simp) (by omega) (fun a ha => by simp at ha; subst ha; exact .refl) (fun j hj => by omega)
  refine ⟨b2, fun a => ⟨b3 a, fun r => ?_⟩⟩
  induction r with
  | refl => exact b1 f (by simp)
  | cause _ q ih => exact (b4 _ ih).1 q
  | ctx _ q ih => exact (b4 _ ih).2 q
end
section
open Go Go.Sim
set_option maxRecDepth 100000

theorem validH_all {t : List Class} {h : List Fault} (hv : validH t h = true) : (List.range h.length).all (faultOk t h) = true ∧ (List.range h.length).all (lastOk h) = true ∧ validT t = true ∧ h.length ≤ 24 := by
  simpa only [validH, Bool.and_eq_true, decide_eq_true_eq] using hv
theorem validH_cls {t : List Class} {h : List Fault} (hv : validH t h = true) : ∀ k, k < h.length → 0 ≤ (h.getD k default).cls ∧ (h.getD k default).cls < t.length ∧ 0 ≤ (h.getD k default).code ∧ (h.getD k default).code < 100 := fun k hk => by
  have := (List.all_eq_true.1 (validH_all hv).1) k (by simp [hk])
  simp only [faultOk, hasF, inR, Bool.and_eq_true, decide_eq_true_eq] at this
  omega
theorem inR_len {f : Int} {n : Nat} : inR f 0 (n - 1) = true ↔ 0 ≤ f ∧ f < n := by
  simp only [inR, Bool.and_eq_true, decide_eq_true_eq]; omega
end
section
open Go Go.Sim
set_option maxRecDepth 100000

/-- Where a number stands in a list; -1 if it does not. -/
def posF (S : List Int) (a : Int) : Int := idxF (fun x => decide (a = x)) S
theorem posF_mem {S : List Int} {a : Int} (h : a ∈ S) : 0 ≤ posF S a ∧ posF S a < S.length ∧ S.getD (posF S a).toNat default = a := by
  unfold posF
  induction S with
  | nil => cases h
  | cons b S ih =>
    simp only [idxF]
    by_cases e : a = b
    · rw [if_pos (by simpa using e)]
      refine ⟨by omega, by simp only [List.length_cons]; omega, ?_⟩
      show (b :: S).getD 0 default = a
      rw [List.getD_cons_zero, e]
    · have hm : a ∈ S := by
        rcases List.mem_cons.1 h with q | q
        · exact absurd q e
        · exact q
      obtain ⟨i1, i2, i3⟩ := ih hm
      rw [if_neg (by simpa using e), if_neg (by omega)]
      refine ⟨by omega, by simp only [List.length_cons]; omega, ?_⟩
      have : (idxF (fun x => decide (a = x)) S + 1).toNat = (idxF (fun x => decide (a = x)) S).toNat + 1 := by omega
      rw [this, List.getD_cons_succ, i3]
theorem posF_none {S : List Int} {a : Int} (h : a ∉ S) : posF S a = -1 := by
  unfold posF
  rw [idxF_neg, List.any_eq_false]
  intro x hx
  have : ¬ a = x := by rintro rfl; exact h hx
  simpa using this
theorem posF_inj {S : List Int} {a b : Int} (ha : a ∈ S) (hb : b ∈ S) (h : posF S a = posF S b) : a = b := by
  have h1 := (posF_mem ha).2.2
  have h2 := (posF_mem hb).2.2
  rw [h] at h1
  rw [← h1, h2]
theorem posF_at {S : List Int} (hd : S.Nodup) {k : Nat} (hk : k < S.length) : posF S (S.getD k default) = k := by
  have hm : S.getD k default ∈ S := by rw [List.getD_eq_getElem?_getD, List.getElem?_eq_getElem hk]; exact List.getElem_mem hk
  obtain ⟨h1, h2, h3⟩ := posF_mem hm
  obtain ⟨j, hj⟩ : ∃ j : Nat, posF S (S.getD k default) = j := ⟨(posF S (S.getD k default)).toNat, by omega⟩
  rw [hj] at h1 h2 h3 ⊢
  have hj2 : j < S.length := by omega
  rw [Int.toNat_natCast, List.getD_eq_getElem?_getD, List.getD_eq_getElem?_getD, List.getElem?_eq_getElem hj2, List.getElem?_eq_getElem hk] at h3
  have h4 : S[j] = S[k] := by simpa using h3
  rcases Nat.lt_trichotomy j k with q | q | q
  · exact absurd h4 ((List.pairwise_iff_getElem.1 hd) j k hj2 hk q)
  · omega
  · exact absurd h4.symm ((List.pairwise_iff_getElem.1 hd) k j hk hj2 q)
theorem isoL_len (h : List Fault) (S : List Int) : (isoL h S).length = S.length := by simp [isoL]
theorem isoL_at {h : List Fault} {S : List Int} {k : Nat} (hk : k < S.length) : (isoL h S).getD k default = isoAt h S (S.getD k default) := by
  simp [isoL, List.getD_eq_getElem?_getD, hk]
theorem iso_cause {h : List Fault} {S : List Int} {a : Int} (ha : a ∈ S) : causeOf (isoL h S) (posF S a) = posF S (causeOf h a) := by
  obtain ⟨h1, h2, h3⟩ := posF_mem ha
  unfold causeOf
  rw [isoL_at (by omega), h3]
  rfl
theorem iso_ctx {h : List Fault} {S : List Int} {a : Int} (ha : a ∈ S) : ctxOf (isoL h S) (posF S a) = posF S (ctxOf h a) := by
  obtain ⟨h1, h2, h3⟩ := posF_mem ha
  unfold ctxOf
  rw [isoL_at (by omega), h3]
  rfl
theorem walk_iso {S : List Int} {n : Nat} (hS : ∀ a ∈ S, 0 ≤ a ∧ a < n) {nx nx' : Int → Int} (hnx : ∀ a ∈ S, nx a ∈ S ∨ nx a < 0) (hiso : ∀ a ∈ S, nx' (posF S a) = posF S (nx a)) :
    ∀ (fuel fuel' : Nat) (out : List Int) (f : Int), (f ∈ S ∨ f < 0) → (∀ a ∈ out, a ∈ S) → freeN n out < fuel → freeN S.length (out.map (posF S)) < fuel' → walkG nx' fuel' (out.map (posF S)) (posF S f) = (walkG nx fuel out f).map (posF S)
  | 0, fuel', out, f, _, _, h1, _ => by omega
  | fuel + 1, 0, out, f, _, _, _, h2 => by omega
  | fuel + 1, fuel' + 1, out, f, hf, ho, h1, h2 => by
    simp only [walkG]
    rcases hf with hf | hf
    · have hp := posF_mem hf
      have hany : ((out.map (posF S)).any fun x => decide (posF S f = x)) = (out.any fun x => decide (f = x)) := by
        rw [List.any_map, Bool.eq_iff_iff, List.any_eq_true, List.any_eq_true]
        constructor
        · rintro ⟨a, ha, q⟩
          exact ⟨a, ha, by simp only [Function.comp, decide_eq_true_eq] at q; simpa using posF_inj hf (ho a ha) q⟩
        · rintro ⟨a, ha, q⟩
          exact ⟨a, ha, by simp only [decide_eq_true_eq] at q; subst q; simp⟩
      rw [hany]
      cases hb : out.any fun x => decide (f = x)
      · rw [if_pos ⟨hp.1, rfl⟩, if_pos ⟨(hS f hf).1, rfl⟩, hiso f hf]
        have l1 := freeN_lt (hS f hf).1 (hS f hf).2 hb
        have l2 := freeN_lt (out := out.map (posF S)) hp.1 hp.2.1 (by rw [hany, hb])
        have e : out.map (posF S) ++ [posF S f] = (out ++ [f]).map (posF S) := by simp
        rw [e] at l2 ⊢
        refine walk_iso hS hnx hiso fuel fuel' (out ++ [f]) (nx f) (hnx f hf) (fun a ha => ?_) (by omega) (by omega)
        rcases List.mem_append.1 ha with q | q
        · exact ho a q
        · simp at q; subst q; exact hf
      · rw [if_neg (fun q => by cases q.2), if_neg (fun q => by cases q.2)]
    · have hn : f ∉ S := fun q => by have := hS f q; omega
      rw [posF_none hn, if_neg (by omega), if_neg (by omega)]
/-- What a set of faults reaches is in it. -/
structure Closed (h : List Fault) (S : List Int) : Prop where
  mem : ∀ a ∈ S, 0 ≤ a ∧ a < h.length
  cause : ∀ a ∈ S, causeOf h a ∈ S ∨ causeOf h a < 0
  ctx : ∀ a ∈ S, ctxOf h a ∈ S ∨ ctxOf h a < 0
theorem Closed.pos {h : List Fault} {S : List Int} (hc : Closed h S) {b : Int} (hb : b ∈ S ∨ b < 0) : (0 ≤ posF S b ↔ 0 ≤ b) ∧ (b < 0 → posF S b = -1) := by
  rcases hb with q | q
  · have h1 := (posF_mem q).1
    have h2 := (hc.mem b q).1
    exact ⟨⟨fun _ => h2, fun _ => h1⟩, fun w => by omega⟩
  · have hn : b ∉ S := fun w => by have := (hc.mem b w).1; omega
    rw [posF_none hn]
    exact ⟨⟨fun w => by omega, fun w => by omega⟩, fun _ => rfl⟩
theorem closed_reach {h : List Fault} (hlk : Links h) {f : Int} (h0 : 0 ≤ f) (hf : f < h.length) : Closed h (sortI (bfsF h f)) ∧ f ∈ sortI (bfsF h f) ∧ (sortI (bfsF h f)).Nodup := by
  obtain ⟨b1, b2⟩ := bfsF_iff hlk h0 hf
  have hn := bfsF_nums hlk h0 hf
  have m : ∀ a, a ∈ sortI (bfsF h f) ↔ Rch h f a := fun a => by rw [sortI_mem, b2]
  refine ⟨⟨fun a ha => hn.mem a (sortI_mem.1 ha), fun a ha => ?_, fun a ha => ?_⟩, (m f).2 .refl, (List.mergeSort_perm _ _).nodup_iff.2 b1⟩
  · by_cases c : causeOf h a < 0
    · exact .inr c
    · exact .inl ((m _).2 (.cause ((m a).1 ha) (by omega)))
  · by_cases c : ctxOf h a < 0
    · exact .inr c
    · exact .inl ((m _).2 (.ctx ((m a).1 ha) (by omega)))
theorem Closed.links {h : List Fault} {S : List Int} (hd : S.Nodup) : Links (isoL h S) := by
  intro k hk
  rw [isoL_len] at hk ⊢
  rw [isoL_at hk]
  exact ⟨idxF_lt _ _, idxF_lt _ _⟩
theorem Closed.rch {h : List Fault} {S : List Int} (hc : Closed h S) {f a : Int} (hf : f ∈ S) (r : Rch h f a) : a ∈ S ∧ Rch (isoL h S) (posF S f) (posF S a) := by
  induction r with
  | refl => exact ⟨hf, .refl⟩
  | @cause a r q ih =>
    obtain ⟨i1, i2⟩ := ih
    have hm := (hc.cause a i1).resolve_right (by omega)
    refine ⟨hm, ?_⟩
    rw [← iso_cause i1]
    exact .cause i2 (by rw [iso_cause i1]; exact (posF_mem hm).1)
  | @ctx a r q ih =>
    obtain ⟨i1, i2⟩ := ih
    have hm := (hc.ctx a i1).resolve_right (by omega)
    refine ⟨hm, ?_⟩
    rw [← iso_ctx i1]
    exact .ctx i2 (by rw [iso_ctx i1]; exact (posF_mem hm).1)
/-- The isolated heap is reached whole: sorted, it is all numbers in order. -/
theorem reach_all {h : List Fault} (hlk : Links h) {f : Int} (h0 : 0 ≤ f) (hf : f < h.length) :
    sortI (bfsF (isoL h (sortI (bfsF h f))) (posF (sortI (bfsF h f)) f)) = (List.range (sortI (bfsF h f)).length).map (fun (k : Nat) => (k : Int)) := by
  obtain ⟨hc, hm, hd⟩ := closed_reach hlk h0 hf
  have hall : ∀ a ∈ sortI (bfsF h f), Rch h f a := fun a ha => ((bfsF_iff hlk h0 hf).2 a).1 (sortI_mem.1 ha)
  generalize hS : sortI (bfsF h f) = S at hc hm hd hall ⊢
  obtain ⟨p1, p2, p3⟩ := posF_mem hm
  have hl2 : Links (isoL h S) := Closed.links hd
  obtain ⟨b1, b2⟩ := bfsF_iff hl2 p1 (by rw [isoL_len]; exact p2)
  have hn := bfsF_nums hl2 p1 (by rw [isoL_len]; exact p2)
  have s2 : ((List.range S.length).map (fun (k : Nat) => (k : Int))).Pairwise (fun a b => a < b) := by
    rw [List.pairwise_map]
    exact List.pairwise_lt_range.imp (fun q => by omega)
  have hsf : sortedF ((List.range S.length).map (fun (k : Nat) => (k : Int))) = (List.range S.length).map (fun (k : Nat) => (k : Int)) := by
    have a2 := sortedF_asc ((List.range S.length).map (fun (k : Nat) => (k : Int)))
    have pm : (sortedF ((List.range S.length).map (fun (k : Nat) => (k : Int)))).Perm ((List.range S.length).map (fun (k : Nat) => (k : Int))) :=
      (List.perm_ext_iff_of_nodup (a2.imp (fun q => by omega)) (s2.imp (fun q => by omega))).2 fun a => sortedF_iff
    exact pm.eq_of_pairwise (fun a b _ _ q1 q2 => by omega) (a2.imp (fun q => Int.le_of_lt q)) (s2.imp (fun q => Int.le_of_lt q))
  rw [← hsf]
  refine sort_ext b1 fun a => ?_
  rw [List.mem_map]
  constructor
  · intro ha
    have := hn.mem a ha
    rw [isoL_len] at this
    exact ⟨a.toNat, by simp; omega, by omega⟩
  · rintro ⟨k, hk, rfl⟩
    rw [List.mem_range] at hk
    rw [b2, ← posF_at hd hk]
    have hkm : S.getD k default ∈ S := by rw [List.getD_eq_getElem?_getD, List.getElem?_eq_getElem hk]; exact List.getElem_mem hk
    exact (hc.rch hm (hall _ hkm)).2
def natsF (n : Nat) : List Int := (List.range n).map (fun (k : Nat) => (k : Int))
theorem Closed.last {h : List Fault} {S : List Int} (hc : Closed h S) (hcm : Calm h) {a : Int} (ha : a ∈ S) : ctxOf (isoL h S) (lastI (chainF (isoL h S) (posF S a))) = -1 := by
  have hw : chainF (isoL h S) (posF S a) = (chainF h a).map (posF S) := by
    unfold chainF
    rw [isoL_len]
    exact walk_iso (S := S) (n := h.length) hc.mem (nx := ctxOf h) (nx' := ctxOf (isoL h S)) hc.ctx (fun a ha => iso_ctx ha) (h.length + 1) (S.length + 1) [] a (.inl ha) (fun a ha => by cases ha) (by have := freeN_nil h.length; omega) (by have := freeN_nil S.length; simp only [List.map_nil]; omega)
  have h0 := hc.mem a ha
  have hne := List.length_pos_iff.2 (chainF_ne (h := h) h0.1)
  have hl : (chainF h a).length - 1 < (chainF h a).length := by omega
  have hmem : ∀ b ∈ chainF h a, b ∈ S := by
    intro b hb
    have key := walkG_mem (nx := ctxOf h) (p := fun a => a ∈ S ∨ a < 0) (fun a a0 ha => hc.ctx a (ha.resolve_right (by omega))) (h.length + 1) [] a (.inl ha) b hb
    rcases key with q | ⟨q0, q⟩
    · cases q
    · exact q.resolve_right (by omega)
  have hlm : lastI (chainF h a) ∈ S := hmem _ (by unfold lastI; rw [List.getD_eq_getElem?_getD, List.getElem?_eq_getElem hl]; exact List.getElem_mem hl)
  have e : lastI ((chainF h a).map (posF S)) = posF S (lastI (chainF h a)) := by
    unfold lastI
    rw [List.length_map, List.getD_eq_getElem?_getD, List.getD_eq_getElem?_getD, List.getElem?_map, List.getElem?_eq_getElem hl]; rfl
  have hlast := hcm.last a.toNat (by omega)
  rw [lastOk, decide_eq_true_eq, Int.toNat_of_nonneg h0.1] at hlast
  rw [hw, e, iso_ctx hlm, hlast]
  exact (hc.pos (.inr (by omega))).2 (by omega)
theorem valid_isoG {t : List Class} {h : List Fault} {S : List Int} (v1 : (List.range h.length).all (faultOk t h) = true) (hcm : Calm h) (v3 : validT t = true) (hc : Closed h S) (hd : S.Nodup) (hlen : S.length ≤ 24) : validH t (isoL h S) = true := by
  have link : ∀ (k : Nat), k < S.length → ∀ b : Int, (b ∈ S ∨ b < 0) → b ≠ S.getD k default → linkF S.length k (posF S b) = true := by
    intro k hk b hb hne
    have hkm : S.getD k default ∈ S := by rw [List.getD_eq_getElem?_getD, List.getElem?_eq_getElem hk]; exact List.getElem_mem hk
    rcases hb with q | q
    · obtain ⟨p1, p2, p3⟩ := posF_mem q
      have hne2 : ¬ posF S b = k := fun e => hne (posF_inj q hkm (by rw [e, posF_at hd hk]))
      simp only [linkF, inR, Bool.or_eq_true, Bool.and_eq_true, decide_eq_true_eq, Bool.not_eq_true', decide_eq_false_iff_not]
      omega
    · rw [(hc.pos (.inr q)).2 q]; simp [linkF]
  simp only [validH, Bool.and_eq_true, decide_eq_true_eq, List.all_eq_true, List.mem_range, isoL_len]
  refine ⟨fun k hk => ?_, fun k hk => ?_, v3, hlen⟩
  · have hkm : S.getD k default ∈ S := by rw [List.getD_eq_getElem?_getD, List.getElem?_eq_getElem hk]; exact List.getElem_mem hk
    have hin := hc.mem _ hkm
    have hf := (List.all_eq_true.1 v1) (S.getD k default).toNat (List.mem_range.2 (by omega))
    simp only [faultOk, Bool.and_eq_true] at hf ⊢
    rw [isoL_at hk, isoL_len]
    have n1 : causeOf h (S.getD k default) ≠ S.getD k default := by
      have := hf.1.2
      unfold causeOf
      simp only [linkF, inR, Bool.or_eq_true, Bool.and_eq_true, decide_eq_true_eq, Bool.not_eq_true', decide_eq_false_iff_not] at this
      omega
    have n2 : ctxOf h (S.getD k default) ≠ S.getD k default := by
      have := hf.2
      unfold ctxOf
      simp only [linkF, inR, Bool.or_eq_true, Bool.and_eq_true, decide_eq_true_eq, Bool.not_eq_true', decide_eq_false_iff_not] at this
      omega
    exact ⟨⟨hf.1.1, link k hk _ (hc.cause _ hkm) n1⟩, link k hk _ (hc.ctx _ hkm) n2⟩
  · have hkm : S.getD k default ∈ S := by rw [List.getD_eq_getElem?_getD, List.getElem?_eq_getElem hk]; exact List.getElem_mem hk
    have := hc.last hcm hkm
    rw [posF_at hd hk] at this
    rw [lastOk, decide_eq_true_eq]
    exact this
end
section
open Go Go.Sim
set_option maxRecDepth 100000

theorem calm_heap {fs : List Fault} (ho : heapOk fs) : Calm fs := by
  refine .of_ends (fun k hk => by have := ho k hk; omega) (fun k hk => ?_)
  have key : ∀ n : Nat, ∀ k : Nat, k < n → k < fs.length → Ends (ctxOf fs) k := by
    intro n
    induction n with
    | zero => intro k hk; omega
    | succ n ih =>
      intro k hk hl
      obtain ⟨o1, o2, o3⟩ := ho k hl
      refine .step ?_
      have e : ctxOf fs k = (fs.getD k default).ctx := by unfold ctxOf; rw [Int.toNat_natCast]
      rw [e]
      by_cases c : (fs.getD k default).ctx < 0
      · exact .neg c
      · obtain ⟨m, hm⟩ : ∃ m : Nat, (fs.getD k default).ctx = m := ⟨(fs.getD k default).ctx.toNat, by omega⟩
        rw [hm]
        exact ih m (by omega) (by omega)
  exact key (k + 1) k (by omega) hk
/-- What a program ends with. -/
structure RunOut (t : List Class) (r : En × RS) (R : Res) : Prop where
  valid : validH t R.heap = true
  low : 0 ≤ R.val
  high : R.val < R.heap.length
  reach : sortI (bfsF R.heap R.val) = natsF R.heap.length
  cls : (R.heap.getD R.val.toNat default).cls = clsOf r.2 r.1.val
  code : (R.heap.getD R.val.toNat default).code = (r.2.fs.getD r.1.val.toNat default).code
theorem run_out {t : List Class} {r : En × RS} (ht : validT t = true) (hf : FsOk t r.2.fs) (h2 : r.1.ed = 2) (h0 : 0 ≤ r.1.val) (h1 : r.1.val < r.2.fs.length) (hd : dep r.2.fs r.1.val ≤ 24) : RunOut t r (resOf r) := by
  have ho := hf.ho
  have hlk : Links r.2.fs := heapOk_links ho
  obtain ⟨hc, hm, hn⟩ := closed_reach hlk h0 h1
  have hra := reach_all hlk h0 h1
  have hlen : (sortI (bfsF r.2.fs r.1.val)).length ≤ 24 := by
    rw [sort_dch ho h0 h1, List.length_reverse]; exact hd
  rw [res_two h2]
  unfold isoR
  generalize sortI (bfsF r.2.fs r.1.val) = S at hc hm hn hra hlen ⊢
  obtain ⟨p1, p2, p3⟩ := posF_mem hm
  have hat : (isoL r.2.fs S).getD (posF S r.1.val).toNat default = isoAt r.2.fs S r.1.val := by rw [isoL_at (by omega), p3]
  refine ⟨?_, p1, ?_, ?_, ?_, ?_⟩
  · refine valid_isoG ?_ (calm_heap ho) ht hc hn hlen
    rw [List.all_eq_true]
    intro k hk
    have hk' := List.mem_range.1 hk
    obtain ⟨o1, o2, o3⟩ := ho k hk'
    obtain ⟨c1, c2⟩ := hf.cls k hk'
    simp only [faultOk, Bool.and_eq_true]
    refine ⟨⟨⟨c1, c2⟩, ?_⟩, ?_⟩
    · rw [o1]; simp [linkF]
    · simp only [linkF, inR, Bool.or_eq_true, Bool.and_eq_true, decide_eq_true_eq, Bool.not_eq_true', decide_eq_false_iff_not]
      omega
  · show posF S r.1.val < (isoL r.2.fs S).length
    rw [isoL_len]; exact p2
  · show sortI (bfsF (isoL r.2.fs S) (posF S r.1.val)) = natsF (isoL r.2.fs S).length
    rw [hra, isoL_len]; rfl
  · show ((isoL r.2.fs S).getD (posF S r.1.val).toNat default).cls = _
    rw [hat]; rfl
  · show ((isoL r.2.fs S).getD (posF S r.1.val).toNat default).code = _
    rw [hat]; rfl
theorem run_valid {t : List Class} {p : List Line} (h : ValidP t p) (h2 : (runP t p).1.ed = 2) : RunOut t (runP t p) (resOf (runP t p)) := by
  have hg := runP_goes h
  exact run_out h.1 hg.ok h2 (hg.val h2).1 (hg.val h2).2 (dep_top h h2)
end
end
section
set_option maxRecDepth 100000
attribute [local go_sem ↓] aw_skip aw_ret aw_exit aw_region aw_draw aw_seq aw_block aw_loop aw_cond frz_nil frz_cons sq_normal sq_ret sq_exit exB_normal exB_ret exB_same exB_other retQ_ret retQ_normal ret0_ret ret0_normal ao_nil go1 g_move g_assign g_pick g_build g_load g_binOp g_unOp g_convert g_fieldAddr g_field g_indexAddr g_index g_extract g_lookup g_slice g_nilCheck g_len g_makeFunc h_call h_append h_alloc h_box h_buildSlice h_makeSlice h_store gV i_box i_buildSlice i_move i_assign i_build i_load i_binOp i_unOp i_convert i_fieldAddr i_field i_indexAddr i_index i_extract i_lookup i_makeMap i_mapUpdate i_slice i_nilCheck i_makeFunc i_len i_max i_min i_alloc i_makeSlice i_store i_append i_call i_pick boxI boxA buildSliceI buildSliceA makeSliceA makeMapA allocA storeA p_move p_assign p_pick p_build p_load p_binOp p_unOp p_convert p_fieldAddr p_field p_indexAddr p_index p_extract p_lookup p_makeMap p_mapUpdate p_slice p_nilCheck p_makeFunc p_len p_max p_min p_alloc p_box p_buildSlice p_makeSlice p_store p_append p_call x_nil x_go1 x_g0 x_g1 x_g2 x_g3 x_s0 x_s1 x_s2 x_s3 u_move u_assign u_pick u_build u_load u_binOp u_unOp u_convert u_fieldAddr u_field u_indexAddr u_index u_extract u_lookup u_slice u_nilCheck u_makeFunc u_len u_buildSlice x_s4 x_g4 rq_normal rq_ret rq_exit aw_range
attribute [local go_sem] frzV_sl frzK_some set_none set_other AHeap.set_self set_del set_set cnd_t cnd_f cnd_b retA_one retA_two retA_three retA_four retA_nil gIf_b mrgV_b mrgV_wh mrgV_U gIf_U gIf_wh mrgB_f mrgB_some mrgB_if wh_true wh_false keepA_some keepA_if gD_zero gD_succ gT_some bxA_t bxA_f callA_fn ev_tmp ev_const ev_global ev_func oc_bool oc_int oc_string oc_nil oc_nilptr oc_nilfunc cl_bool cl_int cl_string cl_nil updO_some updO_none upd_same upd_other init_at pickA_b pickA_wh selA_t selA_f selA_and selA_or selA_orn selA_orm selA_bb selA_ii beqt b_add b_sub b_mul b_and b_or b_xor b_eql b_neq b_lss b_leq b_gtr b_geq b_quo b_rem b_shr b_seql b_sneq b_sadd b_beql b_bneq b_aeql b_aneq u_not u_neg isConstOp eqA eqCellV List.getD_cons_zero List.getD_cons_succ List.map_cons List.map_nil List.nil_append List.cons_append List.append_nil if_true if_false Option.map_some Option.map_none ne_eq not_false_eq_true oneA ldv ld1v ld1s wr1s ldRow stRow row_lit row_agg row_vsl row_sl row_ptr row_fn one_I one_B one_S one_vsl one_sl one_ptr one_fn extractA okA rI rS rU rClass rFault rExit rStart rLine Int.toNat_natCast List.length_cons List.length_nil List.length_map List.all_cons List.all_nil Bool.and_true Nat.zero_add List.getElem?_cons_zero List.getElem?_cons_succ List.take_succ_cons List.take_zero List.drop_succ_cons List.drop_zero and_self true_and and_true implies_true decide_eq_true_eq decide_eq_false_iff_not Bool.or_eq_true Bool.or_eq_false_iff Bool.and_eq_true Bool.not_eq_true' Bool.not_eq_false' beq_false decide_true decide_false Int.ofNat_lt Int.ofNat_le Int.natCast_nonneg Bool.or_true Bool.or_false Bool.true_or Bool.false_or beq_self_eq_true List.drop_one Bool.not_true Bool.not_false Bool.not_not Bool.false_eq_true Bool.true_eq_false false_implies true_implies Bool.true_and Bool.false_and Bool.and_false not_true_eq_false Int.natCast_eq_zero Int.natCast_pos Int.natCast_zero false_and and_false or_false false_or or_true true_or Bool.or_self none_le_iff List.replicate_zero Int.toNat_zero List.replicate_succ buildRows List.set_cons_zero List.set_cons_succ List.set_nil List.mapM_nil maxLen_eq Nat.zero_le Nat.mul_one Nat.one_mul bldA fillA spliceA List.take_nil List.drop_nil List.getElem?_nil ld1o wr1o bldSliceA le_same cv_i cvI_t quietT_fn qvd_some ld_o ldO_1 ldO_l wr_o wrO_1 set_2 set_3 set_4 putL_nil putL_cons List.zip_cons_cons List.zip_nil_left List.zip_nil_right List.toList_toArray frzV_set ti1 ti2 tk2 ti3 te3 ts3 tk3 tz3 ti4 tb4 ti5 tk5 tz5 ti9 te9 ts9 tk9 tz9 ti12 tk12 ti13 tp13 tf13_0 tf13_1 ti20 ti21 tk21 tz21 ti22 te22 tz22 ti23 te23 ti24 tp24 tf24_0 ti25 tp25 tf25_0 ti26 te26 ti28 ti29 te29 ti30 te30 ti31 tp31 tf31_0 ti32 tp32 tf32_0 ti33 tp33 tf33_0 tf33_1 tf33_2 tf33_3 ti34 tp34 tf34_0 tf34_1 tf34_2 tf34_3 ti35 ti36 ti37 ti38 ti40 ti42 ti43 ti44 tq44 tp44 tf44_0 tf44_1 tf44_2 ti45 tq45 tp45 tf45_0 tf45_1 tf45_2 ti47 ti48 ti49 tq49 tp49 tf49_0 tf49_1 tf49_2 tf49_3 ti50 tq50 tp50 tf50_0 tf50_1 tf50_2 tf50_3 ti51 ti52 ti54 ti55 ti56 ti57 te57 ti59 ti60 ti61 ti62 ti63 ti64 ti65 ti66 ti67 ti68 tq68 tp68 tf68_0 tf68_1 ti69 tq69 tp69 tf69_0 tf69_1 ti70 ti71 ti72 ti73 ti74 ti75 ti77 ti78 ti79 ti80 ti81 ti82 ti83 ti84 ti85 tq85 tp85 tf85_0 tf85_1 tf85_2 tf85_3 tf85_4 ti86 tq86 tp86 tf86_0 tf86_1 tf86_2 tf86_3 tf86_4 ti87 ti88 ti89 ti90 ti91 ti93 ti94 ti95 ti96 ti97 tq97 tp97 tf97_0 tf97_1 tf97_2 ti98 tq98 tp98 tf98_0 tf98_1 tf98_2 ti99 ti100 ti101 ti102 ti103 ti104 ti105 ti106 ti107 tp107 tf107_0 tf107_1 ti108 tp108 tf108_0 tf108_1 ti109 tp109 tf109_0 tf109_1 tf109_2 tf109_3 tf109_4 ti110 tp110 tf110_0 tf110_1 tf110_2 tf110_3 tf110_4 ti111 ti113 ti114 ti115 ti116 ti117 ti118 ti119 ti120 tp120 tf120_0 tf120_1 tf120_2 tf120_3 ti121 tp121 tf121_0 tf121_1 tf121_2 tf121_3 ti122 tq122 tp122 tf122_0 tf122_1 ti123 tq123 tp123 tf123_0 tf123_1 ti124 ti125 ti126 tq126 tp126 tf126_0 tf126_1 ti127 tq127 tp127 tf127_0 tf127_1 ti128 ti129 ti130 ti131 ti132 ti133 te133 ti134 ti135 ti136 ti137 ti138 ti139 ti140 ti141 ti142 ti143 ti144 tp144 tf144_0 tf144_1 tf144_2 ti145 tp145 tf145_0 tf145_1 tf145_2 ti146 ti147 ti148 ti149 ti150 te150 ti151 ti152 ti153 ti154 ti155 ti156 ti157 ti158 ti159 ti160 ti161 ti162 ti163 ti164 ti165 ti166 ti167 ti168 ti169 ti170 ti171 ti172 ti173 ti174 ti175 tk175 tz175 ti176 ti177 ti178 ti179 ti180 tk180 ti182 ti183 ti184 ti186 ti187 ti188 tk188 tz188 ti189 ti190 tk190 tz190 ti191 tk191 ti192 ti193 ti194 ti195 ti196 ti197 ti199 ti200 ti206 ti210 ti215 fp13_0 fv13_0 fp13_1 fv13_1 fp24_0 fv24_0 fp25_0 fv25_0 fp31_0 fv31_0 fp32_0 fv32_0 fp33_0 fv33_0 fp33_1 fv33_1 fp33_2 fv33_2 fp33_3 fv33_3 fp34_0 fv34_0 fp34_1 fv34_1 fp34_2 fv34_2 fp34_3 fv34_3 fp44_0 fv44_0 fp44_1 fv44_1 fp44_2 fv44_2 fp45_0 fv45_0 fp45_1 fv45_1 fp45_2 fv45_2 fp49_0 fv49_0 fp49_1 fv49_1 fp49_2 fv49_2 fp49_3 fv49_3 fp50_0 fv50_0 fp50_1 fv50_1 fp50_2 fv50_2 fp50_3 fv50_3 fp68_0 fv68_0 fp68_1 fv68_1 fp69_0 fv69_0 fp69_1 fv69_1 fp85_0 fv85_0 fp85_1 fv85_1 fp85_2 fv85_2 fp85_3 fv85_3 fp85_4 fv85_4 fp86_0 fv86_0 fp86_1 fv86_1 fp86_2 fv86_2 fp86_3 fv86_3 fp86_4 fv86_4 fp97_0 fv97_0 fp97_1 fv97_1 fp97_2 fv97_2 fp98_0 fv98_0 fp98_1 fv98_1 fp98_2 fv98_2 fp107_0 fv107_0 fp107_1 fv107_1 fp108_0 fv108_0 fp108_1 fv108_1 fp109_0 fv109_0 fp109_1 fv109_1 fp109_2 fv109_2 fp109_3 fv109_3 fp109_4 fv109_4 fp110_0 fv110_0 fp110_1 fv110_1 fp110_2 fv110_2 fp110_3 fv110_3 fp110_4 fv110_4 fp120_0 fv120_0 fp120_1 fv120_1 fp120_2 fv120_2 fp120_3 fv120_3 fp121_0 fv121_0 fp121_1 fv121_1 fp121_2 fv121_2 fp121_3 fv121_3 fp122_0 fv122_0 fp122_1 fv122_1 fp123_0 fv123_0 fp123_1 fv123_1 fp126_0 fv126_0 fp126_1 fv126_1 fp127_0 fv127_0 fp127_1 fv127_1 fp144_0 fv144_0 fp144_1 fv144_1 fp144_2 fv144_2 fp145_0 fv145_0 fp145_1 fv145_1 fp145_2 fv145_2 lv22 ll22 is22 ix22 sh22 so22 sb22 sm22 sp22 lv23 ll23 is23 ix23 sh23 so23 sb23 sm23 sp23 lv26 ll26 is26 ix26 sh26 so26 sb26 sm26 sp26 lv29 ll29 is29 ix29 sh29 so29 sb29 sm29 sp29 lv30 ll30 is30 ix30 sh30 so30 sb30 sm30 sp30 lv57 ll57 is57 ix57 sh57 so57 sb57 sm57 sp57 lv133 ll133 is133 sp133 lv150 ll150 is150 ix150 sh150 so150 sb150 sm150 sp150 xs9 ls9 sx9 sy9 sz9
section
open Go Go.Sim
set_option maxRecDepth 100000
set_option maxHeartbeats 4000000

theorem c_classesIn1 (t : List Class) (cl : Bool) (a : Int) (H : AHeap) : ACalls Tryz.prog 98 [I a, .vptr [[.vsl (t.map rClass) cl]] 0 0] H fun r H' => r = B (!hasF t a) ∧ H' = H := by
  refine acalls_of0 Tryz.func98 rfl (by kernel_rfl) rfl rfl (awp_sound (fz := fun _ => []) (im := fun _ => false) mixed _ _ _ _ (by kernel_rfl) ?_)
  simp +contextual -dsimp -implicitDefEqProofs (maxSteps := 5000000) only [go_sem, reduceIte, reduceCtorEq, Nat.reduceEqDiff, Nat.reduceBEq, Nat.reduceAdd, Nat.reduceLeDiff, Nat.reduceMul, Nat.reduceLT, Int.reduceEq, Int.reduceLT, Int.reduceLE]
  exact (c_has _ _ _ _).det (by simp +contextual -dsimp -implicitDefEqProofs (maxSteps := 5000000) only [go_sem, reduceIte, reduceCtorEq, Nat.reduceEqDiff, Nat.reduceBEq, Nat.reduceAdd, Nat.reduceLeDiff, Nat.reduceMul, Nat.reduceLT, Int.reduceEq, Int.reduceLT, Int.reduceLE])
theorem c_classesIn (t : List Class) (cl : Bool) (l : List Int) (cl2 : Bool) (H : AHeap) (hn : namesOk t) : ACalls Tryz.prog 55 [aTree t cl, .vsl (l.map rI) cl2] H fun r H' => r = B (validT t && l.all (hasF t)) ∧ H' = H := by
  refine acalls_of0 Tryz.func55 rfl (by kernel_rfl) rfl rfl (awp_sound (fz := fun _ => []) (im := fun s => s == 2) mixed _ _ _ _ (by kernel_rfl) ?_)
  simp +contextual -dsimp -implicitDefEqProofs (maxSteps := 5000000) only [go_sem, reduceIte, reduceCtorEq, Nat.reduceEqDiff, Nat.reduceBEq, Nat.reduceAdd, Nat.reduceLeDiff, Nat.reduceMul, Nat.reduceLT, Int.reduceEq, Int.reduceLT, Int.reduceLE]
  refine (c_ValidTree t cl _ hn).det ?_
  cases e1 : validT t
  · simp +contextual -dsimp -implicitDefEqProofs (maxSteps := 5000000) only [go_sem, reduceIte, reduceCtorEq, Nat.reduceEqDiff, Nat.reduceBEq, Nat.reduceAdd, Nat.reduceLeDiff, Nat.reduceMul, Nat.reduceLT, Int.reduceEq, Int.reduceLT, Int.reduceLE]
  · simp +contextual -dsimp -implicitDefEqProofs (maxSteps := 5000000) only [go_sem, reduceIte, reduceCtorEq, Nat.reduceEqDiff, Nat.reduceBEq, Nat.reduceAdd, Nat.reduceLeDiff, Nat.reduceMul, Nat.reduceLT, Int.reduceEq, Int.reduceLT, Int.reduceLE]
    refine (c_ContainsFuncInt l cl2 _ _ (fun a => !hasF t a) _ (fun c => c_classesIn1 t cl c _)).det ?_
    simp +contextual -dsimp -implicitDefEqProofs (maxSteps := 5000000) only [go_sem, reduceIte, reduceCtorEq, Nat.reduceEqDiff, Nat.reduceBEq, Nat.reduceAdd, Nat.reduceLeDiff, Nat.reduceMul, Nat.reduceLT, Int.reduceEq, Int.reduceLT, Int.reduceLE]
    congr 1
    rw [Bool.eq_iff_iff]
    simp
/-- The start of a result. -/
def stOf (t : List Class) (R : Res) : Sta × Bool :=
  if validT t = true then
    (if R.ed = 0 then (⟨false, 0, 0⟩, true)
     else if R.ed = 2 ∧ (validH t R.heap && inR R.val 0 (R.heap.length - 1)) = true then (⟨true, (R.heap.getD R.val.toNat default).cls, (R.heap.getD R.val.toNat default).code⟩, true)
     else (⟨false, 0, 0⟩, false))
  else (⟨false, 0, 0⟩, false)
theorem st_out {t : List Class} {r : En × RS} (ht : validT t = true) (ho : RunOut t r (resOf r)) (h2 : r.1.ed = 2) : stOf t (resOf r) = (⟨true, clsOf r.2 r.1.val, (r.2.fs.getD r.1.val.toNat default).code⟩, true) ∧ hasF t (clsOf r.2 r.1.val) = true := by
  have e2 : (resOf r).ed = 2 := by rw [res_ed, h2]
  rw [stOf, if_pos ht, if_neg (by rw [e2]; decide), if_pos ⟨e2, by rw [ho.valid, Bool.true_and]; exact inR_len.2 ⟨ho.low, ho.high⟩⟩, ho.cls, ho.code]
  refine ⟨rfl, ?_⟩
  have hl := ho.low
  have hh := ho.high
  have hc := validH_cls ho.valid (resOf r).val.toNat (by omega)
  rw [ho.cls] at hc
  simp only [hasF, inR, Bool.and_eq_true, decide_eq_true_eq]
  omega
theorem st_else {t : List Class} {R : Res} (ht : validT t = true) (h2 : R.ed ≠ 2) : stOf t R = (⟨false, 0, 0⟩, decide (R.ed = 0)) := by
  rw [stOf, if_pos ht]
  by_cases h0 : R.ed = 0
  · rw [if_pos h0, decide_eq_true h0]
  · rw [if_neg h0, if_neg (fun h => h2 h.1), decide_eq_false h0]
theorem st_run {t : List Class} {p : List Line} (hv : ValidP t p) : (stOf t (resOf (runP t p))).1.has = decide ((resOf (runP t p)).ed = 2) ∧
    ((resOf (runP t p)).ed = 2 → (stOf t (resOf (runP t p))).1.cls = outCls (runP t p) ∧ hasF t (outCls (runP t p)) = true) := by
  by_cases h2 : (resOf (runP t p)).ed = 2
  · have h3 := h2
    rw [res_ed] at h3
    obtain ⟨e, e1⟩ := st_out hv.1 (run_valid hv h3) h3
    rw [e]
    exact ⟨by rw [decide_eq_true h2], fun _ => ⟨rfl, e1⟩⟩
  · rw [st_else hv.1 h2]
    exact ⟨by rw [decide_eq_false h2], fun h => absurd h h2⟩
theorem heap_small {t : List Class} {p : List Line} (hv : ValidP t p) : (resOf (runP t p)).heap.length ≤ 1000000 := by
  by_cases h2 : (runP t p).1.ed = 2
  · have := (validH_all (run_valid hv h2).valid).2.2.2; omega
  · rw [res_else h2]; exact Nat.zero_le _
theorem exc_cls {t : List Class} {p q : List Line} {a : Int} (hp : ValidP t p) (hq : ValidP t q) (hx : ValidP t (excP p a q)) : hasF t a = true := by
  obtain ⟨_, _, h3, _⟩ := validP_forest hx
  rw [excP, forest_two hp hq] at h3
  have h4 := (numsF_node h3).2.2.2.2
  have h5 := (numsF_node h4).1
  unfold numOk at h5
  rw [if_neg (by omega), if_neg (by omega), if_pos rfl, Bool.and_eq_true] at h5
  exact h5.1
theorem c_IsA (t : List Class) (cl : Bool) (a b : Int) (H : AHeap) (hn : namesOk t) : ACalls Tryz.prog 19 [aTree t cl, I a, I b] H fun r H' => r = B (validT t && hasF t a && hasF t b && isF t a b) ∧ H' = H := by
  refine acalls_of0 Tryz.func19 rfl (by kernel_rfl) rfl rfl (awp_sound (fz := fun _ => []) (im := fun s => s == 3 || s == 10) mixed _ _ _ _ (by kernel_rfl) ?_)
  simp +contextual -dsimp -implicitDefEqProofs (maxSteps := 5000000) only [go_sem, reduceIte, reduceCtorEq, Nat.reduceEqDiff, Nat.reduceBEq, Nat.reduceAdd, Nat.reduceLeDiff, Nat.reduceMul, Nat.reduceLT, Int.reduceEq, Int.reduceLT, Int.reduceLE]
  refine (c_classesIn t cl [a, b] true _ hn).det ?_
  simp only [List.all_cons, List.all_nil, Bool.and_true]
  cases e1 : validT t
  · simp +contextual -dsimp -implicitDefEqProofs (maxSteps := 5000000) only [go_sem, reduceIte, reduceCtorEq, Nat.reduceEqDiff, Nat.reduceBEq, Nat.reduceAdd, Nat.reduceLeDiff, Nat.reduceMul, Nat.reduceLT, Int.reduceEq, Int.reduceLT, Int.reduceLE]
  · cases e2 : hasF t a
    · simp +contextual -dsimp -implicitDefEqProofs (maxSteps := 5000000) only [go_sem, reduceIte, reduceCtorEq, Nat.reduceEqDiff, Nat.reduceBEq, Nat.reduceAdd, Nat.reduceLeDiff, Nat.reduceMul, Nat.reduceLT, Int.reduceEq, Int.reduceLT, Int.reduceLE]
    · cases e3 : hasF t b
      · simp +contextual -dsimp -implicitDefEqProofs (maxSteps := 5000000) only [go_sem, reduceIte, reduceCtorEq, Nat.reduceEqDiff, Nat.reduceBEq, Nat.reduceAdd, Nat.reduceLeDiff, Nat.reduceMul, Nat.reduceLT, Int.reduceEq, Int.reduceLT, Int.reduceLE]
      · simp +contextual -dsimp -implicitDefEqProofs (maxSteps := 5000000) only [go_sem, reduceIte, reduceCtorEq, Nat.reduceEqDiff, Nat.reduceBEq, Nat.reduceAdd, Nat.reduceLeDiff, Nat.reduceMul, Nat.reduceLT, Int.reduceEq, Int.reduceLT, Int.reduceLE]
        refine (c_is t cl a b _ e1 (hasF_spec e2).2).det ?_
        simp +contextual -dsimp -implicitDefEqProofs (maxSteps := 5000000) only [go_sem, reduceIte, reduceCtorEq, Nat.reduceEqDiff, Nat.reduceBEq, Nat.reduceAdd, Nat.reduceLeDiff, Nat.reduceMul, Nat.reduceLT, Int.reduceEq, Int.reduceLT, Int.reduceLE]
        rfl
theorem c_mStartOf (t : List Class) (cl : Bool) (R : Res) (c1 c2 : Bool) (H : AHeap) (hn : namesOk t) (hl : R.heap.length ≤ 1000000) : ACalls Tryz.prog 18 [aTree t cl, aRes R c1 c2] H fun r H' => r = .tup [.agg (rStart (stOf t R).1), B (stOf t R).2] ∧ H' = H := by
  refine acalls_of1 Tryz.func18 rfl (by kernel_rfl) rfl rfl (awp_sound (fz := fun _ => []) (im := fun s => s == 2 || s == 3 || s == 27) mixed _ _ _ _ (by kernel_rfl) ?_)
  simp +contextual -dsimp -implicitDefEqProofs (maxSteps := 5000000) only [go_sem, reduceIte, reduceCtorEq, Nat.reduceEqDiff, Nat.reduceBEq, Nat.reduceAdd, Nat.reduceLeDiff, Nat.reduceMul, Nat.reduceLT, Int.reduceEq, Int.reduceLT, Int.reduceLE]
  intro b4 hb4
  refine (c_ValidTree t cl _ hn).det ?_
  cases hv : validT t
  · simp +contextual -dsimp -implicitDefEqProofs (maxSteps := 5000000) only [go_sem, reduceIte, reduceCtorEq, Nat.reduceEqDiff, Nat.reduceBEq, Nat.reduceAdd, Nat.reduceLeDiff, Nat.reduceMul, Nat.reduceLT, Int.reduceEq, Int.reduceLT, Int.reduceLE]
    refine retR_less (l := [.agg (rStart (stOf t R).1), B (stOf t R).2]) (H' := H) ?_ (le_set hb4) ⟨rfl, rfl⟩
    simp only [stOf, hv, if_true, if_false, resA, go_sem, reduceIte, reduceCtorEq, Nat.reduceEqDiff, Nat.reduceBEq, Nat.reduceAdd, Nat.reduceLeDiff, Nat.reduceMul, Nat.reduceLT, Int.reduceEq, Int.reduceLT, Int.reduceLE]
    try rfl
  · simp +contextual -dsimp -implicitDefEqProofs (maxSteps := 5000000) only [go_sem, reduceIte, reduceCtorEq, Nat.reduceEqDiff, Nat.reduceBEq, Nat.reduceAdd, Nat.reduceLeDiff, Nat.reduceMul, Nat.reduceLT, Int.reduceEq, Int.reduceLT, Int.reduceLE]
    refine ⟨fun h0 => ?_, fun h0 => ?_⟩
    refine retR_less (l := [.agg (rStart (stOf t R).1), B (stOf t R).2]) (H' := H) ?_ (le_set hb4) ⟨rfl, rfl⟩
    simp only [stOf, hv, h0, if_true, if_false, resA, go_sem, reduceIte, reduceCtorEq, Nat.reduceEqDiff, Nat.reduceBEq, Nat.reduceAdd, Nat.reduceLeDiff, Nat.reduceMul, Nat.reduceLT, Int.reduceEq, Int.reduceLT, Int.reduceLE]
    try rfl
    refine ⟨fun h2 => ?_, fun h2 => ?_⟩
    · refine (c_faultsIn t cl R.heap c2 [R.val] true _ hn hl).det ?_
      simp only [List.all_cons, List.all_nil, Bool.and_true]
      cases hg : validH t R.heap && inR R.val 0 (R.heap.length - 1)
      · simp +contextual -dsimp -implicitDefEqProofs (maxSteps := 5000000) only [go_sem, reduceIte, reduceCtorEq, Nat.reduceEqDiff, Nat.reduceBEq, Nat.reduceAdd, Nat.reduceLeDiff, Nat.reduceMul, Nat.reduceLT, Int.reduceEq, Int.reduceLT, Int.reduceLE, h2]
        refine retR_less (l := [.agg (rStart (stOf t R).1), B (stOf t R).2]) (H' := H) ?_ (le_set hb4) ⟨rfl, rfl⟩
        simp only [stOf, hv, h0, h2, hg, if_true, if_false, resA, go_sem, reduceIte, reduceCtorEq, Nat.reduceEqDiff, Nat.reduceBEq, Nat.reduceAdd, Nat.reduceLeDiff, Nat.reduceMul, Nat.reduceLT, Int.reduceEq, Int.reduceLT, Int.reduceLE]
        try rfl
      · have hg2 := hg
        rw [Bool.and_eq_true] at hg2
        have hi := inR_len.1 hg2.2
        have i2 : R.val.toNat < R.heap.length := by omega
        simp +contextual -dsimp -implicitDefEqProofs (maxSteps := 5000000) only [go_sem, reduceIte, reduceCtorEq, Nat.reduceEqDiff, Nat.reduceBEq, Nat.reduceAdd, Nat.reduceLeDiff, Nat.reduceMul, Nat.reduceLT, Int.reduceEq, Int.reduceLT, Int.reduceLE, h2, hi.1, hi.2, i2]
        rintro b6 ⟨s1, s2, hb6⟩
        refine retR_less (l := [.agg (rStart (stOf t R).1), B (stOf t R).2]) (H' := H) ?_ (le_s1 (le_s1 (AHeap.le_refl _) hb4) hb6) ⟨rfl, rfl⟩
        have e0 : ¬ (2 : Int) = 0 := by decide
        simp only [stOf, hv, h0, h2, hg, e0, and_self, if_true, if_false, resA, go_sem, reduceIte, reduceCtorEq, Nat.reduceEqDiff, Nat.reduceBEq, Nat.reduceAdd, Nat.reduceLeDiff, Nat.reduceMul, Nat.reduceLT, Int.reduceEq, Int.reduceLT, Int.reduceLE, s1, s2]
        try rfl
    ·
      refine retR_less (l := [.agg (rStart (stOf t R).1), B (stOf t R).2]) (H' := H) ?_ (le_set hb4) ⟨rfl, rfl⟩
      simp only [stOf, hv, h0, h2, false_and, if_true, if_false, resA, go_sem, reduceIte, reduceCtorEq, Nat.reduceEqDiff, Nat.reduceBEq, Nat.reduceAdd, Nat.reduceLeDiff, Nat.reduceMul, Nat.reduceLT, Int.reduceEq, Int.reduceLT, Int.reduceLE]
      try rfl
end
section
open Go Go.Sim
set_option maxRecDepth 100000
set_option maxHeartbeats 4000000

/-- A line that goes on with a try, with what its block is worth. -/
structure ChainAt (t : List Class) (p : List Line) (d : Int) (lp : Bool) (f : Fo) (q : Nat) (k : Int) (ks : Fo) : Prop where
  at_ : ∃ a b re, At p q d (.node k a b ks re)
  small : ks.size < f.size
  nums : numsF t ks (d + 1) = true
  ok : okF ks lp false = true
  cost : cost ks ≤ Go.Proofs.YtckipeopgimenaaGreat.cost f
end
section
open Go Go.Sim
set_option maxRecDepth 100000

/-- Openings and closings of a log, what is open first: the innermost thing first. -/
def scanB : List Int → List Int → Option (List Int)
  | st, [] => some st
  | st, x :: r => if 200 ≤ x then (match st with | [] => none | y :: st => if y = x - 200 then scanB st r else none) else if 100 ≤ x then scanB ((x - 100) :: st) r else scanB st r
def Bal (l : List Int) : Prop := (∀ st m, scanB st (l ++ m) = scanB st m) ∧ ∀ x ∈ l, 0 ≤ x ∧ x < 1000
theorem bal_nil : Bal [] := ⟨fun _ _ => rfl, fun x h => by cases h⟩
theorem Bal.app {l m : List Int} (h : Bal l) (g : Bal m) : Bal (l ++ m) := ⟨fun st r => by rw [List.append_assoc, h.1, g.1], fun x hx => (List.mem_append.1 hx).elim (h.2 x) (g.2 x)⟩
theorem Bal.wrap {l : List Int} (h : Bal l) {a : Int} (h0 : 0 ≤ a) (h1 : a < 100) : Bal ([100 + a] ++ (l ++ [200 + a])) := by
  refine ⟨fun st m => ?_, fun x hx => ?_⟩
  rotate_left
  · simp only [List.mem_append, List.mem_singleton] at hx
    rcases hx with rfl | hx | rfl
    · omega
    · exact h.2 x hx
    · omega
  show scanB st ((100 + a) :: ((l ++ [200 + a]) ++ m)) = _
  simp only [scanB]
  rw [if_neg (by omega), if_pos (by omega), List.append_assoc, h.1]
  show scanB _ ((200 + a) :: m) = _
  simp only [scanB]
  rw [if_pos (by omega), if_pos (by omega)]
def LogB (s s' : RS) : Prop := ∃ l, s'.log = s.log ++ l ∧ Bal l
theorem LogB.same {s s' : RS} (h : s'.log = s.log) : LogB s s' := ⟨[], by simp [h], bal_nil⟩
theorem LogB.trans {s s' s'' : RS} (h : LogB s s') (g : LogB s' s'') : LogB s s'' := by
  obtain ⟨l, e1, b1⟩ := h
  obtain ⟨m, e2, b2⟩ := g
  exact ⟨l ++ m, by rw [e2, e1, List.append_assoc], b1.app b2⟩
end
section
open Go Go.Sim
set_option maxRecDepth 100000
set_option maxHeartbeats 4000000
noncomputable def logOf (t : List Class) (p : List Line) : List Int := if validB t p = true then (resOf (runP t p)).log else []
theorem c_mRunLog (t : List Class) (cl : Bool) (p : List Line) (c1 : Bool) (H : AHeap) (hn : namesOk t) (hp : p.length ≤ 4398046511104) : ACalls Tryz.prog 21 [aTree t cl, aProg p c1] H fun r H' => (∃ c, r = .vsl ((logOf t p).map rI) c) ∧ H' = H := by
  have e : (if validB t p = true then resOf (runP t p) else res0).log = logOf t p := by unfold logOf; split <;> rfl
  have k1 := fun H => own_frz (c_mRunProgram t cl p c1 H hn hp)
  rw [← e]
  generalize (if validB t p = true then resOf (runP t p) else res0) = R at k1
  refine acalls_of0 Tryz.func21 rfl (by kernel_rfl) rfl rfl (awp_sound (fz := fun _ => []) (im := fun s => s == 2) mixed _ _ _ _ (by kernel_rfl) ?_)
  simp +contextual -dsimp -implicitDefEqProofs (maxSteps := 5000000) only [go_sem, reduceIte, reduceCtorEq, Nat.reduceEqDiff, Nat.reduceBEq, Nat.reduceAdd, Nat.reduceLeDiff, Nat.reduceMul, Nat.reduceLT, Int.reduceEq, Int.reduceLT, Int.reduceLE]
  refine (k1 _).mono ?_
  rintro _ H ⟨⟨c2, c3, rfl⟩, rfl⟩
  simp +contextual -dsimp -implicitDefEqProofs (maxSteps := 5000000) only [go_sem, reduceIte, reduceCtorEq, Nat.reduceEqDiff, Nat.reduceBEq, Nat.reduceAdd, Nat.reduceLeDiff, Nat.reduceMul, Nat.reduceLT, Int.reduceEq, Int.reduceLT, Int.reduceLE, fieldA, tf34_0, ti29]
  exact ⟨c2, rfl⟩
end
section
open Go Go.Sim
set_option maxRecDepth 100000

/-- All classes are below the root. -/
theorem isF_root {t : List Class} (ht : validT t = true) {a : Int} (h0 : 0 ≤ a) (h1 : a < t.length) : isF t a 0 = true := by
  have key : ∀ n : Nat, ∀ a : Int, 0 ≤ a → a < n → a < t.length → (aboveF t a).any (fun x => decide ((0 : Int) = x)) = true := by
    intro n
    induction n with
    | zero => intro a h0 hn; omega
    | succ n ih =>
      intro a h0 hn h1
      rw [aboveF_step ht h0 h1, List.any_cons]
      by_cases c : (0 : Int) = a
      · rw [decide_eq_true c]; rfl
      · have hp : 0 ≤ (t.getD a.toNat default).parent ∧ (t.getD a.toNat default).parent < a := by
          have := ht
          simp only [validT, Bool.and_eq_true, List.all_eq_true, List.mem_range] at this
          have h2 := this.1 a.toNat (by omega)
          simp only [clsOk, Bool.and_eq_true] at h2
          have h3 := h2.2
          rw [if_neg (by omega)] at h3
          simp only [inR, Bool.and_eq_true, decide_eq_true_eq] at h3
          omega
        rw [ih _ hp.1 (by omega) (by omega), Bool.or_true]
  exact key (a.toNat + 1) a h0 (by omega) h1
def enC (c : Clo) : En := if 0 ≤ c.cur then ⟨2, c.cur⟩ else .next
/-- What lines have done is what exits have done. -/
structure RelC (c : Clo) (r : En × RS) : Prop where
  en : r.1 = enC c
  log : r.2.log = c.log
  fs : r.2.fs = c.fs
end
end
end Go.Proofs.YtckipeopgimenaaGreat
