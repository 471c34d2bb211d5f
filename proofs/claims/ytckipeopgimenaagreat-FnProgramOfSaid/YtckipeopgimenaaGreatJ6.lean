/- Walks and plain laws that the claims of this seat lean on. No condition. -/
import Derived.Test.YtckipeopgimenaaGreatJ5
import Derived.Lib.ItoaNum
import Derived.Test.YtckipeopgimenaaGreatJ3
set_option linter.unusedVariables false
set_option linter.unusedSimpArgs false
namespace Go.Proofs.YtckipeopgimenaaGreat
open Go Go.Sim
section
set_option maxRecDepth 100000
attribute [local go_sem ↓] aw_skip aw_ret aw_exit aw_region aw_draw aw_seq aw_block aw_loop aw_cond frz_nil frz_cons sq_normal sq_ret sq_exit exB_normal exB_ret exB_same exB_other retQ_ret retQ_normal ret0_ret ret0_normal ao_nil go1 g_move g_assign g_pick g_build g_load g_binOp g_unOp g_convert g_fieldAddr g_field g_indexAddr g_index g_extract g_lookup g_slice g_nilCheck g_len g_makeFunc h_call h_append h_alloc h_box h_buildSlice h_makeSlice h_store gV i_box i_buildSlice i_move i_assign i_build i_load i_binOp i_unOp i_convert i_fieldAddr i_field i_indexAddr i_index i_extract i_lookup i_makeMap i_mapUpdate i_slice i_nilCheck i_makeFunc i_len i_max i_min i_alloc i_makeSlice i_store i_append i_call i_pick boxI boxA buildSliceI buildSliceA makeSliceA makeMapA allocA storeA p_move p_assign p_pick p_build p_load p_binOp p_unOp p_convert p_fieldAddr p_field p_indexAddr p_index p_extract p_lookup p_makeMap p_mapUpdate p_slice p_nilCheck p_makeFunc p_len p_max p_min p_alloc p_box p_buildSlice p_makeSlice p_store p_append p_call x_nil x_go1 x_g0 x_g1 x_g2 x_g3 x_s0 x_s1 x_s2 x_s3 u_move u_assign u_pick u_build u_load u_binOp u_unOp u_convert u_fieldAddr u_field u_indexAddr u_index u_extract u_lookup u_slice u_nilCheck u_makeFunc u_len u_buildSlice x_s4 x_g4 rq_normal rq_ret rq_exit aw_range
attribute [local go_sem] frzV_sl frzK_some set_none set_other AHeap.set_self set_del set_set cnd_t cnd_f cnd_b retA_one retA_two retA_three retA_four retA_nil gIf_b mrgV_b mrgV_wh mrgV_U gIf_U gIf_wh mrgB_f mrgB_some mrgB_if wh_true wh_false keepA_some keepA_if gD_zero gD_succ gT_some bxA_t bxA_f callA_fn ev_tmp ev_const ev_global ev_func oc_bool oc_int oc_string oc_nil oc_nilptr oc_nilfunc cl_bool cl_int cl_string cl_nil updO_some updO_none upd_same upd_other init_at pickA_b pickA_wh selA_t selA_f selA_and selA_or selA_orn selA_orm selA_bb selA_ii beqt b_add b_sub b_mul b_and b_or b_xor b_eql b_neq b_lss b_leq b_gtr b_geq b_quo b_rem b_shr b_seql b_sneq b_sadd b_beql b_bneq b_aeql b_aneq u_not u_neg isConstOp eqA eqCellV List.getD_cons_zero List.getD_cons_succ List.map_cons List.map_nil List.nil_append List.cons_append List.append_nil if_true if_false Option.map_some Option.map_none ne_eq not_false_eq_true oneA ldv ld1v ld1s wr1s ldRow stRow row_lit row_agg row_vsl row_sl row_ptr row_fn one_I one_B one_S one_vsl one_sl one_ptr one_fn extractA okA rI rS rU rClass rFault rExit rStart rLine Int.toNat_natCast List.length_cons List.length_nil List.length_map List.all_cons List.all_nil Bool.and_true Nat.zero_add List.getElem?_cons_zero List.getElem?_cons_succ List.take_succ_cons List.take_zero List.drop_succ_cons List.drop_zero and_self true_and and_true implies_true decide_eq_true_eq decide_eq_false_iff_not Bool.or_eq_true Bool.or_eq_false_iff Bool.and_eq_true Bool.not_eq_true' Bool.not_eq_false' beq_false decide_true decide_false Int.ofNat_lt Int.ofNat_le Int.natCast_nonneg Bool.or_true Bool.or_false Bool.true_or Bool.false_or beq_self_eq_true List.drop_one Bool.not_true Bool.not_false Bool.not_not Bool.false_eq_true Bool.true_eq_false false_implies true_implies Bool.true_and Bool.false_and Bool.and_false not_true_eq_false Int.natCast_eq_zero Int.natCast_pos Int.natCast_zero false_and and_false or_false false_or or_true true_or Bool.or_self none_le_iff List.replicate_zero Int.toNat_zero List.replicate_succ buildRows List.set_cons_zero List.set_cons_succ List.set_nil List.mapM_nil maxLen_eq Nat.zero_le Nat.mul_one Nat.one_mul bldA fillA spliceA List.take_nil List.drop_nil List.getElem?_nil ld1o wr1o bldSliceA le_same cv_i cvI_t quietT_fn qvd_some ld_o ldO_1 ldO_l wr_o wrO_1 set_2 set_3 set_4 putL_nil putL_cons List.zip_cons_cons List.zip_nil_left List.zip_nil_right List.toList_toArray frzV_set ti1 ti2 tk2 ti3 te3 ts3 tk3 tz3 ti4 tb4 ti5 tk5 tz5 ti9 te9 ts9 tk9 tz9 ti12 tk12 ti13 tp13 tf13_0 tf13_1 ti20 ti21 tk21 tz21 ti22 te22 tz22 ti23 te23 ti24 tp24 tf24_0 ti25 tp25 tf25_0 ti26 te26 ti28 ti29 te29 ti30 te30 ti31 tp31 tf31_0 ti32 tp32 tf32_0 ti33 tp33 tf33_0 tf33_1 tf33_2 tf33_3 ti34 tp34 tf34_0 tf34_1 tf34_2 tf34_3 ti35 ti36 ti37 ti38 ti40 ti42 ti43 ti44 tq44 tp44 tf44_0 tf44_1 tf44_2 ti45 tq45 tp45 tf45_0 tf45_1 tf45_2 ti47 ti48 ti49 tq49 tp49 tf49_0 tf49_1 tf49_2 tf49_3 ti50 tq50 tp50 tf50_0 tf50_1 tf50_2 tf50_3 ti51 ti52 ti54 ti55 ti56 ti57 te57 ti59 ti60 ti61 ti62 ti63 ti64 ti65 ti66 ti67 ti68 tq68 tp68 tf68_0 tf68_1 ti69 tq69 tp69 tf69_0 tf69_1 ti70 ti71 ti72 ti73 ti74 ti75 ti77 ti78 ti79 ti80 ti81 ti82 ti83 ti84 ti85 tq85 tp85 tf85_0 tf85_1 tf85_2 tf85_3 tf85_4 ti86 tq86 tp86 tf86_0 tf86_1 tf86_2 tf86_3 tf86_4 ti87 ti88 ti89 ti90 ti91 ti93 ti94 ti95 ti96 ti97 tq97 tp97 tf97_0 tf97_1 tf97_2 ti98 tq98 tp98 tf98_0 tf98_1 tf98_2 ti99 ti100 ti101 ti102 ti103 ti104 ti105 ti106 ti107 tp107 tf107_0 tf107_1 ti108 tp108 tf108_0 tf108_1 ti109 tp109 tf109_0 tf109_1 tf109_2 tf109_3 tf109_4 ti110 tp110 tf110_0 tf110_1 tf110_2 tf110_3 tf110_4 ti111 ti113 ti114 ti115 ti116 ti117 ti118 ti119 ti120 tp120 tf120_0 tf120_1 tf120_2 tf120_3 ti121 tp121 tf121_0 tf121_1 tf121_2 tf121_3 ti122 tq122 tp122 tf122_0 tf122_1 ti123 tq123 tp123 tf123_0 tf123_1 ti124 ti125 ti126 tq126 tp126 tf126_0 tf126_1 ti127 tq127 tp127 tf127_0 tf127_1 ti128 ti129 ti130 ti131 ti132 ti133 te133 ti134 ti135 ti136 ti137 ti138 ti139 ti140 ti141 ti142 ti143 ti144 tp144 tf144_0 tf144_1 tf144_2 ti145 tp145 tf145_0 tf145_1 tf145_2 ti146 ti147 ti148 ti149 ti150 te150 ti151 ti152 ti153 ti154 ti155 ti156 ti157 ti158 ti159 ti160 ti161 ti162 ti163 ti164 ti165 ti166 ti167 ti168 ti169 ti170 ti171 ti172 ti173 ti174 ti175 tk175 tz175 ti176 ti177 ti178 ti179 ti180 tk180 ti182 ti183 ti184 ti186 ti187 ti188 tk188 tz188 ti189 ti190 tk190 tz190 ti191 tk191 ti192 ti193 ti194 ti195 ti196 ti197 ti199 ti200 ti206 ti210 ti215 fp13_0 fv13_0 fp13_1 fv13_1 fp24_0 fv24_0 fp25_0 fv25_0 fp31_0 fv31_0 fp32_0 fv32_0 fp33_0 fv33_0 fp33_1 fv33_1 fp33_2 fv33_2 fp33_3 fv33_3 fp34_0 fv34_0 fp34_1 fv34_1 fp34_2 fv34_2 fp34_3 fv34_3 fp44_0 fv44_0 fp44_1 fv44_1 fp44_2 fv44_2 fp45_0 fv45_0 fp45_1 fv45_1 fp45_2 fv45_2 fp49_0 fv49_0 fp49_1 fv49_1 fp49_2 fv49_2 fp49_3 fv49_3 fp50_0 fv50_0 fp50_1 fv50_1 fp50_2 fv50_2 fp50_3 fv50_3 fp68_0 fv68_0 fp68_1 fv68_1 fp69_0 fv69_0 fp69_1 fv69_1 fp85_0 fv85_0 fp85_1 fv85_1 fp85_2 fv85_2 fp85_3 fv85_3 fp85_4 fv85_4 fp86_0 fv86_0 fp86_1 fv86_1 fp86_2 fv86_2 fp86_3 fv86_3 fp86_4 fv86_4 fp97_0 fv97_0 fp97_1 fv97_1 fp97_2 fv97_2 fp98_0 fv98_0 fp98_1 fv98_1 fp98_2 fv98_2 fp107_0 fv107_0 fp107_1 fv107_1 fp108_0 fv108_0 fp108_1 fv108_1 fp109_0 fv109_0 fp109_1 fv109_1 fp109_2 fv109_2 fp109_3 fv109_3 fp109_4 fv109_4 fp110_0 fv110_0 fp110_1 fv110_1 fp110_2 fv110_2 fp110_3 fv110_3 fp110_4 fv110_4 fp120_0 fv120_0 fp120_1 fv120_1 fp120_2 fv120_2 fp120_3 fv120_3 fp121_0 fv121_0 fp121_1 fv121_1 fp121_2 fv121_2 fp121_3 fv121_3 fp122_0 fv122_0 fp122_1 fv122_1 fp123_0 fv123_0 fp123_1 fv123_1 fp126_0 fv126_0 fp126_1 fv126_1 fp127_0 fv127_0 fp127_1 fv127_1 fp144_0 fv144_0 fp144_1 fv144_1 fp144_2 fv144_2 fp145_0 fv145_0 fp145_1 fv145_1 fp145_2 fv145_2 lv22 ll22 is22 ix22 sh22 so22 sb22 sm22 sp22 lv23 ll23 is23 ix23 sh23 so23 sb23 sm23 sp23 lv26 ll26 is26 ix26 sh26 so26 sb26 sm26 sp26 lv29 ll29 is29 ix29 sh29 so29 sb29 sm29 sp29 lv30 ll30 is30 ix30 sh30 so30 sb30 sm30 sp30 lv57 ll57 is57 ix57 sh57 so57 sb57 sm57 sp57 lv133 ll133 is133 sp133 lv150 ll150 is150 ix150 sh150 so150 sb150 sm150 sp150 xs9 ls9 sx9 sy9 sz9
section
open Go Go.Sim
set_option maxRecDepth 100000

theorem getD_app {α : Type} {a b : List α} {d : α} {i : Nat} (h : i < a.length) : (a ++ b).getD i d = a.getD i d := by
  rw [List.getD_eq_getElem?_getD, List.getD_eq_getElem?_getD, List.getElem?_append_left h]
theorem walkG_step {nx : Int → Int} : ∀ (n : Nat) (out : List Int) (f : Int), (∀ i, i + 1 < out.length → out.getD (i + 1) default = nx (out.getD i default)) → (∀ i, i + 1 = out.length → nx (out.getD i default) = f) →
    ∀ i, i + 1 < (walkG nx n out f).length → (walkG nx n out f).getD (i + 1) default = nx ((walkG nx n out f).getD i default)
  | 0, out, f, h, _, i, hi => h i hi
  | n + 1, out, f, h, h2, i, hi => by
    simp only [walkG] at hi ⊢
    by_cases c : 0 ≤ f ∧ (out.any fun x => decide (f = x)) = false
    · rw [if_pos c] at hi ⊢
      refine walkG_step n (out ++ [f]) (nx f) ?_ ?_ i hi
      · intro j hj
        rw [List.length_append, List.length_singleton] at hj
        rcases Nat.lt_or_ge (j + 1) out.length with q | q
        · rw [getD_app q, getD_app (show j < out.length by omega)]
          exact h j q
        · have e : j + 1 = out.length := by omega
          rw [getD_app (show j < out.length by omega), h2 j e, e]
          simp [List.getD_eq_getElem?_getD]
      · intro j hj
        rw [List.length_append, List.length_singleton] at hj
        have e : j = out.length := by omega
        subst e
        simp [List.getD_eq_getElem?_getD]
    · rw [if_neg c] at hi ⊢
      exact h i hi
theorem walkG_pre {nx : Int → Int} : ∀ (n : Nat) (out : List Int) (f : Int) (i : Nat), i < out.length → (walkG nx n out f).getD i default = out.getD i default
  | 0, out, f, i, hi => rfl
  | n + 1, out, f, i, hi => by
    simp only [walkG]
    split
    · rw [walkG_pre n (out ++ [f]) (nx f) i (by simp; omega), getD_app hi]
    · rfl
theorem chain_step {h : List Fault} {g : Int} {i : Nat} (hi : i + 1 < (chainF h g).length) : (chainF h g).getD (i + 1) default = ctxOf h ((chainF h g).getD i default) :=
  walkG_step (h.length + 1) [] g (fun i q => by simp at q) (fun i q => by simp at q) i hi
theorem chain_head {h : List Fault} {g : Int} (h0 : 0 ≤ g) : (chainF h g).getD 0 default = g := by
  unfold chainF walkF
  simp only [walkG]
  rw [if_pos ⟨h0, rfl⟩, walkG_pre _ _ _ 0 (by simp)]
  rfl
/-- A chain cut where it comes to a fault. -/
def cutAt (h : List Fault) (f : Int) (l : List Int) : List Fault := match l.find? (fun x => decide (ctxOf h x = f)) with
  | some x => h.set x.toNat { h.getD x.toNat default with ctx := -1 }
  | none => h
def raisedF (h : List Fault) (f g : Int) : List Fault := if f = g ∨ g < 0 then h else (cutAt h f (chainF h g)).set f.toNat { (cutAt h f (chainF h g)).getD f.toNat default with ctx := g }
theorem cutAt_len (h : List Fault) (f : Int) (l : List Int) : (cutAt h f l).length = h.length := by unfold cutAt; split <;> simp
theorem raisedF_len (h : List Fault) (f g : Int) : (raisedF h f g).length = h.length := by unfold raisedF; split <;> simp [cutAt_len]
theorem cutAt_at {h : List Fault} {f : Int} {l : List Int} {i : Nat} (hi : i < l.length) (hn : (l.take i).any (fun x => decide (ctxOf h x = f)) = false) (hc : ctxOf h (l.getD i default) = f) : cutAt h f l = h.set (l.getD i default).toNat { h.getD (l.getD i default).toNat default with ctx := -1 } := by
  have : l.find? (fun x => decide (ctxOf h x = f)) = some (l.getD i default) := by
    have e : l.getD i default = l[i] := by simp [List.getD_eq_getElem?_getD, hi]
    rw [List.find?_eq_some_iff_getElem]
    refine ⟨decide_eq_true hc, i, hi, e.symm, fun j hj => ?_⟩
    rw [List.any_eq_false] at hn
    have := hn l[j] (by rw [List.mem_take_iff_getElem]; exact ⟨j, by omega, rfl⟩)
    simpa using this
  unfold cutAt
  rw [this]
/-- Contexts of faults that come to an end. -/
structure Calm (h : List Fault) : Prop where
  ctx : ∀ k, k < h.length → -1 ≤ (h.getD k default).ctx ∧ (h.getD k default).ctx < h.length
  last : ∀ k, k < h.length → lastOk h k = true
theorem Calm.at {h : List Fault} (hc : Calm h) {g : Int} (h0 : 0 ≤ g) (hg : g < h.length) {i : Nat} (hi : i < (chainF h g).length) : (i + 1 < (chainF h g).length ∧ 0 ≤ ctxOf h ((chainF h g).getD i default)) ∨ (i + 1 = (chainF h g).length ∧ ctxOf h ((chainF h g).getD i default) = -1) := by
  rcases Nat.lt_or_ge (i + 1) (chainF h g).length with q | q
  · left
    refine ⟨q, ?_⟩
    rw [← chain_step q, List.getD_eq_getElem?_getD, List.getElem?_eq_getElem q]
    exact (chainF_in (fun k hk => (hc.ctx k hk).2) hg (List.getElem_mem q)).1
  · right
    have e : i + 1 = (chainF h g).length := by omega
    refine ⟨e, ?_⟩
    have := hc.last g.toNat (by omega)
    rw [lastOk, decide_eq_true_eq, lastI, Int.toNat_of_nonneg h0, ← e] at this
    simpa using this
end
section
open Go Go.Sim
set_option maxRecDepth 100000

/-- In so many steps there is nothing more. -/
def EndsAt (nx : Int → Int) : Nat → Int → Prop
  | 0, a => a < 0
  | m + 1, a => 0 ≤ a ∧ EndsAt nx m (nx a)
theorem EndsAt.uniq {nx : Int → Int} : ∀ {m m' : Nat} {a : Int}, EndsAt nx m a → EndsAt nx m' a → m = m'
  | 0, 0, _, _, _ => rfl
  | 0, m' + 1, a, h, h' => by have := h'.1; simp only [EndsAt] at h; omega
  | m + 1, 0, a, h, h' => by have := h.1; simp only [EndsAt] at h'; omega
  | m + 1, m' + 1, a, h, h' => by rw [EndsAt.uniq h.2 h'.2]
def Ends (nx : Int → Int) (a : Int) : Prop := ∃ m, EndsAt nx m a
theorem Ends.neg {nx : Int → Int} {a : Int} (h : a < 0) : Ends nx a := ⟨0, h⟩
theorem Ends.step {nx : Int → Int} {a : Int} (h : Ends nx (nx a)) : Ends nx a := by
  obtain ⟨m, hm⟩ := h
  by_cases c : a < 0
  · exact .neg c
  · exact ⟨m + 1, by omega, hm⟩
theorem Ends.ind {nx : Int → Int} {p : Int → Prop} (h0 : ∀ a, a < 0 → p a) (h1 : ∀ a, 0 ≤ a → p (nx a) → p a) {a : Int} (h : Ends nx a) : p a := by
  obtain ⟨m, hm⟩ := h
  induction m generalizing a with
  | zero => exact h0 a hm
  | succ m ih => exact h1 a hm.1 (ih hm.2)
theorem walkG_end {nx : Int → Int} {n : Nat} (hnx : ∀ a : Int, 0 ≤ a → a < n → nx a < n) : ∀ (m fuel : Nat) (out : List Int) (f : Int), EndsAt nx m f → f < n → (∀ a ∈ out, ∃ m', m < m' ∧ EndsAt nx m' a) → freeN n out < fuel → (out ≠ [] → nx (lastI out) = f) → walkG nx fuel out f ≠ [] → nx (lastI (walkG nx fuel out f)) < 0
  | m, 0, out, f, _, _, _, hfr, _, _ => by omega
  | 0, fuel + 1, out, f, he, hf, ho, hfr, hl, hne => by
    have hf0 : f < 0 := he
    simp only [walkG] at hne ⊢
    rw [if_neg (by omega)] at hne ⊢
    rw [hl hne]; exact hf0
  | m + 1, fuel + 1, out, f, he, hf, ho, hfr, hl, hne => by
    have hany : (out.any fun x => decide (f = x)) = false := by
      rw [List.any_eq_false]
      intro a ha
      obtain ⟨m', h1, h2⟩ := ho a ha
      have : ¬ f = a := by
        rintro rfl
        have := he.uniq h2
        omega
      simpa using this
    simp only [walkG] at hne ⊢
    rw [if_pos ⟨he.1, hany⟩] at hne ⊢
    have := freeN_lt he.1 hf hany
    refine walkG_end hnx m fuel (out ++ [f]) (nx f) he.2 (hnx f he.1 hf) ?_ (by omega) ?_ hne
    · intro a ha
      rcases List.mem_append.1 ha with q | q
      · obtain ⟨m', h1, h2⟩ := ho a q
        exact ⟨m', by omega, h2⟩
      · simp at q; subst q
        exact ⟨m + 1, by omega, he⟩
    · intro _
      congr 1
      simp [lastI, List.getD_eq_getElem?_getD]
theorem Calm.of_ends {h : List Fault} (hc : ∀ k, k < h.length → -1 ≤ (h.getD k default).ctx ∧ (h.getD k default).ctx < h.length) (he : ∀ k : Nat, k < h.length → Ends (ctxOf h) k) : Calm h := by
  refine ⟨hc, fun k hk => ?_⟩
  obtain ⟨m, hm⟩ := he k hk
  have hne := chainF_ne (h := h) (g := k) (by omega)
  have hnx : ∀ a : Int, 0 ≤ a → a < h.length → ctxOf h a < h.length := fun a a0 a1 => (hc a.toNat (by omega)).2
  have := walkG_end hnx m (h.length + 1) [] k hm (by omega) (fun a ha => by cases ha) (by have := freeN_nil h.length; omega) (fun q => absurd rfl q) hne
  have hin := lastI_in (fun k hk => (hc k hk).2) (f := k) (by omega) (by omega)
  have h1 := hc (lastI (chainF h k)).toNat (by omega)
  rw [lastOk, decide_eq_true_eq]
  unfold ctxOf at this ⊢
  unfold chainF walkF at h1 ⊢
  unfold ctxOf at h1 ⊢
  omega
theorem Calm.ends {h : List Fault} (hc : Calm h) {k : Int} (h0 : 0 ≤ k) (hk : k < h.length) : Ends (ctxOf h) k := by
  have hne := List.length_pos_iff.2 (chainF_ne (h := h) h0)
  have key : ∀ j, j < (chainF h k).length → Ends (ctxOf h) ((chainF h k).getD ((chainF h k).length - 1 - j) default) := by
    intro j
    induction j with
    | zero =>
      intro hj
      rcases hc.at h0 hk (i := (chainF h k).length - 1 - 0) (by omega) with ⟨q, _⟩ | ⟨_, q⟩
      · omega
      · exact .step (.neg (by omega))
    | succ j ih =>
      intro hj
      have e : (chainF h k).length - 1 - j = ((chainF h k).length - 1 - (j + 1)) + 1 := by omega
      have := ih (by omega)
      rw [e, chain_step (by omega)] at this
      exact .step this
  have := key ((chainF h k).length - 1) (by omega)
  rw [Nat.sub_self, chain_head h0] at this
  exact this
end
section
open Go Go.Sim
set_option maxRecDepth 100000

theorem getD_set {α : Type} {l : List α} {i j : Nat} {x d : α} (h : i < l.length) : (l.set i x).getD j d = if i = j then x else l.getD j d := by
  rw [List.getD_eq_getElem?_getD, List.getD_eq_getElem?_getD, List.getElem?_set]
  split
  · rename_i e; subst e; simp [h]
  · rfl
theorem ctx_set {h : List Fault} {i : Nat} {x : Fault} {a : Int} (hi : i < h.length) : ctxOf (h.set i x) a = if i = a.toNat then x.ctx else ctxOf h a := by
  unfold ctxOf
  rw [getD_set hi]
  split <;> rfl
theorem cut_ctx {h : List Fault} {f : Int} {l : List Int} (hl : ∀ x ∈ l, 0 ≤ x ∧ x < h.length) {a : Int} (a0 : 0 ≤ a) : ctxOf (cutAt h f l) a = ctxOf h a ∨ (ctxOf (cutAt h f l) a = -1 ∧ ctxOf h a = f) := by
  unfold cutAt
  split
  · rename_i x hx
    have hm := hl x (List.mem_of_find?_eq_some hx)
    have hp := List.find?_some hx
    rw [ctx_set (by omega)]
    by_cases e : x.toNat = a.toNat
    · rw [if_pos e]
      right
      have : x = a := by omega
      subst this
      exact ⟨rfl, by simpa using hp⟩
    · rw [if_neg e]; exact .inl rfl
  · exact .inl rfl
theorem Calm.raised {h : List Fault} (hc : Calm h) {f g : Int} (f0 : 0 ≤ f) (hf : f < h.length) (hg : g < h.length) : Calm (raisedF h f g) := by
  by_cases hb : f = g ∨ g < 0
  · rw [raisedF, if_pos hb]; exact hc
  have g0 : 0 ≤ g := by omega
  have hfg : ¬ f = g := by omega
  have hlin : ∀ x ∈ chainF h g, 0 ≤ x ∧ x < h.length := fun x hx => chainF_in (fun k hk => (hc.ctx k hk).2) hg hx
  have e2 : ∀ a : Int, 0 ≤ a → ctxOf (raisedF h f g) a = if f = a then g else ctxOf (cutAt h f (chainF h g)) a := by
    intro a a0
    rw [raisedF, if_neg hb, ctx_set (by rw [cutAt_len]; omega)]
    by_cases e : f = a
    · subst e; rw [if_pos rfl, if_pos rfl]
    · rw [if_neg e, if_neg (by omega)]
  have ec : ∀ a : Int, 0 ≤ a → ¬ f = a → ctxOf (raisedF h f g) a = ctxOf h a ∨ (ctxOf (raisedF h f g) a = -1 ∧ ctxOf h a = f) := by
    intro a a0 e
    rw [e2 a a0, if_neg e]
    exact cut_ctx hlin a0
  have hEg : ∀ (j i : Nat), (chainF h g).length - i ≤ j → i < (chainF h g).length → ((chainF h g).take i).any (fun x => decide (ctxOf h x = f)) = false → Ends (ctxOf (raisedF h f g)) ((chainF h g).getD i default) := by
    intro j
    induction j with
    | zero => intro i h1 h2; omega
    | succ j ih =>
      intro i h1 h2 h3
      have hm : (chainF h g).getD i default ∈ chainF h g := by
        rw [List.getD_eq_getElem?_getD, List.getElem?_eq_getElem h2]; exact List.getElem_mem h2
      have hin := hlin _ hm
      have hne : ¬ f = (chainF h g).getD i default := by
        cases i with
        | zero => rw [chain_head g0]; exact hfg
        | succ i =>
          rw [chain_step h2]
          rw [List.any_eq_false] at h3
          have hi : i < (chainF h g).length := by omega
          have := h3 ((chainF h g).getD i default) (by rw [List.getD_eq_getElem?_getD, List.getElem?_eq_getElem hi, List.mem_take_iff_getElem]; exact ⟨i, by omega, rfl⟩)
          intro q
          exact this (decide_eq_true q.symm)
      refine .step ?_
      by_cases hx : ctxOf h ((chainF h g).getD i default) = f
      · have : ctxOf (raisedF h f g) ((chainF h g).getD i default) = -1 := by
          rw [e2 _ hin.1, if_neg hne, cutAt_at h2 h3 hx, ctx_set (by omega), if_pos rfl]
        rw [this]; exact .neg (by omega)
      · rcases ec _ hin.1 hne with q | ⟨_, q⟩
        · rw [q]
          rcases hc.at g0 hg h2 with ⟨q1, q2⟩ | ⟨q1, q2⟩
          · rw [← chain_step q1]
            exact ih (i + 1) (by omega) q1 (any_take h2 h3 (d := default) (decide_eq_false hx))
          · rw [q2]; exact .neg (by omega)
        · exact absurd q hx
  have hne := List.length_pos_iff.2 (chainF_ne (h := h) g0)
  have hg' : Ends (ctxOf (raisedF h f g)) g := by
    have := hEg (chainF h g).length 0 (by omega) hne rfl
    rwa [chain_head g0] at this
  have hall : ∀ a : Int, Ends (ctxOf h) a → Ends (ctxOf (raisedF h f g)) a := by
    intro a ha
    refine Ends.ind (p := fun a => Ends (ctxOf (raisedF h f g)) a) (fun a q => .neg q) (fun a a0 q => ?_) ha
    refine .step ?_
    by_cases e : f = a
    · rw [e2 a a0, if_pos e]; exact hg'
    · rcases ec a a0 e with q1 | ⟨q1, _⟩
      · rw [q1]; exact q
      · rw [q1]; exact .neg (by omega)
  refine .of_ends (fun k hk => ?_) (fun k hk => ?_)
  · rw [raisedF_len] at hk ⊢
    have hk2 := hc.ctx k hk
    show -1 ≤ ctxOf (raisedF h f g) (k : Int) ∧ ctxOf (raisedF h f g) (k : Int) < h.length
    by_cases e : f = k
    · rw [e2 k (by omega), if_pos e]; omega
    · rcases ec k (by omega) e with q1 | ⟨q1, _⟩
      · rw [q1]; exact hk2
      · rw [q1]; omega
  · rw [raisedF_len] at hk
    exact hall k (hc.ends (by omega) (by omega))
theorem Calm.nil : Calm [] := ⟨fun k hk => by simp at hk, fun k hk => by simp at hk⟩
theorem Calm.same {h h' : List Fault} (hc : Calm h) (hl : h'.length = h.length) (hx : ∀ k, k < h.length → (h'.getD k default).ctx = (h.getD k default).ctx) : Calm h' := by
  have e : ∀ a : Int, 0 ≤ a → a < h.length → ctxOf h' a = ctxOf h a := fun a a0 a1 => hx a.toNat (by omega)
  refine .of_ends (fun k hk => ?_) (fun k hk => ?_)
  · rw [hl] at hk ⊢; rw [hx k hk]; exact hc.ctx k hk
  · rw [hl] at hk
    have := hc.ends (k := k) (by omega) (by omega)
    refine Ends.ind (p := fun a => a < h.length → Ends (ctxOf h') a) (fun a q _ => .neg q) (fun a a0 q q1 => .step ?_) this (by omega)
    rw [e a a0 q1]
    exact q (hc.ctx a.toNat (by omega)).2
theorem Calm.add {h : List Fault} (hc : Calm h) {x : Fault} (hx : x.ctx = -1) : Calm (h ++ [x]) := by
  have e1 : ∀ a : Int, 0 ≤ a → a < h.length → ctxOf (h ++ [x]) a = ctxOf h a := fun a a0 a1 => by unfold ctxOf; rw [getD_app (by omega)]
  have e2 : ctxOf (h ++ [x]) h.length = -1 := by unfold ctxOf; simp [List.getD_eq_getElem?_getD, hx]
  refine .of_ends (fun k hk => ?_) (fun k hk => ?_)
  · rw [List.length_append, List.length_singleton] at hk ⊢
    show -1 ≤ ctxOf (h ++ [x]) (k : Int) ∧ ctxOf (h ++ [x]) (k : Int) < ((h.length + 1 : Nat) : Int)
    rcases Nat.lt_or_ge k h.length with q | q
    · rw [e1 k (by omega) (by omega)]
      have := hc.ctx k q
      unfold ctxOf
      simp only [Int.toNat_natCast]
      omega
    · have : k = h.length := by omega
      subst this
      rw [e2]; omega
  · rw [List.length_append, List.length_singleton] at hk
    rcases Nat.lt_or_ge k h.length with q | q
    · have := hc.ends (k := k) (by omega) (by omega)
      refine Ends.ind (p := fun a => a < h.length → Ends (ctxOf (h ++ [x])) a) (fun a q _ => .neg q) (fun a a0 q q1 => .step ?_) this (by omega)
      rw [e1 a a0 q1]
      exact q (hc.ctx a.toNat (by omega)).2
    · have : k = h.length := by omega
      subst this
      exact .step (by rw [e2]; exact .neg (by omega))
end
end
section
set_option maxRecDepth 100000
attribute [local go_sem ↓] aw_skip aw_ret aw_exit aw_region aw_draw aw_seq aw_block aw_loop aw_cond frz_nil frz_cons sq_normal sq_ret sq_exit exB_normal exB_ret exB_same exB_other retQ_ret retQ_normal ret0_ret ret0_normal ao_nil go1 g_move g_assign g_pick g_build g_load g_binOp g_unOp g_convert g_fieldAddr g_field g_indexAddr g_index g_extract g_lookup g_slice g_nilCheck g_len g_makeFunc h_call h_append h_alloc h_box h_buildSlice h_makeSlice h_store gV i_box i_buildSlice i_move i_assign i_build i_load i_binOp i_unOp i_convert i_fieldAddr i_field i_indexAddr i_index i_extract i_lookup i_makeMap i_mapUpdate i_slice i_nilCheck i_makeFunc i_len i_max i_min i_alloc i_makeSlice i_store i_append i_call i_pick boxI boxA buildSliceI buildSliceA makeSliceA makeMapA allocA storeA p_move p_assign p_pick p_build p_load p_binOp p_unOp p_convert p_fieldAddr p_field p_indexAddr p_index p_extract p_lookup p_makeMap p_mapUpdate p_slice p_nilCheck p_makeFunc p_len p_max p_min p_alloc p_box p_buildSlice p_makeSlice p_store p_append p_call x_nil x_go1 x_g0 x_g1 x_g2 x_g3 x_s0 x_s1 x_s2 x_s3 u_move u_assign u_pick u_build u_load u_binOp u_unOp u_convert u_fieldAddr u_field u_indexAddr u_index u_extract u_lookup u_slice u_nilCheck u_makeFunc u_len u_buildSlice
attribute [local go_sem] frzV_ptr frzV_sl frzK_some set_none set_other AHeap.set_self set_del set_set cnd_t cnd_f cnd_b retA_one retA_two retA_three retA_four retA_nil gIf_b mrgV_b mrgV_wh mrgV_U gIf_U gIf_wh mrgB_f mrgB_some mrgB_if wh_true wh_false keepA_some keepA_if gD_zero gD_succ gT_some bxA_t bxA_f callA_fn ev_tmp ev_const ev_global ev_func oc_bool oc_int oc_string oc_nil oc_nilptr oc_nilfunc cl_bool cl_int cl_string cl_nil updO_some updO_none upd_same upd_other init_at pickA_b pickA_wh selA_t selA_f selA_and selA_or selA_orn selA_orm selA_bb selA_ii beqt b_add b_sub b_mul b_and b_or b_xor b_eql b_neq b_lss b_leq b_gtr b_geq b_quo b_rem b_shr b_seql b_sneq b_sadd b_beql b_bneq b_aeql b_aneq u_not u_neg isConstOp eqA eqCellV List.getD_cons_zero List.getD_cons_succ List.map_cons List.map_nil List.nil_append List.cons_append List.append_nil if_true if_false Option.map_some Option.map_none ne_eq not_false_eq_true oneA ldv ld1v ld1s wr1s ldRow stRow row_lit row_agg row_vsl row_sl row_ptr row_fn one_I one_B one_S one_vsl one_sl one_ptr one_fn extractA okA rI rS rU rClass rFault rExit rStart rLine Int.toNat_natCast List.length_cons List.length_nil List.length_map List.all_cons List.all_nil Bool.and_true Nat.zero_add List.getElem?_cons_zero List.getElem?_cons_succ List.take_succ_cons List.take_zero List.drop_succ_cons List.drop_zero and_self true_and and_true implies_true decide_eq_true_eq decide_eq_false_iff_not Bool.or_eq_true Bool.or_eq_false_iff Bool.and_eq_true Bool.not_eq_true' Bool.not_eq_false' beq_false decide_true decide_false Int.ofNat_lt Int.ofNat_le Int.natCast_nonneg Bool.or_true Bool.or_false Bool.true_or Bool.false_or beq_self_eq_true List.drop_one Bool.not_true Bool.not_false Bool.not_not Bool.false_eq_true Bool.true_eq_false false_implies true_implies Bool.true_and Bool.false_and Bool.and_false not_true_eq_false Int.natCast_eq_zero Int.natCast_pos Int.natCast_zero false_and and_false or_false false_or or_true true_or Bool.or_self none_le_iff List.replicate_zero Int.toNat_zero List.replicate_succ buildRows List.set_cons_zero List.set_cons_succ List.set_nil List.mapM_nil maxLen_eq Nat.zero_le Nat.mul_one Nat.one_mul bldA fillA spliceA List.take_nil List.drop_nil List.getElem?_nil ld1o wr1o bldSliceA le_same ti1 ti2 tk2 ti3 te3 ts3 tk3 tz3 ti4 tb4 ti5 tk5 tz5 ti9 te9 ts9 tk9 tz9 ti12 tk12 ti13 tp13 tf13_0 tf13_1 ti20 ti21 tk21 tz21 ti22 te22 tz22 ti23 te23 ti24 tp24 tf24_0 ti25 tp25 tf25_0 ti26 te26 ti28 ti29 te29 ti30 te30 ti31 tp31 tf31_0 ti32 tp32 tf32_0 ti33 tp33 tf33_0 tf33_1 tf33_2 tf33_3 ti34 tp34 tf34_0 tf34_1 tf34_2 tf34_3 ti35 ti36 ti37 ti38 ti40 ti42 ti43 ti44 tq44 tp44 tf44_0 tf44_1 tf44_2 ti45 tq45 tp45 tf45_0 tf45_1 tf45_2 ti47 ti48 ti49 tq49 tp49 tf49_0 tf49_1 tf49_2 tf49_3 ti50 tq50 tp50 tf50_0 tf50_1 tf50_2 tf50_3 ti51 ti52 ti54 ti55 ti56 ti57 te57 ti59 ti60 ti61 ti62 ti63 ti64 ti65 ti66 ti67 ti68 tq68 tp68 tf68_0 tf68_1 ti69 tq69 tp69 tf69_0 tf69_1 ti70 ti71 ti72 ti73 ti74 ti75 ti77 ti78 ti79 ti80 ti81 ti82 ti83 ti84 ti85 tq85 tp85 tf85_0 tf85_1 tf85_2 tf85_3 tf85_4 ti86 tq86 tp86 tf86_0 tf86_1 tf86_2 tf86_3 tf86_4 ti87 ti88 ti89 ti90 ti91 ti93 ti94 ti95 ti96 ti97 tq97 tp97 tf97_0 tf97_1 tf97_2 ti98 tq98 tp98 tf98_0 tf98_1 tf98_2 ti99 ti100 ti101 ti102 ti103 ti104 ti105 ti106 ti107 tp107 tf107_0 tf107_1 ti108 tp108 tf108_0 tf108_1 ti109 tp109 tf109_0 tf109_1 tf109_2 tf109_3 tf109_4 ti110 tp110 tf110_0 tf110_1 tf110_2 tf110_3 tf110_4 ti111 ti113 ti114 ti115 ti116 ti117 ti118 ti119 ti120 tp120 tf120_0 tf120_1 tf120_2 tf120_3 ti121 tp121 tf121_0 tf121_1 tf121_2 tf121_3 ti122 tq122 tp122 tf122_0 tf122_1 ti123 tq123 tp123 tf123_0 tf123_1 ti124 ti125 ti126 tq126 tp126 tf126_0 tf126_1 ti127 tq127 tp127 tf127_0 tf127_1 ti128 ti129 ti130 ti131 ti132 ti133 te133 ti134 ti135 ti136 ti137 ti138 ti139 ti140 ti141 ti142 ti143 ti144 tp144 tf144_0 tf144_1 tf144_2 ti145 tp145 tf145_0 tf145_1 tf145_2 ti146 ti147 ti148 ti149 ti150 te150 ti151 ti152 ti153 ti154 ti155 ti156 ti157 ti158 ti159 ti160 ti161 ti162 ti163 ti164 ti165 ti166 ti167 ti168 ti169 ti170 ti171 ti172 ti173 ti174 ti175 tk175 tz175 ti176 ti177 ti178 ti179 ti180 tk180 ti182 ti183 ti184 ti186 ti187 ti188 tk188 tz188 ti189 ti190 tk190 tz190 ti191 tk191 ti192 ti193 ti194 ti195 ti196 ti197 ti199 ti200 ti206 ti210 ti215 fp13_0 fv13_0 fp13_1 fv13_1 fp24_0 fv24_0 fp25_0 fv25_0 fp31_0 fv31_0 fp32_0 fv32_0 fp33_0 fv33_0 fp33_1 fv33_1 fp33_2 fv33_2 fp33_3 fv33_3 fp34_0 fv34_0 fp34_1 fv34_1 fp34_2 fv34_2 fp34_3 fv34_3 fp44_0 fv44_0 fp44_1 fv44_1 fp44_2 fv44_2 fp45_0 fv45_0 fp45_1 fv45_1 fp45_2 fv45_2 fp49_0 fv49_0 fp49_1 fv49_1 fp49_2 fv49_2 fp49_3 fv49_3 fp50_0 fv50_0 fp50_1 fv50_1 fp50_2 fv50_2 fp50_3 fv50_3 fp68_0 fv68_0 fp68_1 fv68_1 fp69_0 fv69_0 fp69_1 fv69_1 fp85_0 fv85_0 fp85_1 fv85_1 fp85_2 fv85_2 fp85_3 fv85_3 fp85_4 fv85_4 fp86_0 fv86_0 fp86_1 fv86_1 fp86_2 fv86_2 fp86_3 fv86_3 fp86_4 fv86_4 fp97_0 fv97_0 fp97_1 fv97_1 fp97_2 fv97_2 fp98_0 fv98_0 fp98_1 fv98_1 fp98_2 fv98_2 fp107_0 fv107_0 fp107_1 fv107_1 fp108_0 fv108_0 fp108_1 fv108_1 fp109_0 fv109_0 fp109_1 fv109_1 fp109_2 fv109_2 fp109_3 fv109_3 fp109_4 fv109_4 fp110_0 fv110_0 fp110_1 fv110_1 fp110_2 fv110_2 fp110_3 fv110_3 fp110_4 fv110_4 fp120_0 fv120_0 fp120_1 fv120_1 fp120_2 fv120_2 fp120_3 fv120_3 fp121_0 fv121_0 fp121_1 fv121_1 fp121_2 fv121_2 fp121_3 fv121_3 fp122_0 fv122_0 fp122_1 fv122_1 fp123_0 fv123_0 fp123_1 fv123_1 fp126_0 fv126_0 fp126_1 fv126_1 fp127_0 fv127_0 fp127_1 fv127_1 fp144_0 fv144_0 fp144_1 fv144_1 fp144_2 fv144_2 fp145_0 fv145_0 fp145_1 fv145_1 fp145_2 fv145_2 lv22 ll22 is22 ix22 sh22 so22 sb22 sm22 sp22 lv23 ll23 is23 ix23 sh23 so23 sb23 sm23 sp23 lv26 ll26 is26 ix26 sh26 so26 sb26 sm26 sp26 lv29 ll29 is29 ix29 sh29 so29 sb29 sm29 sp29 lv30 ll30 is30 ix30 sh30 so30 sb30 sm30 sp30 lv57 ll57 is57 ix57 sh57 so57 sb57 sm57 sp57 lv133 ll133 is133 sp133 lv150 ll150 is150 ix150 sh150 so150 sb150 sm150 sp150 xs9 ls9 sx9 sy9 sz9
section
open Go Go.Sim
set_option maxRecDepth 100000
theorem Nums.nil (n : Nat) : Nums n [] where
  mem a ha := absurd ha (List.not_mem_nil)
  free := by have := freeN_nil n; simpa using this
end
section
open Go Go.Sim
set_option maxRecDepth 100000
/-- What a fault reaches. -/
inductive Rch (h : List Fault) (f : Int) : Int → Prop where
  | refl : Rch h f f
  | cause {a : Int} : Rch h f a → 0 ≤ causeOf h a → Rch h f (causeOf h a)
  | ctx {a : Int} : Rch h f a → 0 ≤ ctxOf h a → Rch h f (ctxOf h a)
end
section
open Go Go.Sim
set_option maxRecDepth 100000

/-- Where a number stands in a list; -1 if it does not. -/
def posF (S : List Int) (a : Int) : Int := idxF (fun x => decide (a = x)) S
theorem posF_mem {S : List Int} {a : Int} (h : a ∈ S) : 0 ≤ posF S a ∧ posF S a < S.length ∧ S.getD (posF S a).toNat default = a := by
  unfold posF
  induction S with
  | nil => cases h
  | cons b S ih =>
    simp only [idxF]
    by_cases e : a = b
    · rw [if_pos (by simpa using e)]
      refine ⟨by omega, by simp only [List.length_cons]; omega, ?_⟩
      show (b :: S).getD 0 default = a
      rw [List.getD_cons_zero, e]
    · have hm : a ∈ S := by
        rcases List.mem_cons.1 h with q | q
        · exact absurd q e
        · exact q
      obtain ⟨i1, i2, i3⟩ := ih hm
      rw [if_neg (by simpa using e), if_neg (by omega)]
      refine ⟨by omega, by simp only [List.length_cons]; omega, ?_⟩
      have : (idxF (fun x => decide (a = x)) S + 1).toNat = (idxF (fun x => decide (a = x)) S).toNat + 1 := by omega
      rw [this, List.getD_cons_succ, i3]
theorem posF_none {S : List Int} {a : Int} (h : a ∉ S) : posF S a = -1 := by
  unfold posF
  rw [idxF_neg, List.any_eq_false]
  intro x hx
  have : ¬ a = x := by rintro rfl; exact h hx
  simpa using this
theorem posF_inj {S : List Int} {a b : Int} (ha : a ∈ S) (hb : b ∈ S) (h : posF S a = posF S b) : a = b := by
  have h1 := (posF_mem ha).2.2
  have h2 := (posF_mem hb).2.2
  rw [h] at h1
  rw [← h1, h2]
theorem isoL_len (h : List Fault) (S : List Int) : (isoL h S).length = S.length := by simp [isoL]
theorem isoL_at {h : List Fault} {S : List Int} {k : Nat} (hk : k < S.length) : (isoL h S).getD k default = isoAt h S (S.getD k default) := by
  simp [isoL, List.getD_eq_getElem?_getD, hk]
theorem iso_ctx {h : List Fault} {S : List Int} {a : Int} (ha : a ∈ S) : ctxOf (isoL h S) (posF S a) = posF S (ctxOf h a) := by
  obtain ⟨h1, h2, h3⟩ := posF_mem ha
  unfold ctxOf
  rw [isoL_at (by omega), h3]
  rfl
theorem walk_iso {S : List Int} {n : Nat} (hS : ∀ a ∈ S, 0 ≤ a ∧ a < n) {nx nx' : Int → Int} (hnx : ∀ a ∈ S, nx a ∈ S ∨ nx a < 0) (hiso : ∀ a ∈ S, nx' (posF S a) = posF S (nx a)) :
    ∀ (fuel fuel' : Nat) (out : List Int) (f : Int), (f ∈ S ∨ f < 0) → (∀ a ∈ out, a ∈ S) → freeN n out < fuel → freeN S.length (out.map (posF S)) < fuel' → walkG nx' fuel' (out.map (posF S)) (posF S f) = (walkG nx fuel out f).map (posF S)
  | 0, fuel', out, f, _, _, h1, _ => by omega
  | fuel + 1, 0, out, f, _, _, _, h2 => by omega
  | fuel + 1, fuel' + 1, out, f, hf, ho, h1, h2 => by
    simp only [walkG]
    rcases hf with hf | hf
    · have hp := posF_mem hf
      have hany : ((out.map (posF S)).any fun x => decide (posF S f = x)) = (out.any fun x => decide (f = x)) := by
        rw [List.any_map, Bool.eq_iff_iff, List.any_eq_true, List.any_eq_true]
        constructor
        · rintro ⟨a, ha, q⟩
          exact ⟨a, ha, by simp only [Function.comp, decide_eq_true_eq] at q; simpa using posF_inj hf (ho a ha) q⟩
        · rintro ⟨a, ha, q⟩
          exact ⟨a, ha, by simp only [decide_eq_true_eq] at q; subst q; simp⟩
      rw [hany]
      cases hb : out.any fun x => decide (f = x)
      · rw [if_pos ⟨hp.1, rfl⟩, if_pos ⟨(hS f hf).1, rfl⟩, hiso f hf]
        have l1 := freeN_lt (hS f hf).1 (hS f hf).2 hb
        have l2 := freeN_lt (out := out.map (posF S)) hp.1 hp.2.1 (by rw [hany, hb])
        have e : out.map (posF S) ++ [posF S f] = (out ++ [f]).map (posF S) := by simp
        rw [e] at l2 ⊢
        refine walk_iso hS hnx hiso fuel fuel' (out ++ [f]) (nx f) (hnx f hf) (fun a ha => ?_) (by omega) (by omega)
        rcases List.mem_append.1 ha with q | q
        · exact ho a q
        · simp at q; subst q; exact hf
      · rw [if_neg (fun q => by cases q.2), if_neg (fun q => by cases q.2)]
    · have hn : f ∉ S := fun q => by have := hS f q; omega
      rw [posF_none hn, if_neg (by omega), if_neg (by omega)]
/-- What a set of faults reaches is in it. -/
structure Closed (h : List Fault) (S : List Int) : Prop where
  mem : ∀ a ∈ S, 0 ≤ a ∧ a < h.length
  cause : ∀ a ∈ S, causeOf h a ∈ S ∨ causeOf h a < 0
  ctx : ∀ a ∈ S, ctxOf h a ∈ S ∨ ctxOf h a < 0
theorem Closed.pos {h : List Fault} {S : List Int} (hc : Closed h S) {b : Int} (hb : b ∈ S ∨ b < 0) : (0 ≤ posF S b ↔ 0 ≤ b) ∧ (b < 0 → posF S b = -1) := by
  rcases hb with q | q
  · have h1 := (posF_mem q).1
    have h2 := (hc.mem b q).1
    exact ⟨⟨fun _ => h2, fun _ => h1⟩, fun w => by omega⟩
  · have hn : b ∉ S := fun w => by have := (hc.mem b w).1; omega
    rw [posF_none hn]
    exact ⟨⟨fun w => by omega, fun w => by omega⟩, fun _ => rfl⟩
def natsF (n : Nat) : List Int := (List.range n).map (fun (k : Nat) => (k : Int))
theorem Closed.last {h : List Fault} {S : List Int} (hc : Closed h S) (hcm : Calm h) {a : Int} (ha : a ∈ S) : ctxOf (isoL h S) (lastI (chainF (isoL h S) (posF S a))) = -1 := by
  have hw : chainF (isoL h S) (posF S a) = (chainF h a).map (posF S) := by
    unfold chainF
    rw [isoL_len]
    exact walk_iso (S := S) (n := h.length) hc.mem (nx := ctxOf h) (nx' := ctxOf (isoL h S)) hc.ctx (fun a ha => iso_ctx ha) (h.length + 1) (S.length + 1) [] a (.inl ha) (fun a ha => by cases ha) (by have := freeN_nil h.length; omega) (by have := freeN_nil S.length; simp only [List.map_nil]; omega)
  have h0 := hc.mem a ha
  have hne := List.length_pos_iff.2 (chainF_ne (h := h) h0.1)
  have hl : (chainF h a).length - 1 < (chainF h a).length := by omega
  have hmem : ∀ b ∈ chainF h a, b ∈ S := by
    intro b hb
    have key := walkG_mem (nx := ctxOf h) (p := fun a => a ∈ S ∨ a < 0) (fun a a0 ha => hc.ctx a (ha.resolve_right (by omega))) (h.length + 1) [] a (.inl ha) b hb
    rcases key with q | ⟨q0, q⟩
    · cases q
    · exact q.resolve_right (by omega)
  have hlm : lastI (chainF h a) ∈ S := hmem _ (by unfold lastI; rw [List.getD_eq_getElem?_getD, List.getElem?_eq_getElem hl]; exact List.getElem_mem hl)
  have e : lastI ((chainF h a).map (posF S)) = posF S (lastI (chainF h a)) := by
    unfold lastI
    rw [List.length_map, List.getD_eq_getElem?_getD, List.getD_eq_getElem?_getD, List.getElem?_map, List.getElem?_eq_getElem hl]; rfl
  have hlast := hcm.last a.toNat (by omega)
  rw [lastOk, decide_eq_true_eq, Int.toNat_of_nonneg h0.1] at hlast
  rw [hw, e, iso_ctx hlm, hlast]
  exact (hc.pos (.inr (by omega))).2 (by omega)
end
section
open Go Go.Sim
set_option maxRecDepth 100000
/-- What a program ends with. -/
structure RunOut (t : List Class) (r : En × RS) (R : Res) : Prop where
  valid : validH t R.heap = true
  low : 0 ≤ R.val
  high : R.val < R.heap.length
  reach : sortI (bfsF R.heap R.val) = natsF R.heap.length
  cls : (R.heap.getD R.val.toNat default).cls = clsOf r.2 r.1.val
  code : (R.heap.getD R.val.toNat default).code = (r.2.fs.getD r.1.val.toNat default).code
end
end
section
set_option maxRecDepth 100000
attribute [local go_sem ↓] aw_skip aw_ret aw_exit aw_region aw_draw aw_seq aw_block aw_loop aw_cond frz_nil frz_cons sq_normal sq_ret sq_exit exB_normal exB_ret exB_same exB_other retQ_ret retQ_normal ret0_ret ret0_normal ao_nil go1 g_move g_assign g_pick g_build g_load g_binOp g_unOp g_convert g_fieldAddr g_field g_indexAddr g_index g_extract g_lookup g_slice g_nilCheck g_len g_makeFunc h_call h_append h_alloc h_box h_buildSlice h_makeSlice h_store gV i_box i_buildSlice i_move i_assign i_build i_load i_binOp i_unOp i_convert i_fieldAddr i_field i_indexAddr i_index i_extract i_lookup i_makeMap i_mapUpdate i_slice i_nilCheck i_makeFunc i_len i_max i_min i_alloc i_makeSlice i_store i_append i_call i_pick boxI boxA buildSliceI buildSliceA makeSliceA makeMapA allocA storeA p_move p_assign p_pick p_build p_load p_binOp p_unOp p_convert p_fieldAddr p_field p_indexAddr p_index p_extract p_lookup p_makeMap p_mapUpdate p_slice p_nilCheck p_makeFunc p_len p_max p_min p_alloc p_box p_buildSlice p_makeSlice p_store p_append p_call x_nil x_go1 x_g0 x_g1 x_g2 x_g3 x_s0 x_s1 x_s2 x_s3 u_move u_assign u_pick u_build u_load u_binOp u_unOp u_convert u_fieldAddr u_field u_indexAddr u_index u_extract u_lookup u_slice u_nilCheck u_makeFunc u_len u_buildSlice x_s4 x_g4 rq_normal rq_ret rq_exit aw_range
attribute [local go_sem] frzV_sl frzK_some set_none set_other AHeap.set_self set_del set_set cnd_t cnd_f cnd_b retA_one retA_two retA_three retA_four retA_nil gIf_b mrgV_b mrgV_wh mrgV_U gIf_U gIf_wh mrgB_f mrgB_some mrgB_if wh_true wh_false keepA_some keepA_if gD_zero gD_succ gT_some bxA_t bxA_f callA_fn ev_tmp ev_const ev_global ev_func oc_bool oc_int oc_string oc_nil oc_nilptr oc_nilfunc cl_bool cl_int cl_string cl_nil updO_some updO_none upd_same upd_other init_at pickA_b pickA_wh selA_t selA_f selA_and selA_or selA_orn selA_orm selA_bb selA_ii beqt b_add b_sub b_mul b_and b_or b_xor b_eql b_neq b_lss b_leq b_gtr b_geq b_quo b_rem b_shr b_seql b_sneq b_sadd b_beql b_bneq b_aeql b_aneq u_not u_neg isConstOp eqA eqCellV List.getD_cons_zero List.getD_cons_succ List.map_cons List.map_nil List.nil_append List.cons_append List.append_nil if_true if_false Option.map_some Option.map_none ne_eq not_false_eq_true oneA ldv ld1v ld1s wr1s ldRow stRow row_lit row_agg row_vsl row_sl row_ptr row_fn one_I one_B one_S one_vsl one_sl one_ptr one_fn extractA okA rI rS rU rClass rFault rExit rStart rLine Int.toNat_natCast List.length_cons List.length_nil List.length_map List.all_cons List.all_nil Bool.and_true Nat.zero_add List.getElem?_cons_zero List.getElem?_cons_succ List.take_succ_cons List.take_zero List.drop_succ_cons List.drop_zero and_self true_and and_true implies_true decide_eq_true_eq decide_eq_false_iff_not Bool.or_eq_true Bool.or_eq_false_iff Bool.and_eq_true Bool.not_eq_true' Bool.not_eq_false' beq_false decide_true decide_false Int.ofNat_lt Int.ofNat_le Int.natCast_nonneg Bool.or_true Bool.or_false Bool.true_or Bool.false_or beq_self_eq_true List.drop_one Bool.not_true Bool.not_false Bool.not_not Bool.false_eq_true Bool.true_eq_false false_implies true_implies Bool.true_and Bool.false_and Bool.and_false not_true_eq_false Int.natCast_eq_zero Int.natCast_pos Int.natCast_zero false_and and_false or_false false_or or_true true_or Bool.or_self none_le_iff List.replicate_zero Int.toNat_zero List.replicate_succ buildRows List.set_cons_zero List.set_cons_succ List.set_nil List.mapM_nil maxLen_eq Nat.zero_le Nat.mul_one Nat.one_mul bldA fillA spliceA List.take_nil List.drop_nil List.getElem?_nil ld1o wr1o bldSliceA le_same cv_i cvI_t quietT_fn qvd_some ld_o ldO_1 ldO_l wr_o wrO_1 set_2 set_3 set_4 putL_nil putL_cons List.zip_cons_cons List.zip_nil_left List.zip_nil_right List.toList_toArray frzV_set ti1 ti2 tk2 ti3 te3 ts3 tk3 tz3 ti4 tb4 ti5 tk5 tz5 ti9 te9 ts9 tk9 tz9 ti12 tk12 ti13 tp13 tf13_0 tf13_1 ti20 ti21 tk21 tz21 ti22 te22 tz22 ti23 te23 ti24 tp24 tf24_0 ti25 tp25 tf25_0 ti26 te26 ti28 ti29 te29 ti30 te30 ti31 tp31 tf31_0 ti32 tp32 tf32_0 ti33 tp33 tf33_0 tf33_1 tf33_2 tf33_3 ti34 tp34 tf34_0 tf34_1 tf34_2 tf34_3 ti35 ti36 ti37 ti38 ti40 ti42 ti43 ti44 tq44 tp44 tf44_0 tf44_1 tf44_2 ti45 tq45 tp45 tf45_0 tf45_1 tf45_2 ti47 ti48 ti49 tq49 tp49 tf49_0 tf49_1 tf49_2 tf49_3 ti50 tq50 tp50 tf50_0 tf50_1 tf50_2 tf50_3 ti51 ti52 ti54 ti55 ti56 ti57 te57 ti59 ti60 ti61 ti62 ti63 ti64 ti65 ti66 ti67 ti68 tq68 tp68 tf68_0 tf68_1 ti69 tq69 tp69 tf69_0 tf69_1 ti70 ti71 ti72 ti73 ti74 ti75 ti77 ti78 ti79 ti80 ti81 ti82 ti83 ti84 ti85 tq85 tp85 tf85_0 tf85_1 tf85_2 tf85_3 tf85_4 ti86 tq86 tp86 tf86_0 tf86_1 tf86_2 tf86_3 tf86_4 ti87 ti88 ti89 ti90 ti91 ti93 ti94 ti95 ti96 ti97 tq97 tp97 tf97_0 tf97_1 tf97_2 ti98 tq98 tp98 tf98_0 tf98_1 tf98_2 ti99 ti100 ti101 ti102 ti103 ti104 ti105 ti106 ti107 tp107 tf107_0 tf107_1 ti108 tp108 tf108_0 tf108_1 ti109 tp109 tf109_0 tf109_1 tf109_2 tf109_3 tf109_4 ti110 tp110 tf110_0 tf110_1 tf110_2 tf110_3 tf110_4 ti111 ti113 ti114 ti115 ti116 ti117 ti118 ti119 ti120 tp120 tf120_0 tf120_1 tf120_2 tf120_3 ti121 tp121 tf121_0 tf121_1 tf121_2 tf121_3 ti122 tq122 tp122 tf122_0 tf122_1 ti123 tq123 tp123 tf123_0 tf123_1 ti124 ti125 ti126 tq126 tp126 tf126_0 tf126_1 ti127 tq127 tp127 tf127_0 tf127_1 ti128 ti129 ti130 ti131 ti132 ti133 te133 ti134 ti135 ti136 ti137 ti138 ti139 ti140 ti141 ti142 ti143 ti144 tp144 tf144_0 tf144_1 tf144_2 ti145 tp145 tf145_0 tf145_1 tf145_2 ti146 ti147 ti148 ti149 ti150 te150 ti151 ti152 ti153 ti154 ti155 ti156 ti157 ti158 ti159 ti160 ti161 ti162 ti163 ti164 ti165 ti166 ti167 ti168 ti169 ti170 ti171 ti172 ti173 ti174 ti175 tk175 tz175 ti176 ti177 ti178 ti179 ti180 tk180 ti182 ti183 ti184 ti186 ti187 ti188 tk188 tz188 ti189 ti190 tk190 tz190 ti191 tk191 ti192 ti193 ti194 ti195 ti196 ti197 ti199 ti200 ti206 ti210 ti215 fp13_0 fv13_0 fp13_1 fv13_1 fp24_0 fv24_0 fp25_0 fv25_0 fp31_0 fv31_0 fp32_0 fv32_0 fp33_0 fv33_0 fp33_1 fv33_1 fp33_2 fv33_2 fp33_3 fv33_3 fp34_0 fv34_0 fp34_1 fv34_1 fp34_2 fv34_2 fp34_3 fv34_3 fp44_0 fv44_0 fp44_1 fv44_1 fp44_2 fv44_2 fp45_0 fv45_0 fp45_1 fv45_1 fp45_2 fv45_2 fp49_0 fv49_0 fp49_1 fv49_1 fp49_2 fv49_2 fp49_3 fv49_3 fp50_0 fv50_0 fp50_1 fv50_1 fp50_2 fv50_2 fp50_3 fv50_3 fp68_0 fv68_0 fp68_1 fv68_1 fp69_0 fv69_0 fp69_1 fv69_1 fp85_0 fv85_0 fp85_1 fv85_1 fp85_2 fv85_2 fp85_3 fv85_3 fp85_4 fv85_4 fp86_0 fv86_0 fp86_1 fv86_1 fp86_2 fv86_2 fp86_3 fv86_3 fp86_4 fv86_4 fp97_0 fv97_0 fp97_1 fv97_1 fp97_2 fv97_2 fp98_0 fv98_0 fp98_1 fv98_1 fp98_2 fv98_2 fp107_0 fv107_0 fp107_1 fv107_1 fp108_0 fv108_0 fp108_1 fv108_1 fp109_0 fv109_0 fp109_1 fv109_1 fp109_2 fv109_2 fp109_3 fv109_3 fp109_4 fv109_4 fp110_0 fv110_0 fp110_1 fv110_1 fp110_2 fv110_2 fp110_3 fv110_3 fp110_4 fv110_4 fp120_0 fv120_0 fp120_1 fv120_1 fp120_2 fv120_2 fp120_3 fv120_3 fp121_0 fv121_0 fp121_1 fv121_1 fp121_2 fv121_2 fp121_3 fv121_3 fp122_0 fv122_0 fp122_1 fv122_1 fp123_0 fv123_0 fp123_1 fv123_1 fp126_0 fv126_0 fp126_1 fv126_1 fp127_0 fv127_0 fp127_1 fv127_1 fp144_0 fv144_0 fp144_1 fv144_1 fp144_2 fv144_2 fp145_0 fv145_0 fp145_1 fv145_1 fp145_2 fv145_2 lv22 ll22 is22 ix22 sh22 so22 sb22 sm22 sp22 lv23 ll23 is23 ix23 sh23 so23 sb23 sm23 sp23 lv26 ll26 is26 ix26 sh26 so26 sb26 sm26 sp26 lv29 ll29 is29 ix29 sh29 so29 sb29 sm29 sp29 lv30 ll30 is30 ix30 sh30 so30 sb30 sm30 sp30 lv57 ll57 is57 ix57 sh57 so57 sb57 sm57 sp57 lv133 ll133 is133 sp133 lv150 ll150 is150 ix150 sh150 so150 sb150 sm150 sp150 xs9 ls9 sx9 sy9 sz9
section
open Go Go.Sim
set_option maxRecDepth 100000
set_option maxHeartbeats 4000000

theorem u_min {P : Program} {H : AHeap} {tm : Tm} {x y : Operand} {ts : Array TypeId} : pureA P H tm (.call ⟨.builtin .min, #[x, y], ts⟩) = minmaxA false (ev tm x) (ev tm y) := rfl
theorem mm_min {a b : Int} : minmaxA false (I a) (I b) = some (I (min a b)) := by simp [minmaxA]
theorem mm_max {a b : Int} : minmaxA true (I a) (I b) = some (I (max a b)) := by simp [minmaxA]
theorem c_DrawProgramOf (F : AHeap) (bs : List UInt8) (cb : Bool) : ACalls Tryz.prog 30 [.vsl (bs.map rU) cb] F fun r H' =>
    ∃ t cl, ∃ l : List Exi, ∃ cl', ∃ x : Sta, r = .tup [aTree t cl, .vsl (l.map rExit) cl', .agg (rStart x)] ∧ H' = F ∧ shortNames t ∧ t.length ≤ 8 ∧ l.length ≤ 8 := by
  refine acalls_of1 Tryz.func30 rfl (by kernel_rfl) rfl rfl (awp_sound (fz := fun _ => []) (im := fun _ => false) mixed _ _ _ _ (by kernel_rfl) ?_)
  simp +contextual -dsimp -implicitDefEqProofs (maxSteps := 5000000) only [go_sem, reduceIte, reduceCtorEq, Nat.reduceEqDiff, Nat.reduceBEq, Nat.reduceAdd, Nat.reduceLeDiff, Nat.reduceMul, Nat.reduceLT, Int.reduceEq, Int.reduceLT, Int.reduceLE]
  rintro b2 h2 b4 ⟨p1, p2, h4⟩
  refine (c_newReader bs cb _).mono ?_
  rintro _ H' ⟨br, rfl, hR⟩
  obtain ⟨K1, hK1, rfl⟩ := rd_to hR
  have f4 : ∀ K2 K4, ((F.set b2 K2).set b4 K4) br = none := by
    have q := hR; obtain ⟨_, _, _, _, _, q, _⟩ := q
    rw [set_none, set_none] at q
    intro K2 K4; rw [set_none, set_none]; exact q
  have q1 := f4 ⟨1, 0, []⟩ ⟨1, 0, []⟩
  rw [set_none, set_none] at q1
  obtain ⟨u1, u2, u3, u4, hr⟩ := q1
  simp +contextual -dsimp -implicitDefEqProofs (maxSteps := 5000000) only [go_sem, reduceIte, reduceCtorEq, Nat.reduceEqDiff, Nat.reduceBEq, Nat.reduceAdd, Nat.reduceLeDiff, Nat.reduceMul, Nat.reduceLT, Int.reduceEq, Int.reduceLT, Int.reduceLE]
  refine (c_someExitsF _ br 0 K1 hK1 (f4 _ _) (by omega)).mono ?_
  rintro _ _ ⟨t, cl, l, cl', K2, rfl, rfl, hK2, ht8, hs, hl8⟩
  simp +contextual -dsimp -implicitDefEqProofs (maxSteps := 5000000) only [go_sem, reduceIte, reduceCtorEq, Nat.reduceEqDiff, Nat.reduceBEq, Nat.reduceAdd, Nat.reduceLeDiff, Nat.reduceMul, Nat.reduceLT, Int.reduceEq, Int.reduceLT, Int.reduceLE]
  intro b6 hb6
  obtain ⟨v1, v2, v3, v4, v5, v6, hb6⟩ := hb6
  rw [br_out v1]
  have n6 : ∀ K3 K4 K5, (((F.set b2 K3).set b4 K4).set b6 K5) br = none := fun K3 K4 K5 => by rw [set_other v2]; exact f4 _ _
  refine draw_intro [1, 0, 0, 0, 0, 0, 3, 0, 0, 0, 1, 3, 2, 0, 2] _ (by kernel_rfl) (le_set (n6 _ _ _)) ?_
  simp +contextual -dsimp -implicitDefEqProofs (maxSteps := 5000000) only [go_sem, reduceIte, reduceCtorEq, Nat.reduceEqDiff, Nat.reduceBEq, Nat.reduceAdd, Nat.reduceLeDiff, Nat.reduceMul, Nat.reduceLT, Int.reduceEq, Int.reduceLT, Int.reduceLE, p1, p2, v1, v2, v3, v4, v5, v6]
  refine k_one [3, 4, 5, 8] _ hK2 (n6 _ _ _) (by omega) (by simp) rfl rfl fun n K3 hn hK3 => ?_
  refine ⟨le_set (n6 _ _ _), ?_⟩
  simp +contextual -dsimp -implicitDefEqProofs (maxSteps := 5000000) only [go_sem, reduceIte, reduceCtorEq, Nat.reduceEqDiff, Nat.reduceBEq, Nat.reduceAdd, Nat.reduceLeDiff, Nat.reduceMul, Nat.reduceLT, Int.reduceEq, Int.reduceLT, Int.reduceLE, p1, p2, u1, u2, u3, u4, v1, v2, v3, v4, v5, v6, u_min, mm_min]
  have hn0 : 0 ≤ n ∧ n ≤ 8 := by simp at hn; omega
  refine ⟨⟨by omega, by omega⟩, ?_⟩
  refine (c_aStart _ br _ K3 t cl hK3 (n6 _ _ _) (by omega)).mono ?_
  rintro _ _ ⟨x, K4, rfl, rfl⟩
  refine ⟨le_set (n6 _ _ _), ?_⟩
  simp +contextual -dsimp -implicitDefEqProofs (maxSteps := 5000000) only [go_sem, reduceIte, reduceCtorEq, Nat.reduceEqDiff, Nat.reduceBEq, Nat.reduceAdd, Nat.reduceLeDiff, Nat.reduceMul, Nat.reduceLT, Int.reduceEq, Int.reduceLT, Int.reduceLE, p1, p2, u1, u2, u3, u4, v1, v2, v3, v4, v5, v6]
  refine retR_less (l := [aTree t cl, .vsl ((l.take (min (l.length : Int) n).toNat).map rExit) (clipOf none (min (l.length : Int) n) l.length cl'), .agg (rStart x)]) (H' := F) ?_ (le_s1 (le_s1 (le_s1 (le_s1 (AHeap.le_refl _) h2) h4) hb6) hr) ⟨t, cl, _, _, x, rfl, rfl, hs, ht8, by simp; omega⟩
  simp only [resA, go_sem, reduceIte, reduceCtorEq, Nat.reduceEqDiff, Nat.reduceBEq, Nat.reduceAdd, Nat.reduceLeDiff, Nat.reduceMul, Nat.reduceLT, Int.reduceEq, Int.reduceLT, Int.reduceLE, p1, p2, u1, u2, u3, u4, v1, v2, v3, v4, v5, v6]
  try rw [List.map_take]
theorem takeL_snoc {p : List Line} {k : Nat} (h : k < p.length) : p.take (k + 1) = p.take k ++ [p.getD k default] := by
  rw [List.take_add_one, List.getD_eq_getElem?_getD, List.getElem?_eq_getElem h]; rfl
theorem c_LawProgramOf (bs : List UInt8) (cb : Bool) (H : AHeap) : ACalls Tryz.prog 8 [.vsl (bs.map rU) cb] H fun r H' => r = B true ∧ H' = H := by
  refine acalls_of1 Tryz.func8 rfl (by kernel_rfl) rfl rfl (awp_sound (fz := fun _ => []) (im := fun _ => false) mixed _ _ _ _ (by kernel_rfl) ?_)
  simp +contextual -dsimp -implicitDefEqProofs (maxSteps := 5000000) only [go_sem, reduceIte, reduceCtorEq, Nat.reduceEqDiff, Nat.reduceBEq, Nat.reduceAdd, Nat.reduceLeDiff, Nat.reduceMul, Nat.reduceLT, Int.reduceEq, Int.reduceLT, Int.reduceLE]
  refine ⟨fun hbig => ?_, fun hsmall => ?_⟩
  · refine retR_less (l := [B true]) (H' := H) ?_ (AHeap.le_refl _) ⟨rfl, rfl⟩
    simp only [resA, go_sem, reduceIte, reduceCtorEq, Nat.reduceEqDiff, Nat.reduceBEq, Nat.reduceAdd, Nat.reduceLeDiff, Nat.reduceMul, Nat.reduceLT, Int.reduceEq, Int.reduceLT, Int.reduceLE]
  refine (c_DrawProgramOf H bs cb).mono ?_
  rintro _ H1 ⟨t, cl, l, cl', x, rfl, hH, hs, ht8, hl8⟩
  rw [hH]
  have hn := short_ok hs
  have hok := progP_ok l x
  have hlen := hok.len
  have eqv : ∀ l : List Line, decide (l = l) = true := fun l => by simp
  simp +contextual -dsimp -implicitDefEqProofs (maxSteps := 5000000) only [go_sem, reduceIte, reduceCtorEq, Nat.reduceEqDiff, Nat.reduceBEq, Nat.reduceAdd, Nat.reduceLeDiff, Nat.reduceMul, Nat.reduceLT, Int.reduceEq, Int.reduceLT, Int.reduceLE]
  rintro b3 h3 b5 ⟨p1, p2, h5⟩
  have le3 : ∀ K3 K5, AHeap.le H ((H.set b3 K3).set b5 K5) := fun _ _ => le_s1 (le_s1 (AHeap.le_refl _) h3) h5
  refine (c_mProgramOf t cl l cl' x _ hn).mono ?_
  rintro _ _ ⟨⟨c1, rfl⟩, rfl⟩
  simp +contextual -dsimp -implicitDefEqProofs (maxSteps := 5000000) only [go_sem, reduceIte, reduceCtorEq, Nat.reduceEqDiff, Nat.reduceBEq, Nat.reduceAdd, Nat.reduceLeDiff, Nat.reduceMul, Nat.reduceLT, Int.reduceEq, Int.reduceLT, Int.reduceLE, p1, p2]
  refine (c_sProgramOf t cl l cl' x _ hn).mono ?_
  rintro _ _ ⟨⟨c2, rfl⟩, rfl⟩
  simp +contextual -dsimp -implicitDefEqProofs (maxSteps := 5000000) only [go_sem, reduceIte, reduceCtorEq, Nat.reduceEqDiff, Nat.reduceBEq, Nat.reduceAdd, Nat.reduceLeDiff, Nat.reduceMul, Nat.reduceLT, Int.reduceEq, Int.reduceLT, Int.reduceLE, p1, p2]
  refine (c_equalLines _ _ _ _ _).det ?_
  rw [eqv]
  cases hb : mkB (validX t l && startOk t x) t (progP l x)
  · simp +contextual -dsimp -implicitDefEqProofs (maxSteps := 5000000) only [go_sem, reduceIte, reduceCtorEq, Nat.reduceEqDiff, Nat.reduceBEq, Nat.reduceAdd, Nat.reduceLeDiff, Nat.reduceMul, Nat.reduceLT, Int.reduceEq, Int.reduceLT, Int.reduceLE, p1, p2]
    refine (c_equalLines _ _ _ _ _).det ?_
    rw [eqv]
    simp +contextual -dsimp -implicitDefEqProofs (maxSteps := 5000000) only [go_sem, reduceIte, reduceCtorEq, Nat.reduceEqDiff, Nat.reduceBEq, Nat.reduceAdd, Nat.reduceLeDiff, Nat.reduceMul, Nat.reduceLT, Int.reduceEq, Int.reduceLT, Int.reduceLE, p1, p2]
    refine retR_less (l := [B true]) (H' := H) ?_ (le3 _ _) ⟨rfl, rfl⟩
    simp only [resA, go_sem, reduceIte, reduceCtorEq, Nat.reduceEqDiff, Nat.reduceBEq, Nat.reduceAdd, Nat.reduceLeDiff, Nat.reduceMul, Nat.reduceLT, Int.reduceEq, Int.reduceLT, Int.reduceLE]
  · obtain ⟨hvx, hvp, hvb, emk⟩ := mk_true hb
    rw [emk]
    have hvx2 := hvx
    rw [Bool.and_eq_true] at hvx2
    have he := exits_law hvx2.1 hvx2.2
    rw [res_same (closeX_ok hvx2.1 hvx2.2)] at he
    have hpd := prog_deep l x
    simp +contextual -dsimp -implicitDefEqProofs (maxSteps := 5000000) only [go_sem, reduceIte, reduceCtorEq, Nat.reduceEqDiff, Nat.reduceBEq, Nat.reduceAdd, Nat.reduceLeDiff, Nat.reduceMul, Nat.reduceLT, Int.reduceEq, Int.reduceLT, Int.reduceLE, p1, p2]
    refine aloop mixed (fz := fun r => if r = 3 then [3, 5] else []) (im := fun _ => false) (by kernel_rfl) (fun m tm H' => ∃ k : Nat, m = (progP l x).length - k ∧ k ≤ (progP l x).length ∧ H' = (H.set b3 ⟨1, 25, [[.vsl (t.map rClass) cl]]⟩).set b5 ⟨3, 45, [[B x.has, I x.cls, I x.code]]⟩ ∧ tm 3 = .ptr b3 1 0 0 ∧ tm 4 = .vsl (l.map rExit) cl' ∧ tm 5 = .ptr b5 3 0 0 ∧ tm 6 = aProg (progP l x) c1 ∧ tm 11 = I k ∧ tm 10 = I (((progP l x).take k).foldl (fun n x => max n x.depth) 0)) (progP l x).length ⟨0, rfl, by omega, rfl, ?_⟩ ?_
    · simp +contextual -dsimp -implicitDefEqProofs (maxSteps := 5000000) only [go_sem, reduceIte, reduceCtorEq, Nat.reduceEqDiff, Nat.reduceBEq, Nat.reduceAdd, Nat.reduceLeDiff, Nat.reduceMul, Nat.reduceLT, Int.reduceEq, Int.reduceLT, Int.reduceLE]
      rfl
    · rintro m tm H2 ⟨k, rfl, hk, rfl, t3, t4, t5, t6, t11, t10⟩
      by_cases hlt : k < (progP l x).length
      · simp +contextual -dsimp -implicitDefEqProofs (maxSteps := 5000000) only [go_sem, reduceIte, reduceCtorEq, Nat.reduceEqDiff, Nat.reduceBEq, Nat.reduceAdd, Nat.reduceLeDiff, Nat.reduceMul, Nat.reduceLT, Int.reduceEq, Int.reduceLT, Int.reduceLE, t3, t4, t5, t6, t11, t10, hlt, p_max, i_max, mm_max]
        refine ⟨_, by omega, k + 1, rfl, hlt, I_wrap (by omega) (by omega) (by omega), ?_⟩
        rw [takeL_snoc hlt, List.foldl_append]
        rfl
      · have hk2 : k = (progP l x).length := by omega
        rw [hk2, List.take_length, show (progP l x).foldl (fun n x => max n x.depth) 0 = (l.length : Int) from hpd] at t10
        simp +contextual -dsimp -implicitDefEqProofs (maxSteps := 5000000) only [go_sem, reduceIte, reduceCtorEq, Nat.reduceEqDiff, Nat.reduceBEq, Nat.reduceAdd, Nat.reduceLeDiff, Nat.reduceMul, Nat.reduceLT, Int.reduceEq, Int.reduceLT, Int.reduceLE, t3, t4, t5, t6, t11, t10, hlt]
        refine draw_intro [0, 0, 3, 1, 0, 1, 2, 2, 0, 0, 0, 0, 0, 0, 0] _ (by kernel_rfl) (AHeap.le_refl _) ?_
        simp +contextual -dsimp -implicitDefEqProofs (maxSteps := 5000000) only [go_sem, reduceIte, reduceCtorEq, Nat.reduceEqDiff, Nat.reduceBEq, Nat.reduceAdd, Nat.reduceLeDiff, Nat.reduceMul, Nat.reduceLT, Int.reduceEq, Int.reduceLT, Int.reduceLE, t3, t4, t5, t6, t11, t10, hlt, p1, p2]
        refine (c_mRun t cl (progP l x) c1 _ hn (by omega) hvb).mono ?_
        rintro _ _ ⟨⟨c7, c8, rfl⟩, rfl⟩
        rw [he]
        simp +contextual -dsimp -implicitDefEqProofs (maxSteps := 5000000) only [go_sem, reduceIte, reduceCtorEq, Nat.reduceEqDiff, Nat.reduceBEq, Nat.reduceAdd, Nat.reduceLeDiff, Nat.reduceMul, Nat.reduceLT, Int.reduceEq, Int.reduceLT, Int.reduceLE, t3, t4, t5, t6, t11, t10, hlt, p1, p2]
        refine (c_mCloseExitsF t cl l cl' x _ hn).mono ?_
        rintro _ _ ⟨⟨c9, c10, rfl⟩, rfl⟩
        rw [if_pos hvx]
        simp +contextual -dsimp -implicitDefEqProofs (maxSteps := 5000000) only [go_sem, reduceIte, reduceCtorEq, Nat.reduceEqDiff, Nat.reduceBEq, Nat.reduceAdd, Nat.reduceLeDiff, Nat.reduceMul, Nat.reduceLT, Int.reduceEq, Int.reduceLT, Int.reduceLE, t3, t4, t5, t6, t11, t10, hlt, p1, p2]
        refine (c_equalResult _ _ _ _ _ _ _).det ?_
        rw [resEq_refl]
        simp +contextual -dsimp -implicitDefEqProofs (maxSteps := 5000000) only [go_sem, reduceIte, reduceCtorEq, Nat.reduceEqDiff, Nat.reduceBEq, Nat.reduceAdd, Nat.reduceLeDiff, Nat.reduceMul, Nat.reduceLT, Int.reduceEq, Int.reduceLT, Int.reduceLE, t3, t4, t5, t6, t11, t10, hlt, p1, p2]
        refine retR_less (l := [B true]) (H' := H) ?_ (le3 _ _) ⟨rfl, rfl⟩
        simp only [resA, go_sem, reduceIte, reduceCtorEq, Nat.reduceEqDiff, Nat.reduceBEq, Nat.reduceAdd, Nat.reduceLeDiff, Nat.reduceMul, Nat.reduceLT, Int.reduceEq, Int.reduceLT, Int.reduceLE]
end
end
end Go.Proofs.YtckipeopgimenaaGreat
